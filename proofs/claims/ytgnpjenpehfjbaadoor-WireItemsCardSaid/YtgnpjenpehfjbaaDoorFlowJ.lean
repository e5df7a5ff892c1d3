/- A region that draws its order, by what holds of the world while it runs, with any number of stores: the operations ys 0, ys 1, .. yield values into slots, the others store; J says of the world what holds when the operations marked in d have run, with these values. And one operation of a plain region, by its run. -/
import Derived.Test.YtgnpjenpehfjbaaDoorFlow2
namespace Go.Proofs.YtgnpjenpehfjbaaDoor
open Go.RowKit
variable {P : Program}

theorem wpList_run {ops : Array Oper} {rest : List Oper} {o : Oper} {a : Act} {Q : Exit → Act → World → Prop} {w w' : World} {v : Value} (hgd : o.guard = none) (hr : (execOp a.eval o).run P w = .ok (.value v) w') (h : wpList P ops Q rest (a.put o.dst v) w') : wpList P ops Q (o :: rest) a w :=
  wpList_plain hgd fun _ hK => by unfold Oper.wp; rw [hr]; exact hK _ _ h
theorem wpList_skip {ops : Array Oper} {rest : List Oper} {o : Oper} {a : Act} {Q : Exit → Act → World → Prop} {w w' : World} (hgd : o.guard = none) (hd : o.dst = none) (hr : (execOp a.eval o).run P w = .ok .skip w') (h : wpList P ops Q rest a w') : wpList P ops Q (o :: rest) a w :=
  wpList_plain hgd fun _ hK => by unfold Oper.wp; rw [hr]; exact hK _ _ (by first | exact h | (rw [hd]; exact h))

def updC (d : Nat → Bool) (i : Nat) : Nat → Bool := fun j => if j = i then true else d j
def updW (vs : Nat → Value) (i : Nat) (v : Value) : Nat → Value := fun j => if j = i then v else vs j

theorem wp_flow_inv2 {ops : Array Oper} {Q : Exit → Act → World → Prop} {id : Nat} {a0 : Act} {w : World} (hm : P.follows .mixedOrders = true) (hline : lineUp ops = true) (m n : Nat) (hsz : ops.size = m) (ys : Nat → Nat)
    (D : Nat → Nat) (hD : ((List.range n).all fun j => (ops.getD (ys j) default).dst == some (D j)) = true)
    (hst : ((List.range m).all fun i => (List.range n).any (fun j => ys j == i) || (ops.getD i default).dst == none) = true)
    (hyi : ((List.range n).all fun i => (List.range i).all fun j => ys i != ys j) = true) (hyl : ((List.range n).all fun j => decide (ys j < m)) = true)
    (hDs : ((List.range n).all fun i => decide (D i < a0.tmps.size)) = true)
    (hDi : ((List.range n).all fun i => (List.range i).all fun j => D i != D j) = true)
    (hng : ((List.range m).all fun i => (ops.getD i default).guard == none) = true)
    (F : Nat → Value → Prop) (J : (Nat → Bool) → (Nat → Value) → World → Prop)
    (h0 : ∀ vs, J (fun _ => false) vs w.drew)
    (hstep : ∀ (i : Nat) (o : Oper) (a : Act) (W : World) (d : Nat → Bool) (vs : Nat → Value), i < m → ops.getD i default = o → d i = false → J d vs W →
      (∀ s, ((List.range n).all fun j => D j != s) = true → a.tmps.getD s undef = a0.tmps.getD s undef) →
      (∀ k, (o.after.any fun e => Region.binds .any e && e.on == k) = true → d k = true) →
      (∀ j, j < n → d (ys j) = true → F j (vs j) ∧ a.tmps.getD (D j) undef = vs j) →
      (∃ j, j < n ∧ ys j = i ∧ ∃ v W', (execOp a.eval o).run P W = .ok (.value v) W' ∧ F j v ∧ J (updC d i) (updW vs j v) W') ∨
      (o.dst = none ∧ ∃ W', (execOp a.eval o).run P W = .ok .skip W' ∧ J (updC d i) vs W'))
    (hend : ∀ (d : Nat → Bool) (vs : Nat → Value) (W : World), (∀ i, i < m → d i = true) → J d vs W → (∀ j, j < n → F j (vs j)) → Q .normal (puts D vs n a0) W) : (Code.region id ops true).wp P Q a0 w := by
  have hyl' : ∀ j, j < n → ys j < m := fun j hj => by simpa using List.all_eq_true.1 hyl j (List.mem_range.2 hj)
  have hD' : ∀ j o, j < n → ops[ys j]? = some o → o.dst = some (D j) := by
    intro j o hj ho
    have h1 := List.all_eq_true.1 hD j (List.mem_range.2 hj)
    have h2 : ops.getD (ys j) default = o := by
      have := (Array.getElem?_eq_some_iff.1 ho).2
      simp [Array.getD, hsz, hyl' j hj, this]
    rw [h2] at h1
    simpa using h1
  have hDs' : ∀ i, i < n → D i < a0.tmps.size := fun i hi => by simpa using List.all_eq_true.1 hDs i (List.mem_range.2 hi)
  have inj : ∀ (f : Nat → Nat), ((List.range n).all fun i => (List.range i).all fun j => f i != f j) = true → ∀ i j, i < n → j < n → f i = f j → i = j := by
    intro f hf
    have key : ∀ i j, i < n → j < i → f i ≠ f j := fun i j hi hj => by
      have h1 := List.all_eq_true.1 hf i (List.mem_range.2 hi)
      have h2 := List.all_eq_true.1 h1 j (List.mem_range.2 hj)
      simpa using h2
    intro i j hi hj he
    rcases Nat.lt_trichotomy i j with h | h | h
    · exact absurd he.symm (key j i hj h)
    · exact h
    · exact absurd he (key i j hi h)
  have hDi' := inj D hDi
  have hyi' := inj ys hyi
  refine wpIn_wide (n := 5).1 (wpIn_region_inv hm hline (fun d a W => a.tmps.size = a0.tmps.size ∧ a.defers = a0.defers ∧
    (∀ s, (∀ j, j < n → D j ≠ s) → a.tmps.getD s undef = a0.tmps.getD s undef) ∧ ∃ vs, (∀ j, j < n → d (ys j) = true → F j (vs j) ∧ a.tmps.getD (D j) undef = vs j) ∧ J d vs W) ?_ ?_ ?_)
  · exact ⟨rfl, rfl, fun _ _ => rfl, fun _ => undef, fun _ _ h => (by cases h), h0 _⟩
  · rintro d d' i o a W hdep ⟨hasz, hdf, hfr, vs, hFd, hJ⟩ ho hdi hd'i hdne hready
    have hi : i < m := by rw [← hsz]; exact (Array.getElem?_eq_some_iff.1 ho).1
    have hgo : ops.getD i default = o := by
      have := (Array.getElem?_eq_some_iff.1 ho).2
      simp [Array.getD, hsz, hi, this]
    have hgn : o.guard = none := by
      have h1 := List.all_eq_true.1 hng i (List.mem_range.2 hi)
      rw [hgo] at h1
      cases hgg : o.guard with
      | none => rfl
      | some p => rw [hgg] at h1; exact absurd h1 (by simp)
    have hdd : d' = updC d i := by
      funext j
      unfold updC
      by_cases hj : j = i
      · subst hj; rw [if_pos rfl]; exact hd'i
      · rw [if_neg hj]; exact hdne j hj
    have hfr' : ∀ s, ((List.range n).all fun j => D j != s) = true → a.tmps.getD s undef = a0.tmps.getD s undef := fun s hs => hfr s fun j hj => by
      have := List.all_eq_true.1 hs j (List.mem_range.2 hj)
      simpa using this
    have hst2 := hstep i o a W d vs hi hgo hdi hJ hfr' (fun k hk => by
      obtain ⟨u, hu, hbu⟩ := Array.any_eq_true.1 hk
      simp only [Bool.and_eq_true, beq_iff_eq] at hbu
      obtain ⟨hb, rfl⟩ := hbu
      exact hready _ (Array.getElem_mem hu) hb) hFd
    have hw : Region.wanted o (yielded ops a.tmps) = true := by unfold Region.wanted; rw [hgn]
    unfold wpOpIn
    rw [ho]
    simp only
    rw [if_pos hw]
    refine ⟨fun f _ => trivial, ?_⟩
    rw [show Fence.wide.round = none from rfl, Oper.semAt_none]
    rcases hst2 with ⟨j, hjn, hyj, v, W', hrun, hv, hJ'⟩ | ⟨hdst, W', hrun, hJ'⟩
    · rw [hrun]
      show _ ∧ _
      subst hyj
      rw [hD' j o hjn ho]
      refine ⟨by rw [size_puts]; exact hasz, hdf, fun s hs => by rw [getD_puts (Ne.symm (hs j hjn))]; exact hfr s hs, updW vs j v, fun k hk hdk => ?_, by rw [hdd]; exact hJ'⟩
      by_cases hki : k = j
      · subst hki
        unfold updW
        rw [if_pos rfl]
        exact ⟨hv, getD_puts_same (by rw [hasz]; exact hDs' k hk)⟩
      · unfold updW
        rw [if_neg hki, getD_puts (fun e => hki (hDi' _ _ hk hjn e))]
        exact hFd k hk (by rw [← hdne (ys k) (fun e => hki (hyi' _ _ hk hjn e))]; exact hdk)
    · rw [hrun]
      show _ ∧ _
      rw [hdst]
      have hno : ∀ k, k < n → ys k ≠ i := by
        intro k hk e
        subst e
        have := hD' k o hk ho
        rw [hdst] at this
        cases this
      refine ⟨hasz, hdf, hfr, vs, fun k hk hdk => hFd k hk (by rw [← hdne (ys k) (hno k hk)]; exact hdk), by rw [hdd]; exact hJ'⟩
  · rintro d a W ⟨hasz, hdf, hfr, vs, hFd, hJ⟩ hall
    rw [hsz] at hall
    have he : a = puts D vs n a0 := by
      refine act_ext (by rw [puts_size]; exact hasz) (fun s => ?_) (by rw [puts_defers]; exact hdf)
      by_cases hs : ∃ j, j < n ∧ D j = s
      · obtain ⟨j, hj, rfl⟩ := hs
        rw [puts_at D _ n a0 hDs' hDi' j hj]
        exact (hFd j hj (hall _ (hyl' j hj))).2
      · rw [puts_other _ _ _ _ _ (fun i hi h => hs ⟨i, hi, h⟩)]
        exact hfr s fun j hj h => hs ⟨j, hj, h⟩
    rw [he]
    exact hend d vs W hall hJ fun j hj => (hFd j hj (hall _ (hyl' j hj))).1

end Go.Proofs.YtgnpjenpehfjbaaDoor
