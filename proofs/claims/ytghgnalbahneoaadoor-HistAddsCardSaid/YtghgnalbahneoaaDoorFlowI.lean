/- A region that draws its order, by what holds of the world while it runs: its operations yield values into slots, but for the last, which stores; J says of the world what holds when the operations marked in d have run, with these values. -/
import Derived.Test.YtghgnalbahneoaaDoorFlow2
namespace Go.Proofs.YtghgnalbahneoaaDoor
open Go.RowKit
variable {P : Program}

def updB (d : Nat → Bool) (i : Nat) : Nat → Bool := fun j => if j = i then true else d j
def updV (vs : Nat → Value) (i : Nat) (v : Value) : Nat → Value := fun j => if j = i then v else vs j

theorem wp_flow_inv {ops : Array Oper} {Q : Exit → Act → World → Prop} {id : Nat} {a0 : Act} {w : World} (hm : P.follows .mixedOrders = true) (hline : lineUp ops = true) (m : Nat) (hsz : ops.size = m + 1) (hlast : (ops.getD m default).dst = none)
    (D : Nat → Nat) (hD : ((List.range m).all fun i => (ops.getD i default).dst == some (D i)) = true)
    (hDs : ((List.range m).all fun i => decide (D i < a0.tmps.size)) = true)
    (hDi : ((List.range m).all fun i => (List.range i).all fun j => D i != D j) = true)
    (hng : ((List.range (m + 1)).all fun i => (ops.getD i default).guard == none) = true)
    (F : Nat → Value → Prop) (J : (Nat → Bool) → (Nat → Value) → World → Prop)
    (h0 : ∀ vs, J (fun _ => false) vs w.drew)
    (hstep : ∀ (i : Nat) (o : Oper) (a : Act) (W : World) (d : Nat → Bool) (vs : Nat → Value), i < m + 1 → ops.getD i default = o → d i = false → J d vs W →
      (∀ s, ((List.range m).all fun j => D j != s) = true → a.tmps.getD s undef = a0.tmps.getD s undef) →
      (∀ j, (o.after.any fun e => Region.binds .any e && e.on == j) = true → d j = true ∧ (j < m → F j (vs j) ∧ a.tmps.getD (D j) undef = vs j)) →
      (i < m ∧ ∃ v W', (execOp a.eval o).run P W = .ok (.value v) W' ∧ F i v ∧ J (updB d i) (updV vs i v) W') ∨
      (i = m ∧ ∃ W', (execOp a.eval o).run P W = .ok .skip W' ∧ J (updB d i) vs W'))
    (hend : ∀ (d : Nat → Bool) (vs : Nat → Value) (W : World), (∀ i, i < m + 1 → d i = true) → J d vs W → (∀ i, i < m → F i (vs i)) → Q .normal (puts D vs m a0) W) : (Code.region id ops true).wp P Q a0 w := by
  have hD' : ∀ i o, i < m → ops[i]? = some o → o.dst = some (D i) := by
    intro i o hi ho
    have h1 := List.all_eq_true.1 hD i (List.mem_range.2 hi)
    have h2 : ops.getD i default = o := by
      have := (Array.getElem?_eq_some_iff.1 ho).2
      simp [Array.getD, hsz, show i < m + 1 by omega, this]
    rw [h2] at h1
    simpa using h1
  have hDs' : ∀ i, i < m → D i < a0.tmps.size := fun i hi => by simpa using List.all_eq_true.1 hDs i (List.mem_range.2 hi)
  have hDi' : ∀ i j, i < m → j < m → D i = D j → i = j := by
    have key : ∀ i j, i < m → j < i → D i ≠ D j := fun i j hi hj => by
      have h1 := List.all_eq_true.1 hDi i (List.mem_range.2 hi)
      have h2 := List.all_eq_true.1 h1 j (List.mem_range.2 hj)
      simpa using h2
    intro i j hi hj he
    rcases Nat.lt_trichotomy i j with h | h | h
    · exact absurd he.symm (key j i hj h)
    · exact h
    · exact absurd he (key i j hi h)
  refine wpIn_wide (n := 5).1 (wpIn_region_inv hm hline (fun d a W => a.tmps.size = a0.tmps.size ∧ a.defers = a0.defers ∧
    (∀ s, (∀ j, j < m → D j ≠ s) → a.tmps.getD s undef = a0.tmps.getD s undef) ∧ ∃ vs, (∀ i, i < m → d i = true → F i (vs i) ∧ a.tmps.getD (D i) undef = vs i) ∧ J d vs W) ?_ ?_ ?_)
  · exact ⟨rfl, rfl, fun _ _ => rfl, fun _ => undef, fun _ _ h => (by cases h), h0 _⟩
  · rintro d d' i o a W hdep ⟨hasz, hdf, hfr, vs, hFd, hJ⟩ ho hdi hd'i hdne hready
    have hi : i < m + 1 := by rw [← hsz]; exact (Array.getElem?_eq_some_iff.1 ho).1
    have hgo : ops.getD i default = o := by
      have := (Array.getElem?_eq_some_iff.1 ho).2
      simp [Array.getD, hsz, hi, this]
    have hgn : o.guard = none := by
      have h1 := List.all_eq_true.1 hng i (List.mem_range.2 hi)
      rw [hgo] at h1
      cases hgg : o.guard with
      | none => rfl
      | some p => rw [hgg] at h1; exact absurd h1 (by simp)
    have hdd : d' = updB d i := by
      funext j
      unfold updB
      by_cases hj : j = i
      · subst hj; rw [if_pos rfl]; exact hd'i
      · rw [if_neg hj]; exact hdne j hj
    have hfr' : ∀ s, ((List.range m).all fun j => D j != s) = true → a.tmps.getD s undef = a0.tmps.getD s undef := fun s hs => hfr s fun j hj => by
      have := List.all_eq_true.1 hs j (List.mem_range.2 hj)
      simpa using this
    have hst := hstep i o a W d vs hi hgo hdi hJ hfr' (fun j hj => by
      obtain ⟨k, hk, hbk⟩ := Array.any_eq_true.1 hj
      simp only [Bool.and_eq_true, beq_iff_eq] at hbk
      obtain ⟨hb, rfl⟩ := hbk
      have hdj := hready _ (Array.getElem_mem hk) hb
      exact ⟨hdj, fun hjm => hFd _ hjm hdj⟩)
    have hw : Region.wanted o (yielded ops a.tmps) = true := by unfold Region.wanted; rw [hgn]
    unfold wpOpIn
    rw [ho]
    simp only
    rw [if_pos hw]
    refine ⟨fun f _ => trivial, ?_⟩
    rw [show Fence.wide.round = none from rfl, Oper.semAt_none]
    rcases hst with ⟨him, v, W', hrun, hv, hJ'⟩ | ⟨him, W', hrun, hJ'⟩
    · rw [hrun]
      show _ ∧ _
      rw [hD' i o him ho]
      refine ⟨by rw [size_puts]; exact hasz, hdf, fun s hs => by rw [getD_puts (Ne.symm (hs i him))]; exact hfr s hs, updV vs i v, fun k hk hdk => ?_, by rw [hdd]; exact hJ'⟩
      by_cases hki : k = i
      · subst hki
        unfold updV
        rw [if_pos rfl]
        exact ⟨hv, getD_puts_same (by rw [hasz]; exact hDs' k hk)⟩
      · unfold updV
        rw [if_neg hki, getD_puts (fun e => hki (hDi' _ _ hk him e))]
        exact hFd k hk (by rw [← hdne k hki]; exact hdk)
    · rw [hrun]
      have hdst : o.dst = none := by rw [← hgo, him]; exact hlast
      show _ ∧ _
      rw [hdst]
      refine ⟨hasz, hdf, hfr, vs, fun k hk hdk => hFd k hk (by rw [← hdne k (by omega)]; exact hdk), by rw [hdd]; exact hJ'⟩
  · rintro d a W ⟨hasz, hdf, hfr, vs, hFd, hJ⟩ hall
    rw [hsz] at hall
    have he : a = puts D vs m a0 := by
      refine act_ext (by rw [puts_size]; exact hasz) (fun s => ?_) (by rw [puts_defers]; exact hdf)
      by_cases hs : ∃ j, j < m ∧ D j = s
      · obtain ⟨j, hj, rfl⟩ := hs
        rw [puts_at D _ m a0 hDs' hDi' j hj]
        exact (hFd j hj (hall j (by omega))).2
      · rw [puts_other _ _ _ _ _ (fun i hi h => hs ⟨i, hi, h⟩)]
        exact hfr s fun j hj h => hs ⟨j, hj, h⟩
    rw [he]
    exact hend d vs W hall hJ fun i hi => (hFd i hi (hall i (by omega))).1

end Go.Proofs.YtghgnalbahneoaaDoor
