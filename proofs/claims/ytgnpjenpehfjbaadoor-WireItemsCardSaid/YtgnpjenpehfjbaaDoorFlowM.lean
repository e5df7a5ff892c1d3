/- A region that draws its order, inside any fence that lets every function in: by what holds of the world while it runs; operations may yield, store, call, or not be wanted. -/
import Derived.Test.YtgnpjenpehfjbaaDoorFlowJ
namespace Go.Proofs.YtgnpjenpehfjbaaDoor
open Go.RowKit
variable {P : Program}

theorem wpIn_flowM {F0 : Fence} {n0 : Nat} (hfn : ∀ f, F0.fn f) (hdep0 : F0.depth.isSome = true → 1 ≤ n0) {ops : Array Oper} {Q : Exit → Act → World → Prop} {id : Nat} {a0 : Act} {w : World} (hm : P.follows .mixedOrders = true) (hline : lineUp ops = true) (m n : Nat) (hsz : ops.size = m) (ys : Nat → Nat)
    (D : Nat → Nat) (hD : ((List.range n).all fun j => (ops.getD (ys j) default).dst == some (D j)) = true)
    (hst : ((List.range m).all fun i => (List.range n).any (fun j => ys j == i) || (ops.getD i default).dst == none) = true)
    (hyi : ((List.range n).all fun i => (List.range i).all fun j => ys i != ys j) = true) (hyl : ((List.range n).all fun j => decide (ys j < m)) = true)
    (hDs : ((List.range n).all fun i => decide (D i < a0.tmps.size)) = true)
    (hDi : ((List.range n).all fun i => (List.range i).all fun j => D i != D j) = true)
    (hnd : ((List.range m).all fun i => match (ops.getD i default).op with | .defer _ => false | _ => true) = true)
    (F : Nat → Value → Prop) (J : (Nat → Bool) → (Nat → Value) → World → Prop)
    (h0 : ∀ vs, J (fun _ => false) vs w.drew)
    (hstep : ∀ (i : Nat) (o : Oper) (a : Act) (W : World) (d : Nat → Bool) (vs : Nat → Value), i < m → ops.getD i default = o → d i = false → J d vs W →
      (∀ s, ((List.range n).all fun j => D j != s) = true → a.tmps.getD s undef = a0.tmps.getD s undef) →
      (∀ k, (o.after.any fun e => Region.binds .any e && e.on == k) = true → d k = true) →
      (∀ j, j < n → d (ys j) = true → F j (vs j) ∧ a.tmps.getD (D j) undef = vs j) →
      ((∀ k b, o.guard = some (k, b) → ∃ j, j < n ∧ ys j = k ∧ a.tmps.getD (D j) undef = .bool b) ∧
        ((∃ j, j < n ∧ ys j = i ∧ ∃ v W', (execOp a.eval o).run P W = .ok (.value v) W' ∧ F j v ∧ J (updC d i) (updW vs j v) W') ∨
        (o.dst = none ∧ ∃ W', (execOp a.eval o).run P W = .ok .skip W' ∧ J (updC d i) vs W') ∨
        (∃ j, j < n ∧ ys j = i ∧ ∃ f args W1, (execOp a.eval o).run P W = .ok (.enter f args) W1 ∧ CallsIn F0 (n0 - 1) P f args W1 fun e W' => ∃ v, e = .returned v ∧ F j v ∧ J (updC d i) (updW vs j v) W'))) ∨
      (∃ k b j, o.guard = some (k, b) ∧ j < n ∧ ys j = k ∧ a.tmps.getD (D j) undef ≠ .bool b ∧
        ((∃ j, j < n ∧ ys j = i ∧ F j undef ∧ J (updC d i) (updW vs j undef) W) ∨ (o.dst = none ∧ J (updC d i) vs W))))
    (hend : ∀ (d : Nat → Bool) (vs : Nat → Value) (W : World), (∀ i, i < m → d i = true) → J d vs W → (∀ j, j < n → F j (vs j)) → Q .normal (puts D vs n a0) W) : (Code.region id ops true).wpIn F0 n0 P Q a0 w := by
  have hyl' : ∀ j, j < n → ys j < m := fun j hj => by simpa using List.all_eq_true.1 hyl j (List.mem_range.2 hj)
  have hD' : ∀ j o, j < n → ops[ys j]? = some o → o.dst = some (D j) := by
    intro j o hj ho
    have h1 := List.all_eq_true.1 hD j (List.mem_range.2 hj)
    have h2 : ops.getD (ys j) default = o := by
      have := (Array.getElem?_eq_some_iff.1 ho).2
      simp [Array.getD, hsz, hyl' j hj, this]
    rw [h2] at h1
    simpa using h1
  have hDs' : ∀ i, i < n → D i < a0.tmps.size := fun i hi => by simpa using List.all_eq_true.1 hDs i (List.mem_range.2 hi)
  have inj : ∀ (f : Nat → Nat), ((List.range n).all fun i => (List.range i).all fun j => f i != f j) = true → ∀ i j, i < n → j < n → f i = f j → i = j := by
    intro f hf
    have key : ∀ i j, i < n → j < i → f i ≠ f j := fun i j hi hj => by
      have h1 := List.all_eq_true.1 hf i (List.mem_range.2 hi)
      have h2 := List.all_eq_true.1 h1 j (List.mem_range.2 hj)
      simpa using h2
    intro i j hi hj he
    rcases Nat.lt_trichotomy i j with h | h | h
    · exact absurd he.symm (key j i hj h)
    · exact h
    · exact absurd he (key i j hi h)
  have hDi' := inj D hDi
  have hyi' := inj ys hyi
  refine wpIn_region_inv hm hline (fun d a W => a.tmps.size = a0.tmps.size ∧ a.defers = a0.defers ∧
    (∀ s, (∀ j, j < n → D j ≠ s) → a.tmps.getD s undef = a0.tmps.getD s undef) ∧ ∃ vs, (∀ j, j < n → d (ys j) = true → F j (vs j) ∧ a.tmps.getD (D j) undef = vs j) ∧ J d vs W) ?_ ?_ ?_
  · exact ⟨rfl, rfl, fun _ _ => rfl, fun _ => undef, fun _ _ h => (by cases h), h0 _⟩
  · rintro d d' i o a W hdep ⟨hasz, hdf, hfr, vs, hFd, hJ⟩ ho hdi hd'i hdne hready
    have hi : i < m := by rw [← hsz]; exact (Array.getElem?_eq_some_iff.1 ho).1
    have hgo : ops.getD i default = o := by
      have := (Array.getElem?_eq_some_iff.1 ho).2
      simp [Array.getD, hsz, hi, this]
    have hndf : ∀ c, o.op ≠ .defer c := by
      have h1 := List.all_eq_true.1 hnd i (List.mem_range.2 hi)
      rw [hgo] at h1
      intro c hc
      rw [hc] at h1
      cases h1
    have hdd : d' = updC d i := by
      funext j
      unfold updC
      by_cases hj : j = i
      · subst hj; rw [if_pos rfl]; exact hd'i
      · rw [if_neg hj]; exact hdne j hj
    have hfr' : ∀ s, ((List.range n).all fun j => D j != s) = true → a.tmps.getD s undef = a0.tmps.getD s undef := fun s hs => hfr s fun j hj => by
      have := List.all_eq_true.1 hs j (List.mem_range.2 hj)
      simpa using this
    have hst2 := hstep i o a W d vs hi hgo hdi hJ hfr' (fun k hk => by
      obtain ⟨u, hu, hbu⟩ := Array.any_eq_true.1 hk
      simp only [Bool.and_eq_true, beq_iff_eq] at hbu
      obtain ⟨hb, rfl⟩ := hbu
      exact hready _ (Array.getElem_mem hu) hb) hFd
    have hval : ∀ j, j < n → (ops[ys j]?).bind (·.dst) = some (D j) ∧ a.tmps[D j]? = some (a.tmps.getD (D j) undef) := by
      intro j hj
      have hlt : ys j < ops.size := by rw [hsz]; exact hyl' j hj
      have h3 : ops[ys j]? = some ops[ys j] := by simp [hlt]
      refine ⟨by rw [h3]; exact hD' j _ hj h3, ?_⟩
      have h5 : D j < a.tmps.size := by rw [hasz]; exact hDs' j hj
      simp [Array.getD, h5]
    have yld : ∀ j, j < n → ∀ v, F j v → ∀ W', J (updC d i) (updW vs j v) W' → ys j = i → ((a.put (some (D j)) v).tmps.size = a0.tmps.size ∧ (a.put (some (D j)) v).defers = a0.defers ∧
        (∀ s, (∀ k, k < n → D k ≠ s) → (a.put (some (D j)) v).tmps.getD s undef = a0.tmps.getD s undef) ∧ ∃ vs, (∀ k, k < n → d' (ys k) = true → F k (vs k) ∧ (a.put (some (D j)) v).tmps.getD (D k) undef = vs k) ∧ J d' vs W') := by
      intro j hjn v hv W' hJ' hyj
      subst hyj
      refine ⟨by rw [size_puts]; exact hasz, hdf, fun s hs => by rw [getD_puts (Ne.symm (hs j hjn))]; exact hfr s hs, updW vs j v, fun k hk hdk => ?_, by rw [hdd]; exact hJ'⟩
      by_cases hki : k = j
      · subst hki
        unfold updW
        rw [if_pos rfl]
        exact ⟨hv, getD_puts_same (by rw [hasz]; exact hDs' k hk)⟩
      · unfold updW
        rw [if_neg hki, getD_puts (fun e => hki (hDi' _ _ hk hjn e))]
        exact hFd k hk (by rw [← hdne (ys k) (fun e => hki (hyi' _ _ hk hjn e))]; exact hdk)
    have skp : o.dst = none → ∀ W', J (updC d i) vs W' → (a.tmps.size = a0.tmps.size ∧ a.defers = a0.defers ∧
        (∀ s, (∀ k, k < n → D k ≠ s) → a.tmps.getD s undef = a0.tmps.getD s undef) ∧ ∃ vs, (∀ k, k < n → d' (ys k) = true → F k (vs k) ∧ a.tmps.getD (D k) undef = vs k) ∧ J d' vs W') := by
      intro hdst W' hJ'
      have hno : ∀ k, k < n → ys k ≠ i := by
        intro k hk e
        subst e
        have := hD' k o hk ho
        rw [hdst] at this
        cases this
      exact ⟨hasz, hdf, hfr, vs, fun k hk hdk => hFd k hk (by rw [← hdne (ys k) (hno k hk)]; exact hdk), by rw [hdd]; exact hJ'⟩
    unfold wpOpIn
    rw [ho]
    simp only
    rcases hst2 with ⟨hgw, hst2⟩ | ⟨k, b, j, hgg, hjn, hjk, hne, hst2⟩
    · have hw : Region.wanted o (yielded ops a.tmps) = true := by
        unfold Region.wanted
        cases hgg : o.guard with
        | none => rfl
        | some p =>
          obtain ⟨k, b⟩ := p
          obtain ⟨j, hjn, rfl, hjb⟩ := hgw k b hgg
          obtain ⟨h1, h2⟩ := hval j hjn
          rw [hjb] at h2
          simp [yielded, h1, h2]
      rw [if_pos hw]
      refine ⟨fun f _ => hfn f, ?_⟩
      rw [Oper.semAt_eq _ _ _ hndf]
      rcases hst2 with ⟨j, hjn, hyj, v, W', hrun, hv, hJ'⟩ | ⟨hdst, W', hrun, hJ'⟩ | ⟨j, hjn, hyj, f, args, W1, hrun, hcall⟩
      · rw [hrun]
        show _ ∧ _
        rw [hD' j o hjn (by rw [hyj]; exact ho)]
        exact yld j hjn v hv W' hJ' hyj
      · rw [hrun]
        show _ ∧ _
        rw [hdst]
        exact skp hdst W' hJ'
      · rw [hrun]
        refine ⟨hdep0, hcall.mono ?_⟩
        rintro e W' ⟨v, rfl, hv, hJ'⟩
        show _ ∧ _
        rw [hD' j o hjn (by rw [hyj]; exact ho)]
        exact yld j hjn v hv W' hJ' hyj
    · have hw : ¬ Region.wanted o (yielded ops a.tmps) = true := by
        unfold Region.wanted
        subst hjk
        obtain ⟨h1, h2⟩ := hval j hjn
        rw [hgg]
        simp only [yielded, h1, Option.bind_some, h2]
        intro hc
        apply hne
        revert hc
        generalize a.tmps.getD (D j) undef = u
        cases u <;> simp
      rw [if_neg hw]
      refine ⟨fun f _ => hfn f, ?_⟩
      rcases hst2 with ⟨j, hjn, hyj, hv, hJ'⟩ | ⟨hdst, hJ'⟩
      · rw [hD' j o hjn (by rw [hyj]; exact ho)]
        exact yld j hjn undef hv W hJ' hyj
      · rw [hdst]
        exact skp hdst W hJ'
  · rintro d a W ⟨hasz, hdf, hfr, vs, hFd, hJ⟩ hall
    rw [hsz] at hall
    have he : a = puts D vs n a0 := by
      refine act_ext (by rw [puts_size]; exact hasz) (fun s => ?_) (by rw [puts_defers]; exact hdf)
      by_cases hs : ∃ j, j < n ∧ D j = s
      · obtain ⟨j, hj, rfl⟩ := hs
        rw [puts_at D _ n a0 hDs' hDi' j hj]
        exact (hFd j hj (hall _ (hyl' j hj))).2
      · rw [puts_other _ _ _ _ _ (fun i hi h => hs ⟨i, hi, h⟩)]
        exact hfr s fun j hj h => hs ⟨j, hj, h⟩
    rw [he]
    exact hend d vs W hall hJ fun j hj => (hFd j hj (hall _ (hyl' j hj))).1

end Go.Proofs.YtgnpjenpehfjbaaDoor
