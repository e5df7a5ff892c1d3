/- A region that draws its order, whose first operations only read or make memory (in whatever order) and whose last ones wait for all before them: the last ones are walked as they stand. -/
import Derived.Test.YtghgnalbahneoaaDoorFlow2
import Derived.TacticsIn
namespace Go.Proofs.YtghgnalbahneoaaDoor
open Go.RowKit
variable {P : Program}

/-- does operation t wait, directly or through others, for operation i? -/
def reachB (ops : Array Oper) : Nat → Nat → Nat → Bool
  | 0, _, _ => false
  | f + 1, t, i => (ops.getD t default).after.any fun e => Region.binds .any e && (e.on == i || reachB ops f e.on i)
def tailB (ops : Array Oper) (m : Nat) : Bool := (List.range ops.size).all fun t => decide (t < m) || (List.range t).all fun i => reachB ops ops.size t i
theorem reach_done {ops : Array Oper} {d : Nat → Bool} (hdep : ∀ j u, ops[j]? = some u → d j = true → ∀ e ∈ u.after, Region.binds .any e = true → d e.on = true) :
    ∀ (f t i : Nat), reachB ops f t i = true → (∀ e ∈ (ops.getD t default).after, Region.binds .any e = true → d e.on = true) → d i = true := by
  intro f
  induction f with
  | zero => intro t i h; cases h
  | succ f ih =>
    intro t i h hpre
    obtain ⟨k, hk, hb⟩ := Array.any_eq_true.1 h
    simp only [Bool.and_eq_true, Bool.or_eq_true, beq_iff_eq] at hb
    obtain ⟨hbind, hon⟩ := hb
    have hd := hpre _ (Array.getElem_mem hk) hbind
    rcases hon with hon | hon
    · rw [← hon]; exact hd
    · refine ih _ i hon ?_
      generalize ((ops.getD t default).after[k]).on = j at *
      intro e he hbe
      by_cases hj : j < ops.size
      · have h2 : ops.getD j default = ops[j] := by simp [Array.getD, hj]
        rw [h2] at he
        exact hdep j ops[j] (by simp [hj]) hd e he hbe
      · have h2 : ops.getD j default = default := by simp [Array.getD, hj]
        rw [h2, show (default : Oper).after = #[] from rfl] at he
        simp at he

theorem wp_flow_tail {ops : Array Oper} {Q : Exit → Act → World → Prop} {id : Nat} {a0 : Act} {w : World} (hm : P.follows .mixedOrders = true) (hline : lineUp ops = true) (m : Nat) (hmle : m ≤ ops.size) (htail : tailB ops m = true)
    (D : Nat → Nat) (hD : ((List.range m).all fun i => (ops.getD i default).dst == some (D i)) = true)
    (hDs : ((List.range m).all fun i => decide (D i < a0.tmps.size)) = true)
    (hDi : ((List.range m).all fun i => (List.range i).all fun j => D i != D j) = true)
    (F : Nat → Value → World → Prop) (hF : ∀ i, i < m → Stays (F i)) (S : Nat → Bool)
    (hstep : ∀ (i : Nat) (o : Oper) (a : Act) (W : World), i < m → ops.getD i default = o → Below w.heap.size w W →
      (∀ s, ((List.range m).all fun j => D j != s) = true → a.tmps.getD s undef = a0.tmps.getD s undef) →
      (∀ j, (o.after.any fun e => Region.binds .any e && e.on == j) = true → F j (a.tmps.getD (D j) undef) W) →
      (∀ j k, (o.after.any fun e => Region.binds .any e && e.on == j) = true → (o.after.any fun e => Region.binds .any e && e.on == k) = true → j ≠ k → S j = true → S k = true → ∀ g, (a.tmps.getD (D j) undef).ownBlock = some g → (a.tmps.getD (D k) undef).ownBlock ≠ some g) →
      ((∀ j b, o.guard = some (j, b) → a.tmps.getD (D j) undef = .bool b) ∧ FlowOp P o a W (fun v W' => F i v W' ∧ (S i = true → ∀ g, v.ownBlock = some g → W.heap.size ≤ g ∧ g < W'.heap.size))) ∨ (∃ j b, o.guard = some (j, b) ∧ a.tmps.getD (D j) undef = .bool (!b) ∧ F i undef W))
    (hg : ((List.range m).all fun i => match (ops.getD i default).guard with | none => true | some (j, _) => decide (j < i)) = true)
    (hend : ∀ (vs : Nat → Value) (W : World), Below w.heap.size w W → (∀ i, i < m → F i (vs i) W) → (∀ i j, i < m → j < m → i ≠ j → S i = true → S j = true → ∀ g, (vs i).ownBlock = some g → (vs j).ownBlock ≠ some g) → wpListIn Fence.wide 5 P ops Q (ops.toList.drop m) (puts D vs m a0) W) : (Code.region id ops true).wp P Q a0 w := by
  have hD' : ∀ i o, i < m → ops[i]? = some o → o.dst = some (D i) := by
    intro i o hi ho
    have his : i < ops.size := (Array.getElem?_eq_some_iff.1 ho).1
    have h1 := List.all_eq_true.1 hD i (List.mem_range.2 hi)
    have h2 : ops.getD i default = o := by
      have := (Array.getElem?_eq_some_iff.1 ho).2
      simp [Array.getD, his, this]
    rw [h2] at h1
    simpa using h1
  have hDs' : ∀ i, i < m → D i < a0.tmps.size := fun i hi => by simpa using List.all_eq_true.1 hDs i (List.mem_range.2 hi)
  have hDi' : ∀ i j, i < m → j < m → D i = D j → i = j := by
    have key : ∀ i j, i < m → j < i → D i ≠ D j := fun i j hi hj => by
      have h1 := List.all_eq_true.1 hDi i (List.mem_range.2 hi)
      have h2 := List.all_eq_true.1 h1 j (List.mem_range.2 hj)
      simpa using h2
    intro i j hi hj he
    rcases Nat.lt_trichotomy i j with h | h | h
    · exact absurd he.symm (key j i hj h)
    · exact h
    · exact absurd he (key i j hi h)
  let FI : (Nat → Bool) → Act → World → Prop := fun d a W => Below w.heap.size w W ∧ a.tmps.size = a0.tmps.size ∧ a.defers = a0.defers ∧
    (∀ s, (∀ j, j < m → D j ≠ s) → a.tmps.getD s undef = a0.tmps.getD s undef) ∧ (∀ i, i < m → d i = true → F i (a.tmps.getD (D i) undef) W) ∧
    (∀ i, i < m → d i = true → S i = true → ∀ g, (a.tmps.getD (D i) undef).ownBlock = some g → g < W.heap.size) ∧
    (∀ i j, i < m → j < m → i ≠ j → d i = true → d j = true → S i = true → S j = true → ∀ g, (a.tmps.getD (D i) undef).ownBlock = some g → (a.tmps.getD (D j) undef).ownBlock ≠ some g)
  have full : ∀ (d : Nat → Bool) (a : Act) (W : World), FI d a W → (∀ i, i < m → d i = true) → wpListIn Fence.wide 5 P ops Q (ops.toList.drop m) a W := by
    rintro d a W ⟨hB, hsz, hdf, hfr, hFd, hSd, hSS⟩ hall
    have he : a = puts D (fun i => a.tmps.getD (D i) undef) m a0 := by
      refine act_ext (by rw [puts_size]; exact hsz) (fun s => ?_) (by rw [puts_defers]; exact hdf)
      by_cases hs : ∃ j, j < m ∧ D j = s
      · obtain ⟨j, hj, rfl⟩ := hs
        rw [puts_at D _ m a0 hDs' hDi' j hj]
      · rw [puts_other _ _ _ _ _ (fun i hi h => hs ⟨i, hi, h⟩)]
        exact hfr s fun j hj h => hs ⟨j, hj, h⟩
    rw [he]
    exact hend _ W hB (fun i hi => hFd i hi (hall i hi)) (fun i j hi hj hij => hSS i j hi hj hij (hall i hi) (hall j hj))
  refine wpIn_wide (n := 5).1 (wpIn_region_inv hm hline (fun d a W => ((∀ i, m ≤ i → i < ops.size → d i = false) ∧ FI d a W) ∨
    ∃ t, m ≤ t ∧ t < ops.size ∧ (∀ i, i ≤ t → d i = true) ∧ (∀ i, t < i → i < ops.size → d i = false) ∧ wpListIn Fence.wide 5 P ops Q (ops.toList.drop (t + 1)) a W) ?_ ?_ ?_)
  · exact .inl ⟨fun _ _ _ => rfl, ⟨rfl, rfl, rfl, Nat.le_refl _, fun _ _ => rfl⟩, rfl, rfl, fun _ _ => rfl, fun _ _ h => (by cases h), fun _ _ h => (by cases h), fun _ _ _ _ _ h => (by cases h)⟩
  · rintro d d' i o a W hdep hInv ho hdi hd'i hdne hready
    have his : i < ops.size := (Array.getElem?_eq_some_iff.1 ho).1
    have hgo : ops.getD i default = o := by
      have := (Array.getElem?_eq_some_iff.1 ho).2
      simp [Array.getD, his, this]
    by_cases hi : i < m
    · have hfl : (∀ i, m ≤ i → i < ops.size → d i = false) ∧ FI d a W := by
        rcases hInv with h | ⟨t, h1, h2, h3, h4, h5⟩
        · exact h
        · have := h3 i (by omega); rw [hdi] at this; cases this
      obtain ⟨hnone, hB, hsz, hdf, hfr, hFd, hSd, hSS⟩ := hfl
      have hfr' : ∀ s, ((List.range m).all fun j => D j != s) = true → a.tmps.getD s undef = a0.tmps.getD s undef := fun s hs => hfr s fun j hj => by
        have := List.all_eq_true.1 hs j (List.mem_range.2 hj)
        simpa using this
      have hon : ∀ e, e ∈ o.after → Region.binds .any e = true → e.on < m := fun e he hb => by
        have h1 := List.all_eq_true.1 hline i (List.mem_range.2 his)
        rw [hgo] at h1
        have h3 := (Array.all_eq_true_iff_forall_mem.1 h1) e he
        rw [hb] at h3
        have h4 : e.on < i := by simpa using h3
        omega
      have hst := hstep i o a W hi hgo hB hfr' (fun j hj => by
        obtain ⟨k, hk, hbk⟩ := Array.any_eq_true.1 hj
        simp only [Bool.and_eq_true, beq_iff_eq] at hbk
        obtain ⟨hb, rfl⟩ := hbk
        exact hFd _ (hon _ (Array.getElem_mem hk) hb) (hready _ (Array.getElem_mem hk) hb))
        (fun j k hj hk hjk hSj hSk => by
          obtain ⟨u, hu, hbu⟩ := Array.any_eq_true.1 hj
          obtain ⟨u2, hu2, hbu2⟩ := Array.any_eq_true.1 hk
          simp only [Bool.and_eq_true, beq_iff_eq] at hbu hbu2
          obtain ⟨hb, rfl⟩ := hbu
          obtain ⟨hb2, rfl⟩ := hbu2
          exact hSS _ _ (hon _ (Array.getElem_mem hu) hb) (hon _ (Array.getElem_mem hu2) hb2) hjk (hready _ (Array.getElem_mem hu) hb) (hready _ (Array.getElem_mem hu2) hb2) hSj hSk)
      have hval : ∀ j b c, o.guard = some (j, b) → a.tmps.getD (D j) undef = .bool c → ∃ o2, ops[j]? = some o2 ∧ o2.dst = some (D j) ∧ a.tmps[D j]? = some (.bool c) := by
        intro j b c hgg h2
        have h1 := List.all_eq_true.1 hg i (List.mem_range.2 hi)
        rw [hgo, hgg] at h1
        have hji : j < i := by simpa using h1
        have hj : j < m := by omega
        have hjs : j < ops.size := by omega
        have h3 : ops[j]? = some ops[j] := by simp [hjs]
        have h5 : D j < a.tmps.size := by rw [hsz]; exact hDs' j hj
        refine ⟨_, h3, hD' j _ hj h3, ?_⟩
        simp only [Array.getD_eq_getD_getElem?] at h2
        rw [Array.getElem?_eq_getElem h5] at h2 ⊢
        simpa using h2
      have fin : ∀ v W', Below W.heap.size W W' → (F i v W' ∧ (S i = true → ∀ g, v.ownBlock = some g → W.heap.size ≤ g ∧ g < W'.heap.size)) → (((∀ i, m ≤ i → i < ops.size → d' i = false) ∧ FI d' (a.put o.dst v) W') ∨
          ∃ t, m ≤ t ∧ t < ops.size ∧ (∀ i, i ≤ t → d' i = true) ∧ (∀ i, t < i → i < ops.size → d' i = false) ∧ wpListIn Fence.wide 5 P ops Q (ops.toList.drop (t + 1)) (a.put o.dst v) W') := by
        intro v W' hB' ⟨hv, hfresh⟩
        refine .inl ⟨fun k h1 h2 => by rw [hdne k (by omega)]; exact hnone k h1 h2, ?_⟩
        rw [hD' i o hi ho]
        have hval' : ∀ k, k < m → d' k = true → (k = i ∧ ((a.put (some (D i)) v).tmps.getD (D k) undef) = v) ∨ (k ≠ i ∧ d k = true ∧ ((a.put (some (D i)) v).tmps.getD (D k) undef) = a.tmps.getD (D k) undef) := by
          intro k hk hdk
          by_cases hki : k = i
          · subst hki
            exact .inl ⟨rfl, getD_puts_same (by rw [hsz]; exact hDs' k hk)⟩
          · exact .inr ⟨hki, by rw [← hdne k hki]; exact hdk, getD_puts (fun e => hki (hDi' _ _ hk hi e))⟩
        refine ⟨hB.trans (hB'.mono hB.size), by rw [size_puts]; exact hsz, hdf, fun s hs => by rw [getD_puts (Ne.symm (hs i hi))]; exact hfr s hs, fun k hk hdk => ?_, fun k hk hdk hSk g hg => ?_, fun k j hk hj hkj hdk hdj hSk hSj g hg => ?_⟩
        · rcases hval' k hk hdk with ⟨rfl, h2⟩ | ⟨h1, h2, h3⟩
          · rw [h2]; exact hv
          · rw [h3]; exact hF k hk _ _ _ (hFd k hk h2) hB'
        · rcases hval' k hk hdk with ⟨rfl, h2⟩ | ⟨h1, h2, h3⟩
          · rw [h2] at hg; exact (hfresh hSk g hg).2
          · rw [h3] at hg; exact Nat.lt_of_lt_of_le (hSd k hk h2 hSk g hg) hB'.size
        · rcases hval' k hk hdk with ⟨rfl, h2⟩ | ⟨h1, h2, h3⟩
          · rcases hval' j hj hdj with ⟨rfl, _⟩ | ⟨g1, g2, g3⟩
            · exact absurd rfl hkj
            · rw [h2] at hg
              rw [g3]
              intro hg2
              have e1 := (hfresh hSk g hg).1
              have e2 := hSd j hj g2 hSj g hg2
              omega
          · rw [h3] at hg
            rcases hval' j hj hdj with ⟨rfl, g2⟩ | ⟨g1, g2, g3⟩
            · rw [g2]
              intro hg2
              have e1 := (hfresh hSj g hg2).1
              have e2 := hSd k hk h2 hSk g hg
              omega
            · rw [g3]
              exact hSS k j hk hj hkj h2 g2 hSk hSj g hg
      rcases hst with ⟨hgd, hop⟩ | ⟨j, b, hgg, hjb, hFu⟩
      · have hw : Region.wanted o (yielded ops a.tmps) = true := by
          unfold Region.wanted
          cases hgg : o.guard with
          | none => rfl
          | some p =>
            obtain ⟨j, b⟩ := p
            obtain ⟨o2, h3, h4, h6⟩ := hval j b b hgg (hgd j b hgg)
            simp [yielded, h3, h4, h6]
        unfold wpOpIn
        rw [ho]
        simp only
        rw [if_pos hw]
        refine ⟨fun f _ => trivial, ?_⟩
        rw [show Fence.wide.round = none from rfl, Oper.semAt_none, hD' i o hi ho |> fun h => (by rfl : (execOp a.eval o) = execOp a.eval o)]
        rcases hop with ⟨v, W', hrun, hB', hv⟩ | ⟨f, args, W1, hrun, hB1, hcall⟩
        · rw [hrun]
          exact fin v W' hB' hv
        · rw [hrun]
          refine ⟨fun h => (by cases h), (callsIn_wide.2 hcall).mono ?_⟩
          rintro e W' ⟨v, rfl, hB', hv⟩
          exact fin v W' (hB1.trans (hB'.mono hB1.size)) hv
      · have hw : ¬ Region.wanted o (yielded ops a.tmps) = true := by
          unfold Region.wanted
          obtain ⟨o2, h3, h4, h6⟩ := hval j b (!b) hgg hjb
          cases b <;> simp [hgg, yielded, h3, h4, h6]
        unfold wpOpIn
        rw [ho]
        simp only
        rw [if_neg hw]
        exact ⟨fun f _ => trivial, fin undef W (Below.refl _ _) ⟨hFu, fun _ g hg => by cases hg⟩⟩
    · have hbefore : ∀ j, j < i → d j = true := fun j hj => by
        have h1 := List.all_eq_true.1 htail i (List.mem_range.2 his)
        simp only [Bool.or_eq_true, decide_eq_true_eq] at h1
        rcases h1 with h1 | h1
        · exact absurd h1 hi
        · exact reach_done hdep _ i j (List.all_eq_true.1 h1 j (List.mem_range.2 hj)) (by rw [hgo]; exact hready)
      have hlist : wpListIn Fence.wide 5 P ops Q (ops.toList.drop i) a W := by
        rcases hInv with ⟨h1, h2⟩ | ⟨t, h1, h2, h3, h4, h5⟩
        · have him : i = m := by
            rcases Nat.lt_or_ge m i with h | h
            · have ha := hbefore m h
              rw [h1 m (Nat.le_refl _) (by omega)] at ha; cases ha
            · omega
          subst him
          exact full d a W h2 (fun j hj => hbefore j hj)
        · have hit : i = t + 1 := by
            rcases Nat.lt_or_ge i (t + 1) with h | h
            · have := h3 i (by omega); rw [hdi] at this; cases this
            · rcases Nat.lt_or_ge (t + 1) i with h' | h'
              · have ha := hbefore (t + 1) h'
                rw [h4 (t + 1) (by omega) (by omega)] at ha; cases ha
              · omega
          subst hit
          exact h5
      have hcons : ops.toList.drop i = o :: ops.toList.drop (i + 1) := by
        rw [List.drop_eq_getElem_cons (by simpa using his)]
        congr 1
        have := (Array.getElem?_eq_some_iff.1 ho).2
        simpa using this
      rw [hcons] at hlist
      have hK : ∀ a' W', wpListIn Fence.wide 5 P ops Q (ops.toList.drop (i + 1)) a' W' → (((∀ i, m ≤ i → i < ops.size → d' i = false) ∧ FI d' a' W') ∨
          ∃ t, m ≤ t ∧ t < ops.size ∧ (∀ i, i ≤ t → d' i = true) ∧ (∀ i, t < i → i < ops.size → d' i = false) ∧ wpListIn Fence.wide 5 P ops Q (ops.toList.drop (t + 1)) a' W') := by
        intro a' W' h
        refine .inr ⟨i, by omega, his, fun j hj => ?_, fun j hj hjs => ?_, h⟩
        · by_cases hji : j = i
          · rw [hji]; exact hd'i
          · rw [hdne j hji]; exact hbefore j (by omega)
        · rw [hdne j (by omega)]
          rcases hInv with ⟨h1, h2⟩ | ⟨t, h1, h2, h3, h4, h5⟩
          · exact h1 j (by omega) hjs
          · refine h4 j ?_ hjs
            rcases Nat.lt_or_ge t i with h6 | h6
            · omega
            · have := h3 i h6; rw [hdi] at this; cases this
      unfold wpListIn at hlist
      unfold wpOpIn
      rw [ho]
      simp only
      split at hlist
      · rename_i hw
        rw [if_pos hw]
        exact Oper.wpIn_mono hK hlist
      · rename_i hw
        rw [if_neg hw]
        exact ⟨hlist.1, hK _ _ hlist.2⟩
  · rintro d a W hInv hall
    rcases hInv with ⟨h1, h2⟩ | ⟨t, h1, h2, h3, h4, h5⟩
    · have hms : m = ops.size := by
        rcases Nat.lt_or_ge m ops.size with h | h
        · have := hall m h; rw [h1 m (Nat.le_refl _) h] at this; cases this
        · omega
      have := full d a W h2 (fun i hi => hall i (by omega))
      rw [hms, List.drop_eq_nil_of_le (by simp)] at this
      exact this
    · have hts : t + 1 = ops.size := by
        rcases Nat.lt_or_ge (t + 1) ops.size with h | h
        · have := hall (t + 1) h; rw [h4 (t + 1) (by omega) h] at this; cases this
        · omega
      rw [hts, List.drop_eq_nil_of_le (by simp)] at h5
      exact h5

end Go.Proofs.YtghgnalbahneoaaDoor
