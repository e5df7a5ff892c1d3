/- Histograms: the program's Coarse (by program: wip/tools/gen_hist25.py). -/
import Derived.Test.YtghgnalbahneoaaDoorHist17
import Derived.Test.YtghgnalbahneoaaDoorHist12
import Derived.Test.YtghgnalbahneoaaDoorHist13
namespace Go.Proofs.YtghgnalbahneoaaDoor
open Go.RowKit

attribute [local go_sem] Oper.semAt_some

/-- the bucket of the new bounds in which range k goes -/
def crsJ (keep bs : List Int) (k : Nat) : Nat := if 0 < k then bucketF keep (bs.getD (k - 1) 0) else 0
/-- the counts of the new bounds, from the first n ranges -/
def crsF (keep bs cs : List Int) : Nat → List Int
  | 0 => List.replicate (keep.length + 1) 0
  | n + 1 => addAt (crsF keep bs cs n) (crsJ keep bs n) (cs.getD n 0)
theorem crsJ_lt (keep bs : List Int) (k : Nat) : crsJ keep bs k < keep.length + 1 := by
  unfold crsJ; split
  · have := bucketF_le keep (bs.getD (k - 1) 0); omega
  · omega
theorem crsF_length (keep bs cs : List Int) : ∀ n, (crsF keep bs cs n).length = keep.length + 1
  | 0 => by simp [crsF]
  | n + 1 => by rw [crsF, addAt_length, crsF_length keep bs cs n]
theorem crsF_step (keep bs cs : List Int) (n j : Nat) : (crsF keep bs cs (n + 1)).getD j 0 = (crsF keep bs cs n).getD j 0 + if j = crsJ keep bs n then cs.getD n 0 else 0 := by
  rw [crsF, addAt_getD _ _ _ (by rw [crsF_length]; exact crsJ_lt keep bs n)]
theorem crsF_in (keep bs cs : List Int) (h : CntIn cs) : ∀ n j, 0 ≤ (crsF keep bs cs n).getD j 0 ∧ (crsF keep bs cs n).getD j 0 ≤ 1099511627776 * n
  | 0, j => by
    have : (crsF keep bs cs 0).getD j 0 = 0 := by
      by_cases hj : j < keep.length + 1 <;> simp [crsF, List.getD, hj]
    rw [this]; omega
  | n + 1, j => by
    have h1 := crsF_in keep bs cs h n j
    have h2 := h n
    rw [crsF_step]
    split <;> omega
theorem crsF_mono (keep bs cs : List Int) (h : CntIn cs) (n : Nat) (j : Nat) : ∀ m, (crsF keep bs cs n).getD j 0 ≤ (crsF keep bs cs (n + m)).getD j 0
  | 0 => Int.le_refl _
  | m + 1 => by
    have h1 := crsF_mono keep bs cs h n j m
    have h2 := h (n + m)
    rw [show n + (m + 1) = (n + m) + 1 by omega, crsF_step]
    split <;> omega
/-- are these bounds to be kept? -/
def KeepOk (keep bs : List Int) : Prop := Rising keep ∧ ∀ x, x ∈ keep → x ∈ bs
/-- what Coarse answers -/
def CoarseR (keep bs cs : List Int) (B : Nat) (e : Ending) (w' : World) : Prop :=
  (¬ KeepOk keep bs ∧ e = .returned (.tuple #[hiV (.slice none 0 0) (.slice none 0 0), .int .i64 20])) ∨
  (KeepOk keep bs ∧ (∃ j, 1099511627776 < (crsF keep bs cs cs.length).getD j 0) ∧ e = .returned (.tuple #[hiV (.slice none 0 0) (.slice none 0 0), .int .i64 10])) ∨
  (KeepOk keep bs ∧ (∀ j, (crsF keep bs cs cs.length).getD j 0 ≤ 1099511627776) ∧ ∃ vb vc, e = .returned (.tuple #[hiV vb vc, .int .i64 0]) ∧ HOwn w' B vb vc keep (crsF keep bs cs cs.length))

structure CoSt (w : World) (B p q : Nat) (W : World) (vk vb vc va vA : Value) (ra rb : Value) (rc : Int) (keep cs : List Int) : Prop where
  low : Below w.heap.size w W
  r1 : W.heap[w.heap.size + 1]? = some (.cells #[vk] 22 (0, 0))
  r2 : W.heap[w.heap.size + 1 + 1]? = some (hiO ra rb)
  r3 : W.heap[w.heap.size + 1 + 1 + 1]? = some (.cells #[.int .i64 rc] 29 (0, 0))
  bx : W.heap[p]? = some (hiO va vA)
  bq : W.heap[q]? = some (hiO vb vc)
  own : HOwn W B va vA keep cs
  siz : B ≤ W.heap.size
  wB : w.heap.size + 1 + 1 + 1 < B
  ne : vA.ownBlock ≠ some p
  ne2 : vA.ownBlock ≠ some q
  pB : B ≤ p
  qB : B ≤ q
theorem CoSt.below {w : World} {B p q : Nat} {W W' : World} {vk vb vc va vA ra rb : Value} {rc : Int} {keep cs : List Int} (h : CoSt w B p q W vk vb vc va vA ra rb rc keep cs) (hb : Below W.heap.size W W') : CoSt w B p q W' vk vb vc va vA ra rb rc keep cs :=
  ⟨h.low.trans (hb.mono h.low.size), stays h.r1 hb, stays h.r2 hb, stays h.r3 hb, stays h.bx hb, stays h.bq hb, h.own.below hb, Nat.le_trans h.siz hb.size, h.wB, h.ne, h.ne2, h.pB, h.qB⟩
theorem OwnI.putO {w : World} {B : Nat} {v : Value} {xs : List Int} (h : OwnI w B v xs) {l : Nat} {o : Obj} (o' : Obj) (hl : w.heap[l]? = some o) (hc : o.isCells = false) : OwnI (w.putObj l o') B v xs := ownsRow_putObj h o' hl hc
theorem CoSt.putO {w : World} {B p q : Nat} {W : World} {vk vb vc va vA ra rb : Value} {rc : Int} {keep cs : List Int} (h : CoSt w B p q W vk vb vc va vA ra rb rc keep cs) {l : Nat} {o : Obj} (o' : Obj) (hn : w.heap.size ≤ l) (hl : W.heap[l]? = some o) (hc : o.isCells = false) : CoSt w B p q (W.putObj l o') vk vb vc va vA ra rb rc keep cs :=
  ⟨h.low.grown (grownBy_putObj' W l o') h.low.size (fun k e => by cases e; omega), row_put o' h.r1 hl hc, row_put o' h.r2 hl hc, row_put o' h.r3 hl hc, row_put o' h.bx hl hc, row_put o' h.bq hl hc, ⟨h.own.b.putO o' hl hc, h.own.c.putO o' hl hc, h.own.ne⟩, by have := (grownBy_putObj' W l o').size; have := h.siz; omega, h.wB, h.ne, h.ne2, h.pB, h.qB⟩
theorem CoSt.put {w : World} {B p q : Nat} {W W' : World} {vk vb vc va vA ra rb : Value} {rc : Int} {keep cs cs' : List Int} (h : CoSt w B p q W vk vb vc va vA ra rb rc keep cs) (hb : Below B W W') (hf : ∀ j, j < W.heap.size → vA.ownBlock ≠ some j → W'.heap[j]? = W.heap[j]?) (ho : HOwn W' B va vA keep cs') : CoSt w B p q W' vk vb vc va vA ra rb rc keep cs' := by
  have hwB := h.wB
  exact ⟨h.low.trans (hb.mono (by omega)), (hb.block _ (by omega)).trans h.r1, (hb.block _ (by omega)).trans h.r2, (hb.block _ (by omega)).trans h.r3, (hf p (Array.getElem?_eq_some_iff.1 h.bx).1 h.ne).trans h.bx, (hf q (Array.getElem?_eq_some_iff.1 h.bq).1 h.ne2).trans h.bq, ho, Nat.le_trans h.siz hb.size, h.wB, h.ne, h.ne2, h.pB, h.qB⟩
theorem CoSt.others {w : World} {B p q : Nat} {W W' : World} {vk vb vc va vA ra rb : Value} {rc : Int} {keep cs : List Int} (h : CoSt w B p q W vk vb vc va vA ra rb rc keep cs) (hs : W.heap.size ≤ W'.heap.size) (hf : ∀ j, j < W.heap.size → vA.ownBlock ≠ some j → W'.heap[j]? = W.heap[j]?) : KeepsOthers W W' := by
  refine ⟨hs, fun k o hk ho => (hf k (Array.getElem?_eq_some_iff.1 hk).1 (fun e => ?_)).trans hk⟩
  rcases h.own.c.2 with ⟨rfl, -⟩ | ⟨g, cap, cur, rfl, -, hg, -⟩
  · simp [Value.ownBlock] at e
  · simp only [Value.ownBlock, Option.some.injEq] at e
    subst e
    rw [hg] at hk
    cases hk
    cases ho
theorem CoSt.res {w : World} {B p q : Nat} {W : World} {vk vb vc va vA ra rb : Value} {rc : Int} {keep cs : List Int} (h : CoSt w B p q W vk vb vc va vA ra rb rc keep cs) (x y : Value) (z : Int) : CoSt w B p q (((W.setCell ⟨w.heap.size + 1 + 1, 0, none⟩ x).setCell ⟨w.heap.size + 1 + 1, 1, none⟩ y).setCell ⟨w.heap.size + 1 + 1 + 1, 0, none⟩ (.int .i64 z)) vk vb vc va vA x y z keep cs := by
  have hwB := h.wB
  have hp := h.pB
  have hq := h.qB
  have o : ∀ k, k ≠ w.heap.size + 1 + 1 → k ≠ w.heap.size + 1 + 1 + 1 → (((W.setCell ⟨w.heap.size + 1 + 1, 0, none⟩ x).setCell ⟨w.heap.size + 1 + 1, 1, none⟩ y).setCell ⟨w.heap.size + 1 + 1 + 1, 0, none⟩ (.int .i64 z)).heap[k]? = W.heap[k]? := fun k h1 h2 => by
    rw [Below.heap_setCell _ _ _ _ h2, Below.heap_setCell _ _ _ _ h1, Below.heap_setCell _ _ _ _ h1]
  refine ⟨bel_set (by omega) (bel_set (by omega) (bel_set (by omega) h.low)), by rw [o _ (by omega) (by omega)]; exact h.r1, ?_, heap_setCell_same _ (w.heap.size + 1 + 1 + 1) 0 #[.int .i64 rc] 29 (.int .i64 z) ?_, ?_, ?_, ⟨((h.own.b.set (by omega)).set (by omega)).set (by omega), ((h.own.c.set (by omega)).set (by omega)).set (by omega), h.own.ne⟩, by simpa [World.setCell] using h.siz, h.wB, h.ne, h.ne2, h.pB, h.qB⟩
  · rw [Below.heap_setCell _ _ _ _ (show w.heap.size + 1 + 1 ≠ w.heap.size + 1 + 1 + 1 by omega)]
    exact heap_setCell_same _ (w.heap.size + 1 + 1) 1 _ _ _ (heap_setCell_same W (w.heap.size + 1 + 1) 0 _ _ _ h.r2)
  · rw [Below.heap_setCell _ _ _ _ (show w.heap.size + 1 + 1 + 1 ≠ w.heap.size + 1 + 1 by omega), Below.heap_setCell _ _ _ _ (show w.heap.size + 1 + 1 + 1 ≠ w.heap.size + 1 + 1 by omega)]
    exact h.r3
  · rw [o p (by omega) (by omega)]; exact h.bx
  · rw [o q (by omega) (by omega)]; exact h.bq

theorem rgK_inv'' {bs : List Int} {k : Nat} {b1 b2 : Bool} {l1 l2 : Int} (h : rgK bs k = rgV b1 l1 b2 l2) : b1 = decide (0 < k) ∧ l1 = (if 0 < k then bs.getD (k - 1) 0 else 0) ∧ b2 = decide (k < bs.length) ∧ l2 = (if k < bs.length then bs.getD k 0 else 0) := by
  unfold rgK rgV at h
  simp only [Value.agg.injEq, Array.mk.injEq, List.cons.injEq, Value.bool.injEq, Value.int.injEq, true_and, and_true] at h
  exact ⟨h.1.symm, h.2.1.symm, h.2.2.1.symm, h.2.2.2.symm⟩
theorem others_below' {W W' : World} (hb : Below W.heap.size W W') : KeepsOthers W W' := ⟨hb.size, fun k o hk _ => stays hk hb⟩
/-- every round: what has been put, and that nothing is too great -/
def CoI (w : World) (B p q : Nat) (vk vb vc va vA : Value) (keep bs cs : List Int) (n : Nat) (W : World) : Prop :=
  CoSt w B p q W vk vb vc va vA (.slice none 0 0) (.slice none 0 0) 0 keep (crsF keep bs cs n) ∧ ∀ j, (crsF keep bs cs n).getD j 0 ≤ 1099511627776
def CoX (w : World) (B p q : Nat) (vk vb vc va vA : Value) (keep bs cs : List Int) (c : Code) (W : World) : Prop :=
  c = .ret ∧ (∃ l, CoSt w B p q W vk vb vc va vA (.slice none 0 0) (.slice none 0 0) 10 keep l) ∧ ∃ j, 1099511627776 < (crsF keep bs cs cs.length).getD j 0

set_option maxRecDepth 100000 in
set_option maxHeartbeats 2000000 in
theorem coarse_any (vb vc vk : Value) (bs cs keep : List Int) (w : World) (hb : Its w w.heap.size vb bs) (hc : Its w w.heap.size vc cs) (hk : Its w w.heap.size vk keep) (hfit : FitH bs cs) (hkl : keep.length ≤ 140737488355328) : Calls Tryd.prog 30 #[hiV vb vc, vk] w fun e w' => CoarseR keep bs cs w.heap.size e w' ∧ Below w.heap.size w w' := by
  have HB0 := Lib.hid hb
  have HC0 := Lib.hid hc
  have HK0 := Lib.hid hk
  have HF := Lib.hid hfit
  have HKL := Lib.hid hkl
  obtain ⟨ab, capb, hvb, -⟩ := hb.slice
  obtain ⟨ac, capc, hvc, -⟩ := hc.slice
  obtain ⟨ak, capk, hvk, -⟩ := hk.slice
  subst hvb hvc hvk
  obtain ⟨nb, hnb⟩ : ∃ n, n = bs.length := ⟨_, rfl⟩
  obtain ⟨nc, hnc⟩ : ∃ n, n = cs.length := ⟨_, rfl⟩
  obtain ⟨nk, hnk⟩ : ∃ n, n = keep.length := ⟨_, rfl⟩
  rw [← hnb] at HB0 ⊢
  rw [← hnc] at HC0 ⊢
  rw [← hnk] at HK0 ⊢
  have NB := Lib.hid hnb
  have NC := Lib.hid hnc
  have NK := Lib.hid hnk
  have BND : Hid (nb ≤ 64 ∧ nc = nb + 1) := by have := HF.out.1.2.1; have := HF.out.2.1; have := NB.out; have := NC.out; show _ ∧ _; omega
  clear hb hc hk hfit hkl hnb hnc hnk
  obtain ⟨W0, hW0⟩ : ∃ W0, W0 = (((w.alloc (.cells #[(.slice ab nb capb), (.slice ac nc capc)] 24)).alloc (.cells #[(.slice ak nk capk)] 22)).alloc (.cells #[.slice none 0 0, .slice none 0 0] 24)).alloc (.cells #[.int .i64 0] 29) := ⟨_, rfl⟩
  have hall : Below w.heap.size w W0 ∧ W0.heap[w.heap.size]? = some (hiO (.slice ab nb capb) (.slice ac nc capc)) ∧ W0.heap[w.heap.size + 1]? = some (.cells #[(.slice ak nk capk)] 22 (0, 0)) ∧ W0.heap[w.heap.size + 1 + 1]? = some (hiO (.slice none 0 0) (.slice none 0 0)) ∧ W0.heap[w.heap.size + 1 + 1 + 1]? = some (.cells #[.int .i64 0] 29 (0, 0)) ∧ W0.heap.size = w.heap.size + 1 + 1 + 1 + 1 := by
    obtain ⟨g0, k0⟩ := hist_new w (.slice ab nb capb) (.slice ac nc capc)
    have g1 := bel_alloc (o := .cells #[(.slice ak nk capk)] 22) (Below.refl (w.alloc (.cells #[(.slice ab nb capb), (.slice ac nc capc)] 24)).heap.size _) (Nat.le_refl _)
    have k1 := heap_alloc_new (w.alloc (.cells #[(.slice ab nb capb), (.slice ac nc capc)] 24)) (.cells #[(.slice ak nk capk)] 22)
    obtain ⟨g2, k2⟩ := hist_new ((w.alloc (.cells #[(.slice ab nb capb), (.slice ac nc capc)] 24)).alloc (.cells #[(.slice ak nk capk)] 22)) (.slice none 0 0) (.slice none 0 0)
    have g3 := bel_alloc (o := .cells #[.int .i64 0] 29) (Below.refl (((w.alloc (.cells #[(.slice ab nb capb), (.slice ac nc capc)] 24)).alloc (.cells #[(.slice ak nk capk)] 22)).alloc (.cells #[.slice none 0 0, .slice none 0 0] 24)).heap.size _) (Nat.le_refl _)
    have k3 := heap_alloc_new (((w.alloc (.cells #[(.slice ab nb capb), (.slice ac nc capc)] 24)).alloc (.cells #[(.slice ak nk capk)] 22)).alloc (.cells #[.slice none 0 0, .slice none 0 0] 24)) (.cells #[.int .i64 0] 29)
    have k0' := stays (stays (stays k0 g1) g2) g3
    have k1' := stays (stays k1 g2) g3
    have k2' := stays k2 g3
    have G := g0.trans ((g1.trans ((g2.trans (g3.mono g2.size)).mono g1.size)).mono g0.size)
    rw [← hW0] at k0' k1' k2' k3 G
    simp only [World.size_alloc] at k0' k1' k2' k3
    exact ⟨G, k0', k1', k2', k3, by rw [hW0]; simp⟩
  obtain ⟨l0, r0, r1, r2, r3, sz⟩ := hall
  have L0 := Lib.hid l0
  have R0 := Lib.hid r0
  have R1 := Lib.hid r1
  have R2 := Lib.hid r2
  have R3 := Lib.hid r3
  have SZ := Lib.hid sz
  have HN := Lib.hid (new_any (.slice ak nk capk) keep W0 (HK0.out.below L0.out L0.out.size))
  clear l0 r0 r1 r2 r3 sz
  refine (callsIn_wide (n := 5)).1 ?_
  refine callsIn_of_wp_marks Tryd.func30 rfl trivial ?_ rfl
  simp only [Tryd.ntmps30, List.size_toArray, List.length_cons, List.length_nil, Nat.reduceAdd, Nat.reduceSub, Array.replicate_succ, Array.replicate_zero, List.push_toArray, List.append_toArray, List.nil_append, List.cons_append]
  gi_wp2_with (fail)
  rw [← hW0]
  clear hW0
  refine ⟨trivial, ?_⟩
  refine (callsIn_wide.2 HN.out).mono ?_
  rintro e w1 ⟨hR, hB1⟩
  clear HN
  have y := ()
  have L1 := Lib.hid (L0.out.trans (hB1.mono L0.out.size))
  replace R0 := Lib.hid (stays R0.out hB1)
  replace R1 := Lib.hid (stays R1.out hB1)
  replace R2 := Lib.hid (stays R2.out hB1)
  replace R3 := Lib.hid (stays R3.out hB1)
  have Z1 : Hid (W0.heap.size ≤ w1.heap.size) := hB1.size
  clear hB1 y L0
  rcases hR with ⟨hnr, rfl⟩ | ⟨hris, va, vA, rfl, ho⟩
  · have HBAD : Hid (¬ KeepOk keep bs) := fun h => hnr h.1
    obtain ⟨g2, -⟩ := hist_new w1 (.slice none 0 0) (.slice none 0 0)
    have L2 := Lib.hid (L1.out.trans (g2.mono L1.out.size))
    have A2 := Lib.hid (stays R2.out g2)
    have A3 := Lib.hid (stays R3.out g2)
    clear hnr g2
    have r0 := hiO_0 A2.out
    have r1 := hiO_1 A2.out
    have z0 := hiF_0 A2.out
    have z1 := hiF_1 A2.out
    have r3 := cell_of_row _ _ 0 _ _ _ A3.out
    have z3 := frozen_of_row _ _ 0 _ _ A3.out
    gi_wp2_with (fail)
    refine ⟨trivial, ?_⟩
    gi_wp2
    exact marks_ret (v := .tuple #[hiV (.slice none 0 0) (.slice none 0 0), .int .i64 20]) (by simp [results, Tryd.results30, go_sem, *]) rfl ⟨.inl ⟨HBAD.out, rfl⟩, bel_set (by omega) (bel_set (by omega) (bel_set (by omega) L2.out))⟩
  · obtain ⟨gb, cpb, hva, hgb, -, -⟩ := ho.b.blk hris.1
    obtain ⟨gc, cpc, hvA, hgc, hgcs, -⟩ := ho.c.blk (by simp)
    rw [← NK.out] at hva
    obtain ⟨n2, hn2⟩ : ∃ n, n = (List.replicate (keep.length + 1) (0 : Int)).length := ⟨_, rfl⟩
    rw [← hn2] at hvA
    subst hva hvA
    clear hn2
    obtain ⟨g2, k2⟩ := hist_new w1 (.slice (some ⟨gb, 0, none⟩) nk cpb) (.slice (some ⟨gc, 0, none⟩) n2 cpc)
    have L2 := Lib.hid (L1.out.trans (g2.mono L1.out.size))
    have A0 := Lib.hid (stays R0.out g2)
    have A1 := Lib.hid (stays R1.out g2)
    have A2 := Lib.hid (stays R2.out g2)
    have A3 := Lib.hid (stays R3.out g2)
    have AP := Lib.hid k2
    have HO := Lib.hid (ho.below g2)
    have NE : Hid ((((.slice (some ⟨gc, 0, none⟩) n2 cpc) : Value)).ownBlock ≠ some w1.heap.size) := fun e => by simp only [Value.ownBlock, Option.some.injEq] at e; omega
    have HRIS := Lib.hid hris
    clear R0 R1 R2 R3 ho hgb hgc hgcs g2 k2 hris L1
    have hct := contains_coarse w.heap.size (.slice ak nk capk) keep _ (HK0.out.below L2.out L2.out.size) (fun x => !decide (x ∈ bs)) (fun x W hbW => coarse1_any w.heap.size (.slice ab nb capb) (.slice ac nc capc) bs x W (stays A0.out hbW) (HB0.out.below (L2.out.trans (hbW.mono L2.out.size)) (Nat.le_trans L2.out.size hbW.size)))
    have a1 := cell_of_row _ _ 0 _ _ _ A1.out
    gi_wp2_with (fail)
    refine ⟨trivial, ?_⟩
    refine (callsIn_wide.2 hct).mono ?_
    rintro e w3 ⟨rfl, hB3⟩
    clear hct a1
    generalize hP : w1.alloc (.cells #[(.slice (some ⟨gb, 0, none⟩) nk cpb), (.slice (some ⟨gc, 0, none⟩) n2 cpc)] 24) = W1 at *
    have Z2 : Hid (w1.heap.size < W1.heap.size) := by show _ < _; rw [← hP]; simp
    clear hP
    have L3 := Lib.hid (L2.out.trans (hB3.mono L2.out.size))
    replace A0 := Lib.hid (stays A0.out hB3)
    replace A1 := Lib.hid (stays A1.out hB3)
    replace A2 := Lib.hid (stays A2.out hB3)
    replace A3 := Lib.hid (stays A3.out hB3)
    replace AP := Lib.hid (stays AP.out hB3)
    replace HO := Lib.hid (HO.out.below hB3)
    have Z3 : Hid (W1.heap.size ≤ w3.heap.size) := hB3.size
    clear hB3 L2
    by_cases hin : ∀ x, x ∈ keep → x ∈ bs
    · have hany : keep.any (fun x => !decide (x ∈ bs)) = false := by
        rw [List.any_eq_false]; intro x hx; simp [hin x hx]
      rw [hany]
      have HOK : Hid (KeepOk keep bs) := ⟨HRIS.out, hin⟩
      clear hany hin
      obtain ⟨g4, k4⟩ := hist_new w3 (.slice ab nb capb) (.slice ac nc capc)
      have hst : CoI w W0.heap.size w1.heap.size w3.heap.size (.slice ak nk capk) (.slice ab nb capb) (.slice ac nc capc) (.slice (some ⟨gb, 0, none⟩) nk cpb) (.slice (some ⟨gc, 0, none⟩) n2 cpc) keep bs cs 0 (w3.alloc (.cells #[(.slice ab nb capb), (.slice ac nc capc)] 24)) := by
        refine ⟨⟨L3.out.trans (g4.mono L3.out.size), stays A1.out g4, stays A2.out g4, stays A3.out g4, stays AP.out g4, k4, HO.out.below g4, ?_, ?_, NE.out, ?_, Z1.out, ?_⟩, ?_⟩
        · have := Z1.out; have := Z2.out; have := Z3.out; have := g4.size; omega
        · have := SZ.out; omega
        · intro e
          simp only [Value.ownBlock, Option.some.injEq] at e
          have hlt := (Array.getElem?_eq_some_iff.1 AP.out).1
          rcases HO.out.c.2 with ⟨h, -⟩ | ⟨g, cap, cur, h, -, hg, -⟩
          · cases h
          · cases h
            have := (Array.getElem?_eq_some_iff.1 hg).1
            omega
        · have := Z1.out; have := Z2.out; have := Z3.out; omega
        · intro j
          have : (crsF keep bs cs 0).getD j 0 = 0 := by
            by_cases hj : j < keep.length + 1 <;> simp [crsF, List.getD, hj]
          rw [this]; omega
      have HST := Lib.hid hst
      have a0 := hiO_0 A0.out
      have a1 := hiO_1 A0.out
      clear hst g4 k4 A1 A2 A3 AP HO
      gi_wp2_with (fail)
      refine ⟨trivial, ?_⟩
      refine (callsIn_wide.2 (buckets_calls _ _ _)).mono ?_
      rintro e w' ⟨rfl, rfl⟩
      gi_wp2
      clear a0 a1
      generalize w1.heap.size = p at *
      obtain ⟨q, hq⟩ : ∃ q, q = w3.heap.size := ⟨_, rfl⟩
      rw [← hq] at HST ⊢
      have HQW := Lib.hid hq
      clear hq
      generalize W0.heap.size = B at *
      refine wpIn_range_as (F := Fence.wide) (n := 5) rfl (by omega) (gf := 62) (lb := #[.pointer (some ⟨q, 0, none⟩)]) ?hg trivial (enters_of Tryd.func62 (by kernel_rfl) rfl)
        (buckets1_iter q (.slice ab nb capb) (.slice ac nc capc) bs cs (by have := NB.out; have := NC.out; have := BND.out; omega) (by have := NB.out; have := BND.out; omega) 4) (fun x => rfl) ?hRput
        (fun pre W => CoI w B p q (.slice ak nk capk) (.slice ab nb capb) (.slice ac nc capc) (.slice (some ⟨gb, 0, none⟩) nk cpb) (.slice (some ⟨gc, 0, none⟩) n2 cpc) keep bs cs pre.length W) (fun c _ W => CoX w B p q (.slice ak nk capk) (.slice ab nb capb) (.slice ac nc capc) (.slice (some ⟨gb, 0, none⟩) nk cpb) (.slice (some ⟨gc, 0, none⟩) n2 cpc) keep bs cs c W) ?hI ?hIp ?hIxp ?hInv ?h0
        (A := ?A) (fun (x : Nat) (q : Nat) (b1 : Bool) (l1 : Int) (b2 : Bool) (l2 : Int) (c : Int) W => rgK bs x = rgV b1 l1 b2 l2 ∧ c = cs.getD x 0 ∧ W.heap[q]? = some (.cells #[.bool b1, .int .i64 l1, .bool b2, .int .i64 l2] 28 (0, 0))) ?hAxp ?assign ?body ?done ?stop
      case hg => rfl
      case hRput => exact fun pre x W l o o' h _ _ => h
      case hI => exact fun s' A B h hb => ⟨h.1.below hb, h.2⟩
      case hIp => exact fun s' A l o o' h hl ho hc => ⟨h.1.putO o' (by have := L3.out.size; simp at hl; omega) ho hc, h.2⟩
      case hIxp =>
        rintro c s' A l o o' ⟨h1, ⟨l', h2⟩, h3⟩ hl ho hc
        exact ⟨h1, ⟨l', h2.putO o' (by have := L3.out.size; simp at hl; omega) ho hc⟩, h3⟩
      case hInv => exact fun s' A h => ⟨h.1.bq, HB0.out.below h.1.low h.1.low.size, HC0.out.below h.1.low h.1.low.size⟩
      case h0 => exact HST.out
      case hAxp =>
        rintro x q b1 l1 b2 l2 c A l o o' ⟨h2, h3, h4⟩ hl ho hc
        exact ⟨h2, h3, row_put o' h4 ho hc⟩
      case assign =>
        rintro yl pre k W K hQ hR hK
        obtain ⟨b1, l1, b2, l2, hrg⟩ : ∃ b1 l1 b2 l2, rgK bs k = rgV b1 l1 b2 l2 := ⟨_, _, _, _, rfl⟩
        obtain ⟨c, hc⟩ : ∃ c, c = cs.getD k 0 := ⟨_, rfl⟩
        simp only [encB]
        rw [hrg, ← hc]
        simp only [rgV]
        have HK := Lib.hid hK
        have HQ := Lib.hid hQ
        have HRG := Lib.hid hrg
        have HCC := Lib.hid hc
        clear hK hQ hrg hc
        gi_wp2
        have g1 : Below W.heap.size W (W.alloc (.cells #[.bool b1, .int .i64 l1, .bool b2, .int .i64 l2] 28)) := bel_alloc (Below.refl _ _) (Nat.le_refl _)
        have k1 := heap_alloc_new W (.cells #[.bool b1, .int .i64 l1, .bool b2, .int .i64 l2] 28)
        have hQ1 : CoI w B p q (.slice ak nk capk) (.slice ab nb capb) (.slice ac nc capc) (.slice (some ⟨gb, 0, none⟩) nk cpb) (.slice (some ⟨gc, 0, none⟩) n2 cpc) keep bs cs pre.length (W.alloc (.cells #[.bool b1, .int .i64 l1, .bool b2, .int .i64 l2] 28)) := ⟨HQ.out.1.below g1, HQ.out.2⟩
        clear g1
        have hko := KeepsOthers.alloc W (.cells #[.bool b1, .int .i64 l1, .bool b2, .int .i64 l2] 28)
        generalize W.heap.size = u at *
        exact HK.out u b1 l1 b2 l2 c _ hko hQ1 hR ⟨HRG.out, HCC.out, k1⟩
      case body =>
        rintro yl pre k u b1 l1 b2 l2 c W ⟨hC, hlim⟩ ⟨hpre, hk⟩ ⟨hrg, hc, hrow⟩
        have hlen : pre.length = k := by rw [hpre]; simp
        rw [hlen] at hC hlim
        have HLN : Hid ((pre ++ [k]).length = k + 1) := by show _ = _; simp [hlen]
        have hcin := HF.out.cnt k
        rw [← hc] at hcin
        have hc0 : 0 ≤ c := hcin.1
        have hc1 : c ≤ 1099511627776 := hcin.2
        have HCC := Lib.hid hc
        have HK := Lib.hid hk
        have HLIM := Lib.hid hlim
        have HS := Lib.hid hC
        have HG := Lib.hid hrow
        obtain ⟨rb1, rl1, -, -⟩ := rgK_inv'' hrg
        have HJ : Hid (crsJ keep bs k = if b1 then bucketF keep l1 else 0) := by
          show _ = _
          unfold crsJ
          rw [rb1, rl1]
          by_cases h : 0 < k <;> simp [h]
        clear hC hlim hpre hlen hk hrow hrg rb1 rl1 hc hcin
        obtain ⟨j, hj⟩ : ∃ j, j = crsJ keep bs k := ⟨_, rfl⟩
        rw [← hj] at HJ
        have HJJ := Lib.hid hj
        have hjl := crsJ_lt keep bs k
        rw [← hj] at hjl
        have HJL := Lib.hid hjl
        clear hj hjl
        have hcj := crsF_in keep bs cs HF.out.cnt k j
        have HCJ := Lib.hid hcj
        clear hcj
        cases b1
        · have HJ0 : Hid (j = 0) := HJ.out
          obtain rfl : j = 0 := HJ0.out
          have q0 := cell_of_row _ _ 0 _ _ _ HG.out
          have p0 := hiO_0 HS.out.bx
          have p1 := hiO_1 HS.out.bx
          have hpu := put_any (.slice (some ⟨gb, 0, none⟩) nk cpb) (.slice (some ⟨gc, 0, none⟩) n2 cpc) keep (crsF keep bs cs k) 0 c W B HS.out.own HS.out.siz (by rw [crsF_length]; exact HJL.out) HCJ.out.1 (HLIM.out _) hc0 (by omega)
          gi_wp2_with (fail)
          refine ⟨trivial, ?_⟩
          refine (CallsIn.inRound yl (callsIn_wide.2 hpu)).mono ?_
          rintro e w6 ⟨hP, hBe, hF6⟩
          have HKO6 : Hid (KeepsOthers W w6) := (HS.out.others hBe.size hF6)
          clear hpu p0 p1
          rcases hP with ⟨hbad, rfl, hO⟩ | ⟨hgood, rfl, hO⟩
          · have HS6 := Lib.hid (HS.out.put hBe hF6 hO)
            have HBAD : Hid (∃ j, 1099511627776 < (crsF keep bs cs cs.length).getD j 0) := by
              refine ⟨crsJ keep bs k, ?_⟩
              have h1 := crsF_step keep bs cs k (crsJ keep bs k)
              rw [if_pos rfl, ← HJJ.out, ← HCC.out] at h1
              have h2 := crsF_mono keep bs cs HF.out.cnt (k + 1) (crsJ keep bs k) (cs.length - (k + 1))
              rw [show k + 1 + (cs.length - (k + 1)) = cs.length by have := HK.out; omega, ← HJJ.out] at h2
              rw [← HJJ.out]
              omega
            have r0 := hiO_0 HS6.out.r2
            have r1 := hiO_1 HS6.out.r2
            have z0 := hiF_0 HS6.out.r2
            have z1 := hiF_1 HS6.out.r2
            have r3 := cell_of_row _ _ 0 _ _ _ HS6.out.r3
            have z3 := frozen_of_row _ _ 0 _ _ HS6.out.r3
            clear hbad hO hBe hF6
            gi_wp2
            exact ⟨HKO6.out.trans (((KeepsOthers.setCell _ _ _).trans (KeepsOthers.setCell _ _ _)).trans (KeepsOthers.setCell _ _ _)), rfl, ⟨_, HS6.out.res _ _ _⟩, HBAD.out⟩
          · have HS6 : Hid (CoSt w B p q w6 (.slice ak nk capk) (.slice ab nb capb) (.slice ac nc capc) (.slice (some ⟨gb, 0, none⟩) nk cpb) (.slice (some ⟨gc, 0, none⟩) n2 cpc) (.slice none 0 0) (.slice none 0 0) 0 keep (crsF keep bs cs (k + 1))) := by
              have := HS.out.put hBe hF6 hO
              rw [crsF, ← HJJ.out, ← HCC.out]
              exact this
            have HL6 : Hid (∀ i, (crsF keep bs cs (k + 1)).getD i 0 ≤ 1099511627776) := by
              intro i
              rw [crsF_step]
              have := HLIM.out i
              by_cases h : i = crsJ keep bs k
              · rw [if_pos h, h, ← HJJ.out, ← HCC.out]; exact hgood
              · rw [if_neg h]; omega
            clear hgood hO hBe hF6
            gi_wp2
            refine ⟨HKO6.out, ?_⟩
            show CoI w B p q _ _ _ _ _ keep bs cs (pre ++ [k]).length w6
            rw [HLN.out]
            exact ⟨HS6.out, HL6.out⟩
        · have q0 := cell_of_row _ _ 0 _ _ _ HG.out
          have q1 := cell_of_row _ _ 1 _ _ _ HG.out
          have hbk := bucket_any (.slice ak nk capk) keep l1 W (HK0.out.below HS.out.low HS.out.low.size) HKL.out
          have m1 := cell_of_row _ _ 0 _ _ _ HS.out.r1
          have HJ1 : Hid (bucketF keep l1 = j) := HJ.out.symm
          rw [HJ1.out] at hbk
          gi_wp2_with (fail)
          refine ⟨trivial, ?_⟩
          refine (CallsIn.inRound yl (callsIn_wide.2 hbk)).mono ?_
          rintro e w5 ⟨rfl, hB5⟩
          have HS5 := Lib.hid (HS.out.below hB5)
          have HKO := Lib.hid (others_below' hB5)
          clear hbk q0 q1 m1 hB5
          have p0 := hiO_0 HS5.out.bx
          have p1 := hiO_1 HS5.out.bx
          have hpu := put_any (.slice (some ⟨gb, 0, none⟩) nk cpb) (.slice (some ⟨gc, 0, none⟩) n2 cpc) keep (crsF keep bs cs k) j c w5 B HS5.out.own HS5.out.siz (by rw [crsF_length]; exact HJL.out) HCJ.out.1 (HLIM.out _) hc0 (by omega)
          gi_wp2_with (fail)
          refine ⟨trivial, ?_⟩
          refine (CallsIn.inRound yl (callsIn_wide.2 hpu)).mono ?_
          rintro e w6 ⟨hP, hBe, hF6⟩
          have HKO6 : Hid (KeepsOthers W w6) := HKO.out.trans (HS5.out.others hBe.size hF6)
          clear hpu p0 p1
          rcases hP with ⟨hbad, rfl, hO⟩ | ⟨hgood, rfl, hO⟩
          · have HS6 := Lib.hid (HS5.out.put hBe hF6 hO)
            have HBAD : Hid (∃ j, 1099511627776 < (crsF keep bs cs cs.length).getD j 0) := by
              refine ⟨crsJ keep bs k, ?_⟩
              have h1 := crsF_step keep bs cs k (crsJ keep bs k)
              rw [if_pos rfl, ← HJJ.out, ← HCC.out] at h1
              have h2 := crsF_mono keep bs cs HF.out.cnt (k + 1) (crsJ keep bs k) (cs.length - (k + 1))
              rw [show k + 1 + (cs.length - (k + 1)) = cs.length by have := HK.out; omega, ← HJJ.out] at h2
              rw [← HJJ.out]
              omega
            have r0 := hiO_0 HS6.out.r2
            have r1 := hiO_1 HS6.out.r2
            have z0 := hiF_0 HS6.out.r2
            have z1 := hiF_1 HS6.out.r2
            have r3 := cell_of_row _ _ 0 _ _ _ HS6.out.r3
            have z3 := frozen_of_row _ _ 0 _ _ HS6.out.r3
            clear hbad hO hBe hF6
            gi_wp2
            exact ⟨HKO6.out.trans (((KeepsOthers.setCell _ _ _).trans (KeepsOthers.setCell _ _ _)).trans (KeepsOthers.setCell _ _ _)), rfl, ⟨_, HS6.out.res _ _ _⟩, HBAD.out⟩
          · have HS6 : Hid (CoSt w B p q w6 (.slice ak nk capk) (.slice ab nb capb) (.slice ac nc capc) (.slice (some ⟨gb, 0, none⟩) nk cpb) (.slice (some ⟨gc, 0, none⟩) n2 cpc) (.slice none 0 0) (.slice none 0 0) 0 keep (crsF keep bs cs (k + 1))) := by
              have := HS5.out.put hBe hF6 hO
              rw [crsF, ← HJJ.out, ← HCC.out]
              exact this
            have HL6 : Hid (∀ i, (crsF keep bs cs (k + 1)).getD i 0 ≤ 1099511627776) := by
              intro i
              rw [crsF_step]
              have := HLIM.out i
              by_cases h : i = crsJ keep bs k
              · rw [if_pos h, h, ← HJJ.out, ← HCC.out]; exact hgood
              · rw [if_neg h]; omega
            clear hgood hO hBe hF6
            gi_wp2
            refine ⟨HKO6.out, ?_⟩
            show CoI w B p q _ _ _ _ _ keep bs cs (pre ++ [k]).length w6
            rw [HLN.out]
            exact ⟨HS6.out, HL6.out⟩
      case done =>
        rintro D xs W rfl ⟨hQ, hlim⟩ hD hDn
        rw [List.length_range] at hQ hlim
        have p0 := hiO_0 hQ.bx
        have p1 := hiO_1 hQ.bx
        have r0 := hiO_0 hQ.r2
        have r1 := hiO_1 hQ.r2
        have z0 := hiF_0 hQ.r2
        have z1 := hiF_1 hQ.r2
        have r3 := cell_of_row _ _ 0 _ _ _ hQ.r3
        have z3 := frozen_of_row _ _ 0 _ _ hQ.r3
        have HQ := Lib.hid hQ
        have HLIM := Lib.hid hlim
        have HD := Lib.hid hD
        have HDN := Lib.hid hDn
        clear hQ hD hDn hlim
        gi_wp2
        have hs := HQ.out.res (.slice (some ⟨gb, 0, none⟩) nk cpb) (.slice (some ⟨gc, 0, none⟩) n2 cpc) 0
        have hdd : D ≠ w.heap.size + 1 + 1 ∧ D ≠ w.heap.size + 1 + 1 + 1 := ⟨(fun e => by have := HQ.out.r2; rw [← e, HD.out] at this; cases this), (fun e => by have := HQ.out.r3; rw [← e, HD.out] at this; cases this)⟩
        have hD2 : (((W.setCell ⟨w.heap.size + 1 + 1, 0, none⟩ (.slice (some ⟨gb, 0, none⟩) nk cpb)).setCell ⟨w.heap.size + 1 + 1, 1, none⟩ (.slice (some ⟨gc, 0, none⟩) n2 cpc)).setCell ⟨w.heap.size + 1 + 1 + 1, 0, none⟩ (.int .i64 0)).heap[D]? = some (.deferred (some [])) := by
          rw [Below.heap_setCell _ _ _ _ hdd.2, Below.heap_setCell _ _ _ _ hdd.1, Below.heap_setCell _ _ _ _ hdd.1]; exact HD.out
        have hs2 := hs.putO (.deferred none) (by have h := HDN.out; have := L3.out.size; simp at h; omega) hD2 rfl
        refine marks_ret1 rfl hD2 (v := .tuple #[hiV (.slice (some ⟨gb, 0, none⟩) nk cpb) (.slice (some ⟨gc, 0, none⟩) n2 cpc), .int .i64 0]) ?_ ⟨.inr (.inr ⟨HOK.out, HLIM.out, _, _, rfl, hs2.own.mono (by have := hs2.wB; omega)⟩), hs2.low⟩
        clear hs
        generalize ((((W.setCell ⟨w.heap.size + 1 + 1, 0, none⟩ (.slice (some ⟨gb, 0, none⟩) nk cpb)).setCell ⟨w.heap.size + 1 + 1, 1, none⟩ (.slice (some ⟨gc, 0, none⟩) n2 cpc)).setCell ⟨w.heap.size + 1 + 1 + 1, 0, none⟩ (.int .i64 0)).putObj D (.deferred none)) = V at *
        have x0 := hiO_0 hs2.r2
        have x1 := hiO_1 hs2.r2
        have x2 := cell_of_row _ _ 0 _ _ _ hs2.r3
        simp [results, Tryd.results30, go_sem, x0, x1, x2]
      case stop =>
        rintro D c pre W - ⟨rfl, ⟨l', hQ⟩, hbad⟩ hD hDn
        have HQ := Lib.hid hQ
        have HBAD := Lib.hid hbad
        have HD := Lib.hid hD
        have HDN := Lib.hid hDn
        clear hQ hD hDn hbad
        gi_wp2
        have hs2 := HQ.out.putO (.deferred none) (by have h := HDN.out; have := L3.out.size; simp at h; omega) HD.out rfl
        refine marks_ret1 rfl HD.out (v := .tuple #[hiV (.slice none 0 0) (.slice none 0 0), .int .i64 10]) ?_ ⟨.inr (.inl ⟨HOK.out, HBAD.out, rfl⟩), hs2.low⟩
        generalize W.putObj D (.deferred none) = V at *
        have x0 := hiO_0 hs2.r2
        have x1 := hiO_1 hs2.r2
        have x2 := cell_of_row _ _ 0 _ _ _ hs2.r3
        simp [results, Tryd.results30, go_sem, x0, x1, x2]
    · have hany : keep.any (fun x => !decide (x ∈ bs)) = true := by
        rw [List.any_eq_true]
        obtain ⟨x, hx⟩ := Classical.not_forall.1 hin
        obtain ⟨h1, h2⟩ := Classical.not_imp.1 hx
        exact ⟨x, h1, by simp [h2]⟩
      rw [hany]
      have HBAD : Hid (¬ KeepOk keep bs) := fun h => hin h.2
      clear hany hin
      have L2 := L3
      have r0 := hiO_0 A2.out
      have r1 := hiO_1 A2.out
      have z0 := hiF_0 A2.out
      have z1 := hiF_1 A2.out
      have r3 := cell_of_row _ _ 0 _ _ _ A3.out
      have z3 := frozen_of_row _ _ 0 _ _ A3.out
      gi_wp2
      exact marks_ret (v := .tuple #[hiV (.slice none 0 0) (.slice none 0 0), .int .i64 20]) (by simp [results, Tryd.results30, go_sem, *]) rfl ⟨.inl ⟨HBAD.out, rfl⟩, bel_set (by omega) (bel_set (by omega) (bel_set (by omega) L2.out))⟩

end Go.Proofs.YtghgnalbahneoaaDoor
