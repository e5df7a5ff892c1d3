/- Chapter 3's examples: awake() is true. -/
import Derived.Test.YtmekpmboghmfpaaDoorCodeRead
namespace Go.Proofs.YtmekpmboghmfpaaDoor
open Go.RowKit

theorem two_lits (w : World) (l : List UInt8) (ks : List Int) (hl : l.length ≤ 100) (hk : ks.length ≤ 100) :
    Bts ((w.alloc (.cells (l.map byteV).toArray 5)).alloc (.cells (ks.map (Value.int .i64)).toArray 3)) (w.heap.size + 1 + 1) (.slice (some ⟨w.heap.size, 0, none⟩) l.length l.length) l ∧
    Ints ((w.alloc (.cells (l.map byteV).toArray 5)).alloc (.cells (ks.map (Value.int .i64)).toArray 3)) (w.heap.size + 1 + 1) (.slice (some ⟨w.heap.size + 1, 0, none⟩) ks.length ks.length) ks ∧
    Below w.heap.size w ((w.alloc (.cells (l.map byteV).toArray 5)).alloc (.cells (ks.map (Value.int .i64)).toArray 3)) := by
  have s1 : (w.alloc (.cells (l.map byteV).toArray 5)).heap.size = w.heap.size + 1 := by simp
  have k1 : ((w.alloc (.cells (l.map byteV).toArray 5)).alloc (.cells (ks.map (Value.int .i64)).toArray 3)).heap[w.heap.size]? = some (.cells (l.map byteV).toArray 5 (0, 0)) := by
    rw [Below.heap_alloc _ _ _ (by rw [s1]; omega)]; exact heap_alloc_new w _
  have k2 : ((w.alloc (.cells (l.map byteV).toArray 5)).alloc (.cells (ks.map (Value.int .i64)).toArray 3)).heap[w.heap.size + 1]? = some (.cells (ks.map (Value.int .i64)).toArray 3 (0, 0)) := by
    rw [← s1]; exact heap_alloc_new _ _
  refine ⟨(Bts.lit _ w.heap.size (l.map byteV).toArray 5 _ l l.length l.length k1 rfl (Nat.le_refl _) (by simp [maxLen]; omega) (fun i hi => by simp [List.getD, hi, byteV])).mono (by simp), ?_,
    ((Below.refl _ _).alloc (Nat.le_refl _) _).alloc (by rw [s1]; omega) _⟩
  refine ⟨_, _, rfl, Nat.le_refl _, by unfold maxLen; omega, fun _ => ⟨_, 0, rfl, by omega, fun i hi => ?_⟩⟩
  rw [Nat.zero_add, cell_of_row _ _ i _ _ _ k2]
  simp [List.getD, hi]

theorem read_bad : readF [128, 0] [1] [] 0 = ([], 0, 20) := by rfl
theorem read_300 : readF [172, 2, 7] [1] [] 0 = ([⟨1, 300, [], false⟩], 2, 0) := by rfl
theorem vint_7f : vint (zig (-64)) = [127] := by rfl
theorem vint_most : (vint 18446744073709551615).length = 10 := by decide +kernel

theorem one_field {w : World} {B : Nat} {v : Value} {f : Fld} (h : OwnF w B v [f]) : ∃ g cap, v = .slice (some ⟨g, 0, none⟩) 1 cap ∧ w.cell? ⟨g, 0, none⟩ = some (.int .i64 f.kind) ∧ w.cell? ⟨g, 1, none⟩ = some (.int .i64 f.num) ∧ w.cell? ⟨g, 2, none⟩ = some (.string ⟨f.text.toArray⟩) ∧ w.cell? ⟨g, 3, none⟩ = some (.bool f.is_) := by
  rcases h.2 with ⟨_, h0⟩ | ⟨g, cap, cur, hv, hb, hg, hn, hcm, hcs, htake⟩
  · simp at h0
  · have key : ∀ j u, f.cells[j]? = some u → w.cell? ⟨g, j, none⟩ = some u := by
      intro j u hj
      rw [cell_of_row w g j cur _ _ hg]
      have hj4 : j < 4 := by have := (List.getElem?_eq_some_iff.1 hj).1; simpa [Fld.cells] using this
      have h3 : (List.flatMap Fld.cells [f])[j]? = some u := by simpa using hj
      rw [← htake, List.getElem?_take] at h3
      simpa [show j < 1 * 4 by omega] using h3
    exact ⟨g, cap, hv, key 0 _ rfl, key 1 _ rfl, key 2 _ rfl, key 3 _ rfl⟩

set_option maxRecDepth 100000 in
set_option maxHeartbeats 2000000 in
theorem awake_true (w : World) : Calls Tryd.prog 28 #[] w fun e w' => e = .returned (.bool true) ∧ Below w.heap.size w w' := by
  obtain ⟨a1, a2, a3⟩ := two_lits w [128, 0] [1] (by decide) (by decide)
  have c1 := code_Read _ _ _ _ _ (a1.mono (by simp)) (a2.below (Below.refl _ _) (by simp)) (by decide) (by decide)
  rw [read_bad] at c1
  have HB1 := Lib.hid a3
  clear a1 a2 a3
  go_enter Tryd.func28, Tryd.ntmps28
  go_wp2_with fail
  refine c1.mono ?_
  rintro e w1 ⟨v1, rfl, hB1, -⟩
  have HB2 := Lib.hid (HB1.out.trans (hB1.mono HB1.out.size))
  clear c1 HB1 hB1
  obtain ⟨a1, a2, a3⟩ := two_lits w1 [172, 2, 7] [1] (by decide) (by decide)
  have c1 := code_Read _ _ _ _ _ (a1.mono (by simp)) (a2.below (Below.refl _ _) (by simp)) (by decide) (by decide)
  rw [read_300] at c1
  have HB3 := Lib.hid (HB2.out.trans (a3.mono HB2.out.size))
  clear a1 a2 a3 HB2
  go_wp2_with fail
  refine c1.mono ?_
  rintro e w2 ⟨v2, rfl, hB2, hO⟩
  have HB4 := Lib.hid (HB3.out.trans (hB2.mono HB3.out.size))
  clear c1 HB3 hB2
  obtain ⟨g, cap, rfl, k0, k1, k2, k3⟩ := one_field hO
  clear hO
  have c2 := code_Signed (.slice none 0 0) [] (-64) w2 (by decide) (by decide) (Bts.nil _ _) (by decide)
  rw [List.nil_append, vint_7f] at c2
  go_wp2_with fail
  refine c2.mono ?_
  rintro e w3 ⟨v3, rfl, hO3, hB3⟩
  have HB5 := Lib.hid (HB4.out.trans (hB3.mono HB4.out.size))
  have c3 := code_Size 18446744073709551615 w3 (by decide)
  rw [vint_most] at c3
  clear c2 HB4 hB3 k0 k1 k2 k3
  have hst := hO3.bts.strB
  clear hO3
  go_wp2_with fail
  refine c3.mono ?_
  rintro e w4 ⟨rfl, rfl⟩
  go_wp2
  go_ret
  exact ⟨rfl, HB5.out⟩
end Go.Proofs.YtmekpmboghmfpaaDoor
