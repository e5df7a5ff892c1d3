/- Cuts: the law's awake: the chapter's example, walked.
Cuts: from what the arguments read as to what the walks ask of them: a []api.Link. -/
import Derived.Test.YtenilbofncfbdaaCM
import Derived.Test.YtenilbofncfbdaaCL
import Derived.Test.YtenilbofncfbdaaCF
import Derived.Test.YtenilbofncfbdaaCJ
import Derived.Test.YtenilbofncfbdaaCB
import Derived.ProofKit
import Derived.OpenShut
import Derived.Deep.DeepHandedRow
import Derived.Lib.LaidTab
import Derived.Deep.Slices
import Derived.Deep.Fields
set_option linter.unusedSimpArgs false
set_option linter.unusedVariables false
namespace Go.Proofs.Ytenilbofncfbdaa
open Go.RowKit

def exL : Prs := [(0, 1), (0, 2), (1, 2), (2, 3), (3, 4), (3, 5), (4, 5)]
theorem ex_fit : FitL 6 exL := fit_row.2 (by decide)
theorem ex_weak : weakI exL 6 = (1, true) := by decide +kernel
theorem ex_bridges : bridgesI exL 6 = [(2, 3)] := by decide +kernel
theorem ex_joints : jointsI exL 6 = [2, 3] := by decide +kernel
theorem ex_flow : (mostI exL 6 0 1).2 = 2 := by decide +kernel
theorem ex_cut : cutI exL 6 0 5 = [(2, 3)] := by decide +kernel
theorem ex_tree : treeI exL 6 0 = [-1, 0, 0, 2, 3, 3] := by decide +kernel
theorem ex_ways : (waysI exL 6 0 1).length = 2 := by decide +kernel
theorem ex_blocks : (blocksI exL 6).length = 2 := by decide +kernel
theorem Lks.lit {W : World} {b : Nat} {xs : Ipr} (h : W.heap[b]? = some (.cells (xs.flatMap lkV).toArray 38 (0, 0))) (hl : xs.length ≤ 1000) : Lks W W.heap.size (.slice (some ⟨b, 0, none⟩) xs.length xs.length) xs := by
  refine ⟨_, _, rfl, Nat.le_refl _, by unfold maxLen; omega, (fun h => by cases h), fun _ => ⟨b, 0, rfl, (Array.getElem?_eq_some_iff.1 h).1, fun i hi => ?_⟩⟩
  obtain ⟨h1, h2⟩ := flat_get xs i hi
  rw [Nat.zero_add]
  simp only [World.cell?, h]
  exact ⟨by simpa using h1, by simpa using h2⟩

set_option maxRecDepth 100000 in
set_option maxHeartbeats 1000000 in
theorem awake_any (w : World) : Calls Try.prog 9 #[] w fun e w' => e = .returned (.bool true) ∧ Below w.heap.size w w' := by
  have HLV : Hid (∀ (lv : Value) (b : Nat), lv = .slice (some ⟨b, 0, none⟩) 7 7 → ∀ (w1 : World), w1.heap[b]? = some (.cells ((prI exL).flatMap lkV).toArray 38 (0, 0)) → ∀ W, Below w1.heap.size w1 W → Lis W W.heap.size lv exL) := by
    rintro lv b rfl w1 h W hW
    exact Lks.lit (stays h hW) (by decide)
  go_enter Try.func9, Try.ntmps9
  go_wp2_with (fail)
  have m1 := new_block w (.cells ((prI exL).flatMap lkV).toArray 38)
  obtain ⟨w1, hw1⟩ : ∃ W, W = w.alloc (.cells ((prI exL).flatMap lkV).toArray 38) := ⟨_, rfl⟩
  have e1 : (w.alloc (.cells #[.int .i64 0, .int .i64 1, .int .i64 0, .int .i64 2, .int .i64 1, .int .i64 2, .int .i64 2, .int .i64 3, .int .i64 3, .int .i64 4, .int .i64 3, .int .i64 5, .int .i64 4, .int .i64 5] 38)) = w1 := by rw [hw1]; rfl
  rw [← hw1] at m1
  rw [e1]
  obtain ⟨b, hb⟩ : ∃ b, b = w.heap.size := ⟨_, rfl⟩
  rw [← hb] at m1 ⊢
  obtain ⟨lv, hlv⟩ : ∃ lv, lv = Value.slice (some ⟨b, 0, none⟩) 7 7 := ⟨_, rfl⟩
  have HLI : Hid (∀ W, Below w1.heap.size w1 W → Lis W W.heap.size lv exL) := HLV.out lv b hlv w1 m1.2
  rw [← hlv]
  have HBW : Hid (Below w.heap.size w w1) := by rw [hb] at m1; exact m1.1
  have HB1 : Hid (Below w1.heap.size w1 w1) := Below.refl _ _
  clear hw1 e1 hb hlv m1 HLV
  refine (weakest_any w1 lv 6 exL (HLI.out _ HB1.out) ex_fit (by decide) (by decide)).mono ?_
  rw [ex_weak]
  rintro e W2 ⟨rfl, hb2⟩
  have HB2 : Hid (Below w1.heap.size w1 W2) := hb2
  clear hb2
  go_wp2_with (fail)
  refine (bridges_any W2 lv 6 exL (HLI.out _ HB2.out) ex_fit (by decide) (by decide)).mono ?_
  rw [ex_bridges]
  rintro e W3 ⟨⟨v2, rfl, ho2⟩, hb3⟩
  have HO2 := Lib.hid ho2
  have HB3 : Hid (Below w1.heap.size w1 W3) := HB2.out.trans (hb3.mono HB2.out.size)
  clear hb3 ho2
  go_wp2_with (fail)
  have m3 := new_block W3 (.cells #[.int .i64 2, .int .i64 3] 38)
  refine (links_any _ _ _ (prI [(2, 3)]) [((2 : Int), (3 : Int))] (HO2.out.lks.kept m3.1) (Lks.lit (xs := [((2 : Int), (3 : Int))]) m3.2 (by decide))).mono ?_
  rintro e W4 ⟨rfl, hb4⟩
  have HB4 : Hid (Below w1.heap.size w1 W4) := (HB3.out.trans (m3.1.mono HB3.out.size)).trans (hb4.mono (Nat.le_trans HB3.out.size m3.1.size))
  clear hb4 m3
  rw [show decide ((prI [(2, 3)]) = [((2 : Int), (3 : Int))]) = true from by decide]
  go_wp2_with (fail)
  refine (joints_any W4 lv 6 exL (HLI.out _ HB4.out) ex_fit (by decide) (by decide)).mono ?_
  rw [ex_joints]
  rintro e W5 ⟨⟨v4, rfl, ho4⟩, hb5⟩
  have HO4 := Lib.hid ho4
  have HB5 : Hid (Below w1.heap.size w1 W5) := HB4.out.trans (hb5.mono HB4.out.size)
  clear hb5 ho4
  go_wp2_with (fail)
  have m5 := new_block W5 (.cells #[.int .i64 2, .int .i64 3] 3)
  refine (ints_any _ _ _ (nI [2, 3]) [(2 : Int), 3] (HO4.out.cel.kept m5.1) (RowI.its (l := [(2 : Int), 3]) m5.2 (by decide))).mono ?_
  rintro e W6 ⟨rfl, hb6⟩
  have HB6 : Hid (Below w1.heap.size w1 W6) := (HB5.out.trans (m5.1.mono HB5.out.size)).trans (hb6.mono (Nat.le_trans HB5.out.size m5.1.size))
  clear hb6 m5
  rw [show decide ((nI [2, 3]) = [(2 : Int), 3]) = true from by decide]
  go_wp2_with (fail)
  refine (flow_any W6 lv 6 exL 0 1 (HLI.out _ HB6.out) ex_fit (by decide) (by decide)).mono ?_
  rw [ex_flow]
  rintro e W7 ⟨rfl, hb7⟩
  have HB7 : Hid (Below w1.heap.size w1 W7) := HB6.out.trans (hb7.mono HB6.out.size)
  clear hb7
  go_wp2_with (fail)
  refine (cut_any W7 lv 6 exL 0 5 (HLI.out _ HB7.out) ex_fit (by decide) (by decide)).mono ?_
  rw [ex_cut]
  rintro e W8 ⟨⟨v7, rfl, ho7⟩, hb8⟩
  have HO7 := Lib.hid ho7
  have HB8 : Hid (Below w1.heap.size w1 W8) := HB7.out.trans (hb8.mono HB7.out.size)
  clear hb8 ho7
  go_wp2_with (fail)
  have m8 := new_block W8 (.cells #[.int .i64 2, .int .i64 3] 38)
  refine (links_any _ _ _ (prI [(2, 3)]) [((2 : Int), (3 : Int))] (HO7.out.lks.kept m8.1) (Lks.lit (xs := [((2 : Int), (3 : Int))]) m8.2 (by decide))).mono ?_
  rintro e W9 ⟨rfl, hb9⟩
  have HB9 : Hid (Below w1.heap.size w1 W9) := (HB8.out.trans (m8.1.mono HB8.out.size)).trans (hb9.mono (Nat.le_trans HB8.out.size m8.1.size))
  clear hb9 m8
  rw [show decide ((prI [(2, 3)]) = [((2 : Int), (3 : Int))]) = true from by decide]
  go_wp2_with (fail)
  refine (tree_any W9 lv 6 exL 0 (HLI.out _ HB9.out) ex_fit (by decide) (by decide)).mono ?_
  rw [ex_tree]
  rintro e W10 ⟨⟨tb, rfl, ht, -⟩, hb10⟩
  have HT := Lib.hid (RowI.its (l := [(-1 : Int), 0, 0, 2, 3, 3]) ht (by decide))
  have HB10 : Hid (Below w1.heap.size w1 W10) := HB9.out.trans (hb10.mono HB9.out.size)
  clear hb10 ht
  go_wp2_with (fail)
  have m10 := new_block W10 (.cells #[.int .i64 (-1), .int .i64 0, .int .i64 0, .int .i64 2, .int .i64 3, .int .i64 3] 3)
  refine (ints_any _ _ _ [(-1 : Int), 0, 0, 2, 3, 3] [(-1 : Int), 0, 0, 2, 3, 3] (HT.out.kept m10.1) (RowI.its (l := [(-1 : Int), 0, 0, 2, 3, 3]) m10.2 (by decide))).mono ?_
  rintro e W11 ⟨rfl, hb11⟩
  have HB11 : Hid (Below w1.heap.size w1 W11) := (HB10.out.trans (m10.1.mono HB10.out.size)).trans (hb11.mono (Nat.le_trans HB10.out.size m10.1.size))
  clear hb11 m10
  rw [show decide ([(-1 : Int), 0, 0, 2, 3, 3] = [(-1 : Int), 0, 0, 2, 3, 3]) = true from by decide]
  go_wp2_with (fail)
  refine (ways_any W11 lv 6 exL 0 1 (HLI.out _ HB11.out) ex_fit (by decide) (by decide)).mono ?_
  rintro e W12 ⟨⟨v11, rfl, ho11⟩, hb12⟩
  have HB12 : Hid (Below w1.heap.size w1 W12) := HB11.out.trans (hb12.mono HB11.out.size)
  obtain ⟨ao, ac, hv⟩ := ho11.form
  rw [List.length_map, ex_ways] at hv
  subst hv
  clear hb12 ho11
  go_wp2_with (fail)
  refine (blocks_any W12 lv 6 exL (HLI.out _ HB12.out) ex_fit (by decide) (by decide)).mono ?_
  rintro e W13 ⟨⟨v12, rfl, ho12⟩, hb13⟩
  have HB13 : Hid (Below w1.heap.size w1 W13) := HB12.out.trans (hb13.mono HB12.out.size)
  obtain ⟨bo, bc, hv⟩ := ho12.form
  rw [List.length_map, ex_blocks] at hv
  subst hv
  clear hb13 ho12
  go_wp2_with (fail)
  go_ret
  exact ⟨rfl, HBW.out.trans (HB13.out.mono HBW.out.size)⟩

end Go.Proofs.Ytenilbofncfbdaa

namespace Go.Proofs.Ytenilbofncfbdaa
open Go.ChangeShapes Go.WideShapes Go.ChangeAt Go.RowKit

theorem own : ownKnob Try.prog.godebug = none := by kernel_rfl
theorem laidOut : laidOutB Try.prog = true := by kernel_rfl
theorem link_struct : ∃ f0 f1 : Field, Try.prog.underlying 38 = some (.struct #[f0, f1]) ∧ (f0.offset = 0 ∧ f1.offset = 1) ∧ f0.type = 3 ∧ f1.type = 3 :=
  ⟨_, _, Try.underlying38, ⟨rfl, rfl⟩, rfl, rfl⟩
set_option maxRecDepth 100000 in
theorem read_link {H : Type} {enc : TypeId × Value → H} {W : World} {n : Nat} {cs : List Value} {D : DataW H} {Pl : List MemPlace}
    (h : DataW.trod enc Try.prog W 0 (fun _ => true) true n 38 cs = some (D, Pl)) : ∃ x y : Int, cs = [.int .i64 x, .int .i64 y] := by
  obtain ⟨f0, f1, hs, ⟨o0, o1⟩, t0, t1⟩ := link_struct
  obtain ⟨xs, m, -, hx, hlen, hxl, hf⟩ := DataW.trod_struct hs h
  have hc2 : Try.prog.cellsOf 38 = 2 := by kernel_rfl
  have ci : Try.prog.cellsOf 3 = 1 := by kernel_rfl
  rw [hc2] at hlen
  match cs, hlen, xs, hxl with
  | [c0, c1], _, [y0, y1], _ =>
    have h0 := hf 0 f0 rfl
    have h1 := hf 1 f1 rfl
    rw [o0, t0, ci] at h0
    rw [o1, t1, ci] at h1
    obtain ⟨k, e0, z0, -⟩ := DataW.trod_int Try.underlying3 h0
    obtain ⟨num, e1, z1, -⟩ := DataW.trod_int Try.underlying3 h1
    simp at e0 e1
    subst e0 e1
    exact ⟨k, num, rfl⟩
theorem read_links {H : Type} {enc : TypeId × Value → H} {W : World} {d : DataW H} {p : List MemPlace} {a : Option Addr} {len cap : Nat}
    (h : DataW.Trod enc Try.prog W 0 (fun _ => true) true 22 (.slice a len cap) d p) :
    ∃ xs : Ipr, Lks W W.heap.size (.slice a len cap) xs := by
  obtain ⟨fuel, hf⟩ := h
  rcases Deep.open_slice Try.underlying22 hf with ⟨hcs, hx⟩ | ⟨x, l, c, m, n, D, Pl, hcs, _, hl, hm, hmm, hx, hi⟩
  · simp [Value.cells] at hcs
    obtain ⟨rfl, rfl, rfl⟩ := hcs
    exact ⟨[], Lks.nil _ _⟩
  · simp [Value.cells] at hcs
    obtain ⟨rfl, rfl, rfl⟩ := hcs
    simp only [if_true] at hmm
    obtain rfl : cap = m := hmm.symm
    have hc2 : Try.prog.cellsOf 38 = 2 := by kernel_rfl
    have each : ∀ i, i < cap → ∃ q : Int × Int, W.cell? (x.add (i * 2)) = some (.int .i64 q.1) ∧ W.cell? (x.add (i * 2 + 1)) = some (.int .i64 q.2) := by
      intro i hic
      obtain ⟨cs, hc, ht⟩ := hi i hic
      rw [hc2] at hc
      obtain ⟨p, q, rfl⟩ := read_link ht
      obtain ⟨_, hcl, hat⟩ := World.cells?_some hc
      have a0 := hat 0 (by omega)
      have a1 := hat 1 (by omega)
      rw [Deep.add_add] at a0 a1
      exact ⟨(p, q), a0, a1⟩
    obtain ⟨F, hF⟩ : ∃ F : Nat → Int × Int, ∀ i, i < cap → W.cell? (x.add (i * 2)) = some (.int .i64 (F i).1) ∧ W.cell? (x.add (i * 2 + 1)) = some (.int .i64 (F i).2) := by
      refine ⟨fun i => if hic : i < cap then (each i hic).choose else (0, 0), fun i hic => ?_⟩
      simp only [dif_pos hic]
      exact (each i hic).choose_spec
    have hlen : ((List.range len).map F).length = len := by simp
    refine ⟨(List.range len).map F, some x, cap, by rw [hlen], by rw [hlen]; exact hl, by rw [hlen]; omega, (fun h => by cases h), fun hne => ?_⟩
    have hpos : 0 < len := by
      rcases Nat.eq_zero_or_pos len with h0 | h0
      · subst h0; simp at hne
      · exact h0
    obtain ⟨b, off, spot⟩ := x
    have hc0 := (hF 0 (by omega)).1
    have hspot : spot = none := by simpa [Addr.add] using World.cell?_spot hc0
    subst hspot
    refine ⟨b, off, rfl, by have := World.block_lt_of_cell? W _ hc0; simpa [Addr.add] using this, fun i hi => ?_⟩
    rw [hlen] at hi
    obtain ⟨g0, g1⟩ := hF i (by omega)
    rw [Addr.add_lit] at g0 g1
    have e : ((List.range len).map F).getD i (0, 0) = F i := by simp [List.getD, hi]
    rw [e]
    exact ⟨g0, g1⟩

end Go.Proofs.Ytenilbofncfbdaa

