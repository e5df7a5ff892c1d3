/- Wire: awake (by program: wip/tools/gen_wire18.py). -/
import Derived.Test.YtgnpjenpehfjbaaDoorWire17
namespace Go.Proofs.YtgnpjenpehfjbaaDoor
open Go.RowKit

theorem E1_16 : E1.getD 16 0 = 207 := by decide +kernel
theorem E2_is : E2 = E1.set 16 206 := by decide +kernel
theorem xor_16 : bits .xor .u8 207 1 = 206 := by decide +kernel
theorem own_form {W : World} {B : Nat} {v : Value} {l : List UInt8} (h : Own W B v l) (hl : 0 < l.length) : ∃ g cap, v = .slice (some ⟨g, 0, none⟩) l.length cap ∧ B ≤ g ∧ g < W.heap.size ∧ l.length ≤ cap ∧ (∀ j, j < l.length → W.cell? ⟨g, j, none⟩ = some (.int .u8 ((l.getD j 0).toNat : Int))) ∧ W.frozen? ⟨g, 16, none⟩ = false := by
  rcases h.2 with ⟨_, h0⟩ | ⟨g, cap, cur, hv, hb, hg, hc, hm, hs, htk⟩
  · omega
  · subst hv
    refine ⟨g, cap, rfl, hb, (Array.getElem?_eq_some_iff.1 hg).1, hc, fun j hj => ?_, frozen_of_row _ _ _ _ _ hg⟩
    have h1 := World.ownsRow.cellAt h j (by omega)
    rw [h1, List.getElem?_map, List.getElem?_eq_getElem hj, List.getD_eq_getElem?_getD, List.getElem?_eq_getElem hj]
    rfl
theorem own_store {W : World} {B g n cap : Nat} {l : List UInt8} (h : Own W B (.slice (some ⟨g, 0, none⟩) n cap) l) (hn : n = l.length) (j : Nat) (x : UInt8) : Own (W.setCell ⟨g, j, none⟩ (.int .u8 (x.toNat : Int))) B (.slice (some ⟨g, 0, none⟩) n cap) (l.set j x) := by
  subst hn
  have := (World.ownsRow.stored h j (.int .u8 (x.toNat : Int))).1
  unfold Own
  rw [List.length_set, List.map_set]
  exact this

theorem decide_err_ (vt : Value) (W : World) (hb : Bts W W.heap.size vt (E1.take 16)) (ht : TabOK W) : Calls Tryd.prog 22 #[vt] W fun x w' => x = .returned (.tuple #[.agg #[.int .i64 0, .int .i64 0, .int .i64 0, .int .i64 0, .int .i64 0, .int .i64 0, .int .i64 0, .slice none 0 0], .int .i64 21]) ∧ Below W.heap.size W w' :=
  decode_err vt _ W hb ht 21 open_E1 (by decide)
theorem decide_err2_ (vt : Value) (W : World) (hb : Bts W W.heap.size vt E2) (ht : TabOK W) : Calls Tryd.prog 22 #[vt] W fun x w' => x = .returned (.tuple #[.agg #[.int .i64 0, .int .i64 0, .int .i64 0, .int .i64 0, .int .i64 0, .int .i64 0, .int .i64 0, .slice none 0 0], .int .i64 22]) ∧ Below W.heap.size W w' :=
  decode_err vt _ W hb ht 22 open_E2 (by decide)

set_option maxRecDepth 100000 in
set_option maxHeartbeats 4000000 in
theorem awake_any (w : World) (ht : TabOK w) : Calls Tryd.prog 16 #[] w fun e w' => e = .returned (.bool true) ∧ Below w.heap.size w w' := by
  have h1 := encode_none 1 3 5 300 0 0 0 w ht
  rw [enc_hello] at h1
  have H1 := Lib.hid h1
  have HT := Lib.hid ht
  clear h1 ht
  go_enter Tryd.func16, Tryd.ntmps16
  go_wp2_with (fail)
  with_reducible refine H1.out.mono ?_
  rintro e w1 ⟨u, rfl, ho, hB⟩
  clear H1
  have L1 := Lib.hid hB
  obtain ⟨g, cap, hu, hg0, hg1, hcap, hc, hz⟩ := own_form ho (by rw [E1_len]; decide)
  rw [E1_len] at hu hcap
  subst hu
  have HO := Lib.hid ho
  have h2 := ref_Number (.slice none 0 0) [] 300 w1 (by decide) (Bts.nil _ _) (by simp)
  rw [List.nil_append, num_300] at h2
  replace h2 : Calls Tryd.prog 38 #[.slice none 0 0, .int .u64 300] w1 _ := h2
  have H2 := Lib.hid h2
  clear h2 hB ho hc hz hg1
  go_wp2_with (fail)
  with_reducible refine H2.out.mono ?_
  rintro e w2 ⟨u2, rfl, ho2, hB⟩
  clear H2
  have L2 := Lib.hid (L1.out.trans (hB.mono L1.out.size))
  have HO2 := Lib.hid (HO.out.below hB)
  obtain ⟨g', cap', hu', hg0', hg1', hcap', hc', hz'⟩ := own_form HO2.out (by rw [E1_len]; decide)
  rw [E1_len] at hu' hcap' hc'
  injection hu' with hu1 _ hu3
  injection hu1 with hu1
  injection hu1 with hu1
  subst hu1 hu3
  obtain ⟨gh, caph, huh, -, -, hcaph, hch, -⟩ := own_form ho2 (by decide)
  subst huh
  have k0 : w2.cell? ⟨g, 0, none⟩ = some (.int .u8 237) := by rw [hc' 0 (by decide), E1_0]; rfl
  have k7 : w2.cell? ⟨g, 7, none⟩ = some (.int .u8 172) := by rw [hc' 7 (by decide), E1_7]; rfl
  have kh : w2.cell? ⟨gh, 0, none⟩ = some (.int .u8 172) := hch 0 (by decide)
  have HC := Lib.hid hc'
  have HCAP := Lib.hid hcap'
  have HZ := Lib.hid hz'
  have HG1 := Lib.hid hg1'
  have HG0 : Hid (w.heap.size ≤ g) := hg0
  clear hc' hch hcap' hcaph hz' hg0 hg0' hg1' ho2 hB HO hcap
  go_wp2_with (fail)
  go_quiet (fail)
  have hB := bdN w2.heap.size w2 nq
  have L3 := Lib.hid (L2.out.trans (hB.mono L2.out.size))
  have HO3 := Lib.hid (HO2.out.below hB)
  clear k0 k7 kh hB HO2 HC HZ HG1
  generalize w2.drewN nq = W3 at *
  obtain ⟨vt, hbt, hsl⟩ := HO3.out.bts.toB 16 (by rw [E1_len]; decide)
  replace hsl : ∀ W (kh : IntKind), (Instr.slice 27 (.slice (some ⟨g, 0, none⟩) 17 cap) none (some (.int kh 16)) none).run Tryd.prog W = .ok vt W := hsl
  have hsl2 := fun W => hsl W .i64
  have h3 := decide_err_ vt W3 hbt (HT.out.below L3.out (by have := HT.out.lt; omega))
  have H3 := Lib.hid h3
  obtain ⟨at_, capt, hvt, -⟩ := hbt
  rw [List.length_take, E1_len] at hvt
  replace hvt : vt = .slice at_ 16 capt := hvt
  subst hvt
  clear h3 hsl
  go_wp2_with (fail)
  clear hsl2
  with_reducible refine H3.out.mono ?_
  rintro e w4 ⟨rfl, hB⟩
  have L4 := Lib.hid (L3.out.trans (hB.mono L3.out.size))
  have HO4 := Lib.hid (HO3.out.below hB)
  clear H3 hB HO3
  obtain ⟨g2, k2⟩ := new_block w4 (.cells #[.int .i64 0, .int .i64 0, .int .i64 0, .int .i64 0, .int .i64 0, .int .i64 0, .int .i64 0, .slice none 0 0] 24)
  have L5 := Lib.hid (L4.out.trans (g2.mono L4.out.size))
  have HO5 := Lib.hid (HO4.out.below g2)
  obtain ⟨g', cap', hu', -, hg1', -, hc', hz'⟩ := own_form HO5.out (by rw [E1_len]; decide)
  rw [E1_len] at hu' hc'
  injection hu' with hu1 _ hu3
  injection hu1 with hu1
  injection hu1 with hu1
  subst hu1 hu3
  have k16 : (w4.alloc (.cells #[.int .i64 0, .int .i64 0, .int .i64 0, .int .i64 0, .int .i64 0, .int .i64 0, .int .i64 0, .slice none 0 0] 24)).cell? ⟨g, 16, none⟩ = some (.int .u8 207) := by rw [hc' 16 (by decide), E1_16]; rfl
  have z16 := hz'
  have hst := own_store HO4.out (by rw [E1_len]) 16 206
  rw [← E2_is] at hst
  replace hst : Own (w4.setCell ⟨g, 16, none⟩ (.int .u8 206)) w.heap.size (.slice (some ⟨g, 0, none⟩) 17 cap) E2 := hst
  have hxor := xor_16
  obtain ⟨g3, k3⟩ := new_block (w4.setCell ⟨g, 16, none⟩ (.int .u8 206)) (.cells #[.int .i64 0, .int .i64 0, .int .i64 0, .int .i64 0, .int .i64 0, .int .i64 0, .int .i64 0, .slice none 0 0] 24)
  have LS0 : Below w.heap.size w (w4.setCell ⟨g, 16, none⟩ (.int .u8 206)) := bel_set HG0.out L4.out
  have LS := Lib.hid (LS0.trans (g3.mono LS0.size))
  have HO6 := Lib.hid (hst.below g3)
  have hgw : g < w4.heap.size := (World.ownsRow.lt HO4.out g rfl).2
  have hcap16 := HCAP.out
  have H4 := Lib.hid (decide_err2_ (.slice (some ⟨g, 0, none⟩) 17 cap) _ (HO6.out.bts) (HT.out.below LS.out (by have := HT.out.lt; omega)))
  clear g2 k2 hc' hst hz' hg1' g3 k3 LS0 L5 HO5
  go_wp2_with (fail)
  with_reducible refine H4.out.mono ?_
  rintro e w5 ⟨rfl, hB⟩
  have L6 := Lib.hid (LS.out.trans (hB.mono LS.out.size))
  clear k16 z16 hxor H4 hB HO6
  obtain ⟨g4, -⟩ := new_block w5 (.cells #[.int .i64 0, .int .i64 0, .int .i64 0, .int .i64 0, .int .i64 0, .int .i64 0, .int .i64 0, .slice none 0 0] 24)
  have L7 := Lib.hid (L6.out.trans (g4.mono L6.out.size))
  have h5 := encode_none 1 3 3 300 0 0 0 (w5.alloc (.cells #[.int .i64 0, .int .i64 0, .int .i64 0, .int .i64 0, .int .i64 0, .int .i64 0, .int .i64 0, .slice none 0 0] 24)) (HT.out.below L7.out (by have := HT.out.lt; omega))
  rw [enc_self] at h5
  have H5 := Lib.hid h5
  clear h5 g4
  go_wp2_with (fail)
  with_reducible refine H5.out.mono ?_
  rintro e w6 ⟨u3, rfl, ho3, hB⟩
  have L8 := Lib.hid (L7.out.trans (hB.mono L7.out.size))
  obtain ⟨a3, cap3, hu3, -⟩ := ho3.bts
  rw [List.length_nil] at hu3
  subst hu3
  clear ho3 hB H5
  go_wp2
  go_ret
  exact ⟨rfl, L8.out⟩

end Go.Proofs.YtgnpjenpehfjbaaDoor
