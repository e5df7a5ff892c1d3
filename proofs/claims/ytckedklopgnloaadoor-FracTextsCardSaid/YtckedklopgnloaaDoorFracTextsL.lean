/- FracTexts: the law, walked (by program: wip/tools/gen_ftexts.py). -/
import Derived.Test.YtckedklopgnloaaDoorFracParse2
import Derived.Test.YtckedklopgnloaaDoorFlow2
namespace Go.Proofs.YtckedklopgnloaaDoor
open Go.RowKit

set_option maxRecDepth 100000 in
set_option maxHeartbeats 4000000 in
theorem law_FracTexts (an ad : Int) (s : ByteArray) (w : World) (han0 : -9223372036854775808 ≤ an) (han1 : an < 9223372036854775808) (had0 : -9223372036854775808 ≤ ad) (had1 : ad < 9223372036854775808) (hs : s.size ≤ 281474976710656) (ht : TabT w) (he : ErrT w) :
    Calls Tryd.prog 11 #[frV an ad, .string s] w fun e w' => e = .returned (.bool true) ∧ Below w.heap.size w w' := by
  have c1 : ∀ W, Below w.heap.size w W → _ := fun W hB => parse_any s W hs (ht.below hB) (he.below hB)
  have c2 : ∀ W, Below w.heap.size w W → _ := fun W hB => rparse_any s W hs (ht.below hB)
  have v0 : ∀ W, _ := fun W => rvalid_any an ad W han0 han1 had0 had1
  by_cases q0 : Val an ad
  · have e0 := (valB_iff an ad).2 q0
    rw [e0] at v0
    clear e0
    obtain ⟨g0, kA⟩ := enter1 w an ad
    have L := Lib.hid g0
    replace kA := Lib.hid kA
    clear g0
    have A0 := frO_0 kA.out
    have A1 := frO_1 kA.out
    go_enter Tryd.func11, Tryd.ntmps11
    go_wp2_with (fail)
    refine (c1 _ L.out).mono ?_
    rintro e w1 ⟨gn, gd, gk, rfl, hP1, hB⟩
    replace L := Lib.hid (L.out.trans (hB.mono L.out.size))
    replace kA := Lib.hid (stays kA.out hB)
    clear hB A0 A1
    simp only [mkV]
    obtain ⟨gN, kF⟩ := box_new w1 (gn) (gd)
    replace kA := Lib.hid (stays kA.out gN)
    replace kF := Lib.hid kF
    have A0 := frO_0 kA.out
    have A1 := frO_1 kA.out
    have F0 := frO_0 kF.out
    have F1 := frO_1 kF.out
    go_wp2_with (fail)
    refine (c2 _ (L.out.trans (gN.mono L.out.size))).mono ?_
    rintro e w2 ⟨n2, d2, ok2, rfl, hP2, hB⟩
    obtain ⟨rfl, rfl, rfl⟩ := hP1.only hP2
    clear hP1 hP2
    replace L := Lib.hid (L.out.trans ((gN.trans (hB.mono gN.size)).mono L.out.size))
    replace kA := Lib.hid (stays kA.out hB)
    replace kF := Lib.hid (stays kF.out hB)
    generalize w1.heap.size = xF at *
    clear gN
    clear hB A0 A1 F0 F1
    simp only [mkV]
    obtain ⟨gN, kG⟩ := box_new w2 (gn) (gd)
    replace kA := Lib.hid (stays kA.out gN)
    replace kF := Lib.hid (stays kF.out gN)
    replace kG := Lib.hid kG
    have A0 := frO_0 kA.out
    have A1 := frO_1 kA.out
    have F0 := frO_0 kF.out
    have F1 := frO_1 kF.out
    have G0 := frO_0 kG.out
    have G1 := frO_1 kG.out
    go_wp2_with (fail)
    refine (v0 _).mono ?_
    rintro e w3 ⟨rfl, hB⟩
    replace L := Lib.hid (L.out.trans ((gN.trans (hB.mono gN.size)).mono L.out.size))
    replace kA := Lib.hid (stays kA.out hB)
    replace kF := Lib.hid (stays kF.out hB)
    replace kG := Lib.hid (stays kG.out hB)
    generalize w2.heap.size = xG at *
    clear gN
    clear hB A0 A1 F0 F1 G0 G1
    have A0 := frO_0 kA.out
    have A1 := frO_1 kA.out
    have F0 := frO_0 kF.out
    have F1 := frO_1 kF.out
    have G0 := frO_0 kG.out
    have G1 := frO_1 kG.out
    clear kF F0 F1
    clear kG G0 G1
    obtain ⟨v1, v2, v3, v4, v5⟩ := q0
    have hq : Hid (Val an ad) := ⟨v1, v2, v3, v4, v5⟩
    clear v5
    go_wp2_with (fail)
    refine (text_any an ad (by omega) (by omega) (by omega) (by omega) _ (ht.below L.out)).mono ?_
    rintro e w4 ⟨rfl, hB⟩
    replace L := Lib.hid (L.out.trans (hB.mono L.out.size))
    replace kA := Lib.hid (stays kA.out hB)
    clear hB A0 A1
    have A0 := frO_0 kA.out
    have A1 := frO_1 kA.out
    have hts : (⟨(fracText an ad).toArray⟩ : ByteArray).size ≤ 281474976710656 := by
      have L1 := Lib.itoa_length_le an (by omega) (by omega)
      have L2 := Lib.itoa_length_le ad (by omega) (by omega)
      show (fracText an ad).toArray.size ≤ _
      unfold fracText
      split <;> simp <;> omega
    go_wp2_with (fail)
    refine (parse_any _ _ hts (ht.below L.out) (he.below L.out)).mono ?_
    rintro e w5 ⟨n3, d3, ok3, rfl, hP3, hB⟩
    obtain ⟨e1, e2, rfl⟩ := ParseR.back (n := an) (d := ad) hP3 hq.out
    obtain rfl := e1.symm
    obtain rfl := e2.symm
    clear hP3 e1 e2
    replace L := Lib.hid (L.out.trans (hB.mono L.out.size))
    replace kA := Lib.hid (stays kA.out hB)
    clear hB A0 A1
    simp only [mkV]
    obtain ⟨gN, kH⟩ := box_new w5 (an) (ad)
    replace kA := Lib.hid (stays kA.out gN)
    replace kH := Lib.hid kH
    have A0 := frO_0 kA.out
    have A1 := frO_1 kA.out
    have H0 := frO_0 kH.out
    have H1 := frO_1 kH.out
    go_wp2_with (fail)
    replace L := Lib.hid (L.out.trans (gN.mono L.out.size))
    generalize w5.heap.size = xH at *
    clear gN A0 A1 H0 H1
    refine wp_flow2 (by kernel_rfl) (by kernel_rfl) (fun i => if i = 16 then 4 else 39 + i) (by kernel_rfl) (by kernel_rfl) (by kernel_rfl) (fun i v W => ([(fun zv _ => zv = (frV an ad)), (fun zv _ => zv = (.string ⟨(fracText an ad).toArray⟩)), (fun zv _ => zv = (frV an ad)), (fun zv _ => zv = (.string ⟨(fracText an ad).toArray⟩)), (fun zv _ => zv = (.bool true)), (fun zv _ => zv = (.bool true)), (fun zv _ => zv = (.bool true)), (fun zv _ => zv = (.bool true)), (fun zv _ => zv = (.bool true)), (fun zv _ => zv = (frV an ad)), (fun zv _ => zv = (frV an ad)), (fun zv _ => zv = (.bool true)), (fun zv _ => zv = (.bool true)), (fun zv _ => zv = (.bool true)), (fun zv _ => zv = (.bool true)), (fun zv _ => zv = (.bool true)), (fun zv _ => zv = (.bool true))] : List (Value → World → Prop)).getD i (fun _ _ => True) v W) ?_ ?_ (by kernel_rfl) ?_
    · intro i hi
      replace hi : i < 17 := hi
      rcases (show i = 0 ∨ i = 1 ∨ i = 2 ∨ i = 3 ∨ i = 4 ∨ i = 5 ∨ i = 6 ∨ i = 7 ∨ i = 8 ∨ i = 9 ∨ i = 10 ∨ i = 11 ∨ i = 12 ∨ i = 13 ∨ i = 14 ∨ i = 15 ∨ i = 16 by omega) with rfl | rfl | rfl | rfl | rfl | rfl | rfl | rfl | rfl | rfl | rfl | rfl | rfl | rfl | rfl | rfl | rfl
      · exact Stays.eq _
      · exact Stays.eq _
      · exact Stays.eq _
      · exact Stays.eq _
      · exact Stays.eq _
      · exact Stays.eq _
      · exact Stays.eq _
      · exact Stays.eq _
      · exact Stays.eq _
      · exact Stays.eq _
      · exact Stays.eq _
      · exact Stays.eq _
      · exact Stays.eq _
      · exact Stays.eq _
      · exact Stays.eq _
      · exact Stays.eq _
      · exact Stays.eq _
    · intro i o a W hi ho hB hf hd
      replace hi : i < 17 := hi
      rcases (show i = 0 ∨ i = 1 ∨ i = 2 ∨ i = 3 ∨ i = 4 ∨ i = 5 ∨ i = 6 ∨ i = 7 ∨ i = 8 ∨ i = 9 ∨ i = 10 ∨ i = 11 ∨ i = 12 ∨ i = 13 ∨ i = 14 ∨ i = 15 ∨ i = 16 by omega) with rfl | rfl | rfl | rfl | rfl | rfl | rfl | rfl | rfl | rfl | rfl | rfl | rfl | rfl | rfl | rfl | rfl
      · replace ho := op_at ho (by rfl)
        subst ho
        have f2 : a.tmps.getD 2 undef = (.pointer (some ⟨w.heap.size, 0, none⟩)) := hf 2 (by kernel_rfl)
        have kA := stays kA.out hB
        have b0 := frO_0 kA
        have b1 := frO_1 kA
        refine .inl ⟨(fun j b h => by cases h), FlowOp.pure _ (by simp [go_sem, Act.eval, f2, b0, b1]) rfl⟩
      · replace ho := op_at ho (by rfl)
        subst ho
        have d0 : a.tmps.getD 39 undef = (frV an ad) := hd 0 (by kernel_rfl)
        refine .inl ⟨(fun j b h => by cases h), FlowOp.call 41 #[(frV an ad)] (by simp [go_sem, Act.eval, d0]) ?_⟩
        refine (text_any an ad (by omega) (by omega) (by omega) (by omega) W (ht.below (L.out.trans (hB.mono L.out.size)))).mono ?_
        rintro e W' ⟨rfl, hBe⟩
        exact ⟨_, rfl, hBe, rfl⟩
      · replace ho := op_at ho (by rfl)
        subst ho
        have f2 : a.tmps.getD 2 undef = (.pointer (some ⟨w.heap.size, 0, none⟩)) := hf 2 (by kernel_rfl)
        have kA := stays kA.out hB
        have b0 := frO_0 kA
        have b1 := frO_1 kA
        refine .inl ⟨(fun j b h => by cases h), FlowOp.pure _ (by simp [go_sem, Act.eval, f2, b0, b1]) rfl⟩
      · replace ho := op_at ho (by rfl)
        subst ho
        have d2 : a.tmps.getD 41 undef = (frV an ad) := hd 2 (by kernel_rfl)
        refine .inl ⟨(fun j b h => by cases h), FlowOp.call 42 #[(frV an ad)] (by simp [go_sem, Act.eval, d2]) ?_⟩
        refine (rtext_any an ad (by omega) (by omega) (by omega) (by omega) W (ht.below (L.out.trans (hB.mono L.out.size)))).mono ?_
        rintro e W' ⟨rfl, hBe⟩
        exact ⟨_, rfl, hBe, rfl⟩
      · replace ho := op_at ho (by rfl)
        subst ho
        have d1 : a.tmps.getD 40 undef = (.string ⟨(fracText an ad).toArray⟩) := hd 1 (by kernel_rfl)
        have d3 : a.tmps.getD 42 undef = (.string ⟨(fracText an ad).toArray⟩) := hd 3 (by kernel_rfl)
        refine .inl ⟨(fun j b h => by cases h), FlowOp.pure _ (by simp [go_sem, Act.eval, d1, d3]) rfl⟩
      · replace ho := op_at ho (by rfl)
        subst ho
        have d4 : a.tmps.getD 43 undef = (.bool true) := hd 4 (by kernel_rfl)
        refine .inl ⟨(fun j b h => by cases h), FlowOp.pure _ (by simp [go_sem, Act.eval, d4]) rfl⟩
      · replace ho := op_at ho (by rfl)
        subst ho
        have f10 : a.tmps.getD 10 undef = (.bool true) := hf 10 (by kernel_rfl)
        have d5 : a.tmps.getD 44 undef = (.bool true) := hd 5 (by kernel_rfl)
        refine .inl ⟨(fun j b h => by cases h; exact d5), FlowOp.pure _ (by simp [go_sem, Act.eval, f10]) rfl⟩
      · replace ho := op_at ho (by rfl)
        subst ho
        have d5 : a.tmps.getD 44 undef = (.bool true) := hd 5 (by kernel_rfl)
        have d6 : a.tmps.getD 45 undef = (.bool true) := hd 6 (by kernel_rfl)
        refine .inl ⟨(fun j b h => by cases h), FlowOp.pure _ (by simp [go_sem, Act.eval, d5, d6]) rfl⟩
      · replace ho := op_at ho (by rfl)
        subst ho
        have d7 : a.tmps.getD 46 undef = (.bool true) := hd 7 (by kernel_rfl)
        refine .inl ⟨(fun j b h => by cases h), FlowOp.pure _ (by simp [go_sem, Act.eval, d7]) rfl⟩
      · replace ho := op_at ho (by rfl)
        subst ho
        have f9 : a.tmps.getD 9 undef = (.pointer (some ⟨xH, 0, none⟩)) := hf 9 (by kernel_rfl)
        have d8 : a.tmps.getD 47 undef = (.bool true) := hd 8 (by kernel_rfl)
        have kH := stays kH.out hB
        have b0 := frO_0 kH
        have b1 := frO_1 kH
        refine .inl ⟨(fun j b h => by cases h; exact d8), FlowOp.pure _ (by simp [go_sem, Act.eval, f9, b0, b1]) rfl⟩
      · replace ho := op_at ho (by rfl)
        subst ho
        have f2 : a.tmps.getD 2 undef = (.pointer (some ⟨w.heap.size, 0, none⟩)) := hf 2 (by kernel_rfl)
        have d8 : a.tmps.getD 47 undef = (.bool true) := hd 8 (by kernel_rfl)
        have kA := stays kA.out hB
        have b0 := frO_0 kA
        have b1 := frO_1 kA
        refine .inl ⟨(fun j b h => by cases h; exact d8), FlowOp.pure _ (by simp [go_sem, Act.eval, f2, b0, b1]) rfl⟩
      · replace ho := op_at ho (by rfl)
        subst ho
        have d9 : a.tmps.getD 48 undef = (frV an ad) := hd 9 (by kernel_rfl)
        have d10 : a.tmps.getD 49 undef = (frV an ad) := hd 10 (by kernel_rfl)
        have d8 : a.tmps.getD 47 undef = (.bool true) := hd 8 (by kernel_rfl)
        refine .inl ⟨(fun j b h => by cases h; exact d8), FlowOp.pure _ (by simp [go_sem, Act.eval, d9, d10]) rfl⟩
      · replace ho := op_at ho (by rfl)
        subst ho
        have d8 : a.tmps.getD 47 undef = (.bool true) := hd 8 (by kernel_rfl)
        have d11 : a.tmps.getD 50 undef = (.bool true) := hd 11 (by kernel_rfl)
        refine .inl ⟨(fun j b h => by cases h), FlowOp.pure _ (by simp [go_sem, Act.eval, d8, d11]) rfl⟩
      · replace ho := op_at ho (by rfl)
        subst ho
        have d12 : a.tmps.getD 51 undef = (.bool true) := hd 12 (by kernel_rfl)
        refine .inl ⟨(fun j b h => by cases h), FlowOp.pure _ (by simp [go_sem, Act.eval, d12]) rfl⟩
      · replace ho := op_at ho (by rfl)
        subst ho
        have d13 : a.tmps.getD 52 undef = (.bool true) := hd 13 (by kernel_rfl)
        refine .inl ⟨(fun j b h => by cases h; exact d13), FlowOp.call 16 #[] (by simp [go_sem, Act.eval]) ?_⟩
        refine (awake_any W (ht.below (L.out.trans (hB.mono L.out.size)))).mono ?_
        rintro e W' ⟨rfl, hBe⟩
        exact ⟨_, rfl, hBe, rfl⟩
      · replace ho := op_at ho (by rfl)
        subst ho
        have d13 : a.tmps.getD 52 undef = (.bool true) := hd 13 (by kernel_rfl)
        have d14 : a.tmps.getD 53 undef = (.bool true) := hd 14 (by kernel_rfl)
        refine .inl ⟨(fun j b h => by cases h), FlowOp.pure _ (by simp [go_sem, Act.eval, d13, d14]) rfl⟩
      · replace ho := op_at ho (by rfl)
        subst ho
        have d15 : a.tmps.getD 54 undef = (.bool true) := hd 15 (by kernel_rfl)
        refine .inl ⟨(fun j b h => by cases h), FlowOp.pure _ (by simp [go_sem, Act.eval, d15]) rfl⟩
    · intro vs4 W4 hB4 hv
      have h0 : vs4 0 = (frV an ad) := hv 0 (show 0 < 17 by decide)
      have h1 : vs4 1 = (.string ⟨(fracText an ad).toArray⟩) := hv 1 (show 1 < 17 by decide)
      have h2 : vs4 2 = (frV an ad) := hv 2 (show 2 < 17 by decide)
      have h3 : vs4 3 = (.string ⟨(fracText an ad).toArray⟩) := hv 3 (show 3 < 17 by decide)
      have h4 : vs4 4 = (.bool true) := hv 4 (show 4 < 17 by decide)
      have h5 : vs4 5 = (.bool true) := hv 5 (show 5 < 17 by decide)
      have h6 : vs4 6 = (.bool true) := hv 6 (show 6 < 17 by decide)
      have h7 : vs4 7 = (.bool true) := hv 7 (show 7 < 17 by decide)
      have h8 : vs4 8 = (.bool true) := hv 8 (show 8 < 17 by decide)
      have h9 : vs4 9 = (frV an ad) := hv 9 (show 9 < 17 by decide)
      have h10 : vs4 10 = (frV an ad) := hv 10 (show 10 < 17 by decide)
      have h11 : vs4 11 = (.bool true) := hv 11 (show 11 < 17 by decide)
      have h12 : vs4 12 = (.bool true) := hv 12 (show 12 < 17 by decide)
      have h13 : vs4 13 = (.bool true) := hv 13 (show 13 < 17 by decide)
      have h14 : vs4 14 = (.bool true) := hv 14 (show 14 < 17 by decide)
      have h15 : vs4 15 = (.bool true) := hv 15 (show 15 < 17 by decide)
      have h16 : vs4 16 = (.bool true) := hv 16 (show 16 < 17 by decide)
      clear hv
      show (_ : Exit → Act → World → Prop) Exit.normal (puts _ vs4 17 _) W4
      simp only [puts, h0, h1, h2, h3, h4, h5, h6, h7, h8, h9, h10, h11, h12, h13, h14, h15, h16]
      clear h0 h1 h2 h3 h4 h5 h6 h7 h8 h9 h10 h11 h12 h13 h14 h15 h16
      go_simp
      go_wp2
      go_ret
      exact ⟨rfl, L.out.trans (hB4.mono L.out.size)⟩
  · have e0 : valB an ad = false := by rw [valB, decide_eq_false_iff_not]; exact q0
    rw [e0] at v0
    clear e0
    obtain ⟨g0, kA⟩ := enter1 w an ad
    have L := Lib.hid g0
    replace kA := Lib.hid kA
    clear g0
    have A0 := frO_0 kA.out
    have A1 := frO_1 kA.out
    go_enter Tryd.func11, Tryd.ntmps11
    go_wp2_with (fail)
    refine (c1 _ L.out).mono ?_
    rintro e w1 ⟨gn, gd, gk, rfl, hP1, hB⟩
    replace L := Lib.hid (L.out.trans (hB.mono L.out.size))
    replace kA := Lib.hid (stays kA.out hB)
    clear hB A0 A1
    simp only [mkV]
    obtain ⟨gN, kF⟩ := box_new w1 (gn) (gd)
    replace kA := Lib.hid (stays kA.out gN)
    replace kF := Lib.hid kF
    have A0 := frO_0 kA.out
    have A1 := frO_1 kA.out
    have F0 := frO_0 kF.out
    have F1 := frO_1 kF.out
    go_wp2_with (fail)
    refine (c2 _ (L.out.trans (gN.mono L.out.size))).mono ?_
    rintro e w2 ⟨n2, d2, ok2, rfl, hP2, hB⟩
    obtain ⟨rfl, rfl, rfl⟩ := hP1.only hP2
    clear hP1 hP2
    replace L := Lib.hid (L.out.trans ((gN.trans (hB.mono gN.size)).mono L.out.size))
    replace kA := Lib.hid (stays kA.out hB)
    replace kF := Lib.hid (stays kF.out hB)
    generalize w1.heap.size = xF at *
    clear gN
    clear hB A0 A1 F0 F1
    simp only [mkV]
    obtain ⟨gN, kG⟩ := box_new w2 (gn) (gd)
    replace kA := Lib.hid (stays kA.out gN)
    replace kF := Lib.hid (stays kF.out gN)
    replace kG := Lib.hid kG
    have A0 := frO_0 kA.out
    have A1 := frO_1 kA.out
    have F0 := frO_0 kF.out
    have F1 := frO_1 kF.out
    have G0 := frO_0 kG.out
    have G1 := frO_1 kG.out
    go_wp2_with (fail)
    refine (v0 _).mono ?_
    rintro e w3 ⟨rfl, hB⟩
    replace L := Lib.hid (L.out.trans ((gN.trans (hB.mono gN.size)).mono L.out.size))
    replace kA := Lib.hid (stays kA.out hB)
    replace kF := Lib.hid (stays kF.out hB)
    replace kG := Lib.hid (stays kG.out hB)
    generalize w2.heap.size = xG at *
    clear gN
    clear hB A0 A1 F0 F1 G0 G1
    have A0 := frO_0 kA.out
    have A1 := frO_1 kA.out
    have F0 := frO_0 kF.out
    have F1 := frO_1 kF.out
    have G0 := frO_0 kG.out
    have G1 := frO_1 kG.out
    go_wp2_with (fail)
    refine (awake_any _ (ht.below L.out)).mono ?_
    rintro e w4 ⟨rfl, hB⟩
    replace L := Lib.hid (L.out.trans (hB.mono L.out.size))
    replace kA := Lib.hid (stays kA.out hB)
    replace kF := Lib.hid (stays kF.out hB)
    replace kG := Lib.hid (stays kG.out hB)
    clear hB A0 A1 F0 F1 G0 G1
    have A0 := frO_0 kA.out
    have A1 := frO_1 kA.out
    have F0 := frO_0 kF.out
    have F1 := frO_1 kF.out
    have G0 := frO_0 kG.out
    have G1 := frO_1 kG.out
    go_wp2
    go_ret
    exact ⟨rfl, L.out⟩

end Go.Proofs.YtckedklopgnloaaDoor
