/- FracReckons: the law, walked (by program: wip/tools/gen_fraclaws.py). -/
import Derived.Test.YtckedklopgnloaaDoorFracLaw
import Derived.Test.YtckedklopgnloaaDoorFracMath2
import Derived.Test.YtckedklopgnloaaDoorFlow2
namespace Go.Proofs.YtckedklopgnloaaDoor
open Go.RowKit

set_option maxRecDepth 100000 in
set_option maxHeartbeats 2000000 in

theorem law_FracReckons (an ad bn bd : Int) (w : World) (han0 : -9223372036854775808 ≤ an) (han1 : an < 9223372036854775808) (had0 : -9223372036854775808 ≤ ad) (had1 : ad < 9223372036854775808) (hbn0 : -9223372036854775808 ≤ bn) (hbn1 : bn < 9223372036854775808) (hbd0 : -9223372036854775808 ≤ bd) (hbd1 : bd < 9223372036854775808) (ht : TabT w) :
    Calls Tryd.prog 8 #[frV an ad, frV bn bd] w fun e w' => e = .returned (.bool true) ∧ Below w.heap.size w w' := by
  have v0 : ∀ W, _ := fun W => rvalid_any an ad W han0 han1 had0 had1
  have v1 : ∀ W, _ := fun W => rvalid_any bn bd W hbn0 hbn1 hbd0 hbd1
  by_cases q0 : Val an ad
  · have e0 := (valB_iff an ad).2 q0
    rw [e0] at v0
    clear e0
    by_cases q1 : Val bn bd
    · have e1 := (valB_iff bn bd).2 q1
      rw [e1] at v1
      clear e1
      obtain ⟨g0, kA, kB⟩ := enter2 w an ad bn bd
      have L := Lib.hid g0
      replace kA := Lib.hid kA
      replace kB := Lib.hid kB
      clear g0
      have A0 := frO_0 kA.out
      have A1 := frO_1 kA.out
      have B0 := frO_0 kB.out
      have B1 := frO_1 kB.out
      go_enter Tryd.func8, Tryd.ntmps8
      go_wp2_with (fail)
      refine (v0 _).mono ?_
      rintro e w1 ⟨rfl, hB⟩
      replace L := Lib.hid (L.out.trans (hB.mono L.out.size))
      replace kA := Lib.hid (stays kA.out hB)
      replace kB := Lib.hid (stays kB.out hB)
      clear hB A0 A1 B0 B1
      have A0 := frO_0 kA.out
      have A1 := frO_1 kA.out
      have B0 := frO_0 kB.out
      have B1 := frO_1 kB.out
      go_wp2_with (fail)
      refine (v1 _).mono ?_
      rintro e w2 ⟨rfl, hB⟩
      replace L := Lib.hid (L.out.trans (hB.mono L.out.size))
      replace kA := Lib.hid (stays kA.out hB)
      replace kB := Lib.hid (stays kB.out hB)
      clear hB A0 A1 B0 B1
      have A0 := frO_0 kA.out
      have A1 := frO_1 kA.out
      have B0 := frO_0 kB.out
      have B1 := frO_1 kB.out
      obtain ⟨⟨⟨sn, sd⟩, sc⟩, hs⟩ : ∃ r, mkF (an * bd + bn * ad) (ad * bd) = r := ⟨_, rfl⟩
      have cs : ∀ W, _ := fun W => add_any an ad bn bd W q0.fit q1.fit
      have es : ∀ W, _ := fun W => radd_any an ad bn bd W q0.fit q1.fit
      rw [hs] at cs es
      clear hs
      go_wp2_with (fail)
      refine (cs _).mono ?_
      rintro e w3 ⟨rfl, hB⟩
      replace L := Lib.hid (L.out.trans (hB.mono L.out.size))
      replace kA := Lib.hid (stays kA.out hB)
      replace kB := Lib.hid (stays kB.out hB)
      clear hB A0 A1 B0 B1
      simp only [mkV]
      have zX := L.out.size
      have dAX := Nat.ne_of_lt (Array.getElem?_eq_some_iff.1 kA.out).1
      have dBX := Nat.ne_of_lt (Array.getElem?_eq_some_iff.1 kB.out).1
      obtain ⟨gN, kX⟩ := box_new w3 (sn) (sd)
      replace kA := Lib.hid (stays kA.out gN)
      replace kB := Lib.hid (stays kB.out gN)
      replace kX := Lib.hid kX
      have A0 := frO_0 kA.out
      have A1 := frO_1 kA.out
      have B0 := frO_0 kB.out
      have B1 := frO_1 kB.out
      have X0 := frO_0 kX.out
      have X1 := frO_1 kX.out
      go_wp2_with (fail)
      refine (es _).mono ?_
      rintro e w4 ⟨rfl, hB⟩
      replace L := Lib.hid (L.out.trans ((gN.trans (hB.mono gN.size)).mono L.out.size))
      replace kA := Lib.hid (stays kA.out hB)
      replace kB := Lib.hid (stays kB.out hB)
      replace kX := Lib.hid (stays kX.out hB)
      generalize w3.heap.size = xX at *
      clear gN
      clear hB A0 A1 B0 B1 X0 X1
      simp only [mkV]
      have zY := L.out.size
      have dAY := Nat.ne_of_lt (Array.getElem?_eq_some_iff.1 kA.out).1
      have dBY := Nat.ne_of_lt (Array.getElem?_eq_some_iff.1 kB.out).1
      have dXY := Nat.ne_of_lt (Array.getElem?_eq_some_iff.1 kX.out).1
      obtain ⟨gN, kY⟩ := box_new w4 (sn) (sd)
      replace kA := Lib.hid (stays kA.out gN)
      replace kB := Lib.hid (stays kB.out gN)
      replace kX := Lib.hid (stays kX.out gN)
      replace kY := Lib.hid kY
      have A0 := frO_0 kA.out
      have A1 := frO_1 kA.out
      have B0 := frO_0 kB.out
      have B1 := frO_1 kB.out
      have X0 := frO_0 kX.out
      have X1 := frO_1 kX.out
      have Y0 := frO_0 kY.out
      have Y1 := frO_1 kY.out
      obtain ⟨⟨⟨tn, td⟩, tc⟩, ht⟩ : ∃ r, mkF (an * bd - bn * ad) (ad * bd) = r := ⟨_, rfl⟩
      have ct : ∀ W, _ := fun W => sub_any an ad bn bd W q0.fit q1.fit
      have et : ∀ W, _ := fun W => rsub_any an ad bn bd W q0.fit q1.fit
      rw [ht] at ct et
      clear ht
      go_wp2_with (fail)
      refine (ct _).mono ?_
      rintro e w5 ⟨rfl, hB⟩
      replace L := Lib.hid (L.out.trans ((gN.trans (hB.mono gN.size)).mono L.out.size))
      replace kA := Lib.hid (stays kA.out hB)
      replace kB := Lib.hid (stays kB.out hB)
      replace kX := Lib.hid (stays kX.out hB)
      replace kY := Lib.hid (stays kY.out hB)
      generalize w4.heap.size = xY at *
      clear gN
      clear hB A0 A1 B0 B1 X0 X1 Y0 Y1
      simp only [mkV]
      have fX0 := frz0 kX.out
      have fX1 := frz1 kX.out
      have gX0 := frO_0 kX.out
      have gX1 := frO_1 kX.out
      obtain ⟨gS, kS, oS⟩ := box_set (tn) (td) kX.out
      replace L := Lib.hid (L.out.trans (gS _ zX))
      replace kA := Lib.hid ((oS _ dAX).trans kA.out)
      replace kB := Lib.hid ((oS _ dBX).trans kB.out)
      replace kY := Lib.hid ((oS _ dXY.symm).trans kY.out)
      replace kX := Lib.hid kS
      clear gS kS oS
      have A0 := frO_0 kA.out
      have A1 := frO_1 kA.out
      have B0 := frO_0 kB.out
      have B1 := frO_1 kB.out
      have X0 := frO_0 kX.out
      have X1 := frO_1 kX.out
      have Y0 := frO_0 kY.out
      have Y1 := frO_1 kY.out
      go_wp2_with (fail)
      refine (et _).mono ?_
      rintro e w6 ⟨rfl, hB⟩
      replace L := Lib.hid (L.out.trans (hB.mono L.out.size))
      replace kA := Lib.hid (stays kA.out hB)
      replace kB := Lib.hid (stays kB.out hB)
      replace kX := Lib.hid (stays kX.out hB)
      replace kY := Lib.hid (stays kY.out hB)
      clear hB A0 A1 B0 B1 X0 X1 Y0 Y1
      clear fX0 fX1 gX0 gX1
      simp only [mkV]
      have fY0 := frz0 kY.out
      have fY1 := frz1 kY.out
      have gY0 := frO_0 kY.out
      have gY1 := frO_1 kY.out
      obtain ⟨gS, kS, oS⟩ := box_set (tn) (td) kY.out
      replace L := Lib.hid (L.out.trans (gS _ zY))
      replace kA := Lib.hid ((oS _ dAY).trans kA.out)
      replace kB := Lib.hid ((oS _ dBY).trans kB.out)
      replace kX := Lib.hid ((oS _ dXY).trans kX.out)
      replace kY := Lib.hid kS
      clear gS kS oS
      have A0 := frO_0 kA.out
      have A1 := frO_1 kA.out
      have B0 := frO_0 kB.out
      have B1 := frO_1 kB.out
      have X0 := frO_0 kX.out
      have X1 := frO_1 kX.out
      have Y0 := frO_0 kY.out
      have Y1 := frO_1 kY.out
      obtain ⟨⟨⟨un, ud⟩, uc⟩, hu⟩ : ∃ r, mkF (an * bn) (ad * bd) = r := ⟨_, rfl⟩
      have cu : ∀ W, _ := fun W => mul_any an ad bn bd W q0.fit q1.fit
      have eu : ∀ W, _ := fun W => rmul_any an ad bn bd W q0.fit q1.fit
      rw [hu] at cu eu
      clear hu
      go_wp2_with (fail)
      refine (cu _).mono ?_
      rintro e w7 ⟨rfl, hB⟩
      replace L := Lib.hid (L.out.trans (hB.mono L.out.size))
      replace kA := Lib.hid (stays kA.out hB)
      replace kB := Lib.hid (stays kB.out hB)
      replace kX := Lib.hid (stays kX.out hB)
      replace kY := Lib.hid (stays kY.out hB)
      clear hB A0 A1 B0 B1 X0 X1 Y0 Y1
      clear fY0 fY1 gY0 gY1
      simp only [mkV]
      have fX0 := frz0 kX.out
      have fX1 := frz1 kX.out
      have gX0 := frO_0 kX.out
      have gX1 := frO_1 kX.out
      obtain ⟨gS, kS, oS⟩ := box_set (un) (ud) kX.out
      replace L := Lib.hid (L.out.trans (gS _ zX))
      replace kA := Lib.hid ((oS _ dAX).trans kA.out)
      replace kB := Lib.hid ((oS _ dBX).trans kB.out)
      replace kY := Lib.hid ((oS _ dXY.symm).trans kY.out)
      replace kX := Lib.hid kS
      clear gS kS oS
      have A0 := frO_0 kA.out
      have A1 := frO_1 kA.out
      have B0 := frO_0 kB.out
      have B1 := frO_1 kB.out
      have X0 := frO_0 kX.out
      have X1 := frO_1 kX.out
      have Y0 := frO_0 kY.out
      have Y1 := frO_1 kY.out
      go_wp2_with (fail)
      refine (eu _).mono ?_
      rintro e w8 ⟨rfl, hB⟩
      replace L := Lib.hid (L.out.trans (hB.mono L.out.size))
      replace kA := Lib.hid (stays kA.out hB)
      replace kB := Lib.hid (stays kB.out hB)
      replace kX := Lib.hid (stays kX.out hB)
      replace kY := Lib.hid (stays kY.out hB)
      clear hB A0 A1 B0 B1 X0 X1 Y0 Y1
      clear fX0 fX1 gX0 gX1
      simp only [mkV]
      have fY0 := frz0 kY.out
      have fY1 := frz1 kY.out
      have gY0 := frO_0 kY.out
      have gY1 := frO_1 kY.out
      obtain ⟨gS, kS, oS⟩ := box_set (un) (ud) kY.out
      replace L := Lib.hid (L.out.trans (gS _ zY))
      replace kA := Lib.hid ((oS _ dAY).trans kA.out)
      replace kB := Lib.hid ((oS _ dBY).trans kB.out)
      replace kX := Lib.hid ((oS _ dXY).trans kX.out)
      replace kY := Lib.hid kS
      clear gS kS oS
      have A0 := frO_0 kA.out
      have A1 := frO_1 kA.out
      have B0 := frO_0 kB.out
      have B1 := frO_1 kB.out
      have X0 := frO_0 kX.out
      have X1 := frO_1 kX.out
      have Y0 := frO_0 kY.out
      have Y1 := frO_1 kY.out
      obtain ⟨⟨⟨vn, vd⟩, vc⟩, hv⟩ : ∃ r, mkF (an * bd) (ad * bn) = r := ⟨_, rfl⟩
      have cv : ∀ W, _ := fun W => div_any an ad bn bd W q0.fit q1.fit
      have ev : ∀ W, _ := fun W => rdiv_any an ad bn bd W q0.fit q1.fit
      rw [hv] at cv ev
      clear hv
      go_wp2_with (fail)
      refine (cv _).mono ?_
      rintro e w9 ⟨rfl, hB⟩
      replace L := Lib.hid (L.out.trans (hB.mono L.out.size))
      replace kA := Lib.hid (stays kA.out hB)
      replace kB := Lib.hid (stays kB.out hB)
      replace kX := Lib.hid (stays kX.out hB)
      replace kY := Lib.hid (stays kY.out hB)
      clear hB A0 A1 B0 B1 X0 X1 Y0 Y1
      clear fY0 fY1 gY0 gY1
      simp only [mkV]
      have fX0 := frz0 kX.out
      have fX1 := frz1 kX.out
      have gX0 := frO_0 kX.out
      have gX1 := frO_1 kX.out
      obtain ⟨gS, kS, oS⟩ := box_set (vn) (vd) kX.out
      replace L := Lib.hid (L.out.trans (gS _ zX))
      replace kA := Lib.hid ((oS _ dAX).trans kA.out)
      replace kB := Lib.hid ((oS _ dBX).trans kB.out)
      replace kY := Lib.hid ((oS _ dXY.symm).trans kY.out)
      replace kX := Lib.hid kS
      clear gS kS oS
      have A0 := frO_0 kA.out
      have A1 := frO_1 kA.out
      have B0 := frO_0 kB.out
      have B1 := frO_1 kB.out
      have X0 := frO_0 kX.out
      have X1 := frO_1 kX.out
      have Y0 := frO_0 kY.out
      have Y1 := frO_1 kY.out
      go_wp2_with (fail)
      refine (ev _).mono ?_
      rintro e w10 ⟨rfl, hB⟩
      replace L := Lib.hid (L.out.trans (hB.mono L.out.size))
      replace kA := Lib.hid (stays kA.out hB)
      replace kB := Lib.hid (stays kB.out hB)
      replace kX := Lib.hid (stays kX.out hB)
      replace kY := Lib.hid (stays kY.out hB)
      clear hB A0 A1 B0 B1 X0 X1 Y0 Y1
      clear fX0 fX1 gX0 gX1
      simp only [mkV]
      have fY0 := frz0 kY.out
      have fY1 := frz1 kY.out
      have gY0 := frO_0 kY.out
      have gY1 := frO_1 kY.out
      obtain ⟨gS, kS, oS⟩ := box_set (vn) (vd) kY.out
      replace L := Lib.hid (L.out.trans (gS _ zY))
      replace kA := Lib.hid ((oS _ dAY).trans kA.out)
      replace kB := Lib.hid ((oS _ dBY).trans kB.out)
      replace kX := Lib.hid ((oS _ dXY).trans kX.out)
      replace kY := Lib.hid kS
      clear gS kS oS
      have A0 := frO_0 kA.out
      have A1 := frO_1 kA.out
      have B0 := frO_0 kB.out
      have B1 := frO_1 kB.out
      have X0 := frO_0 kX.out
      have X1 := frO_1 kX.out
      have Y0 := frO_0 kY.out
      have Y1 := frO_1 kY.out
      go_wp2_with (fail)
      have cc : ∀ W, _ := fun W => cmp_any an ad bn bd W q0.fit q1.fit
      have rc : ∀ W, _ := fun W => rcmp_any an ad bn bd W q0.fit q1.fit
      generalize cmpF an ad bn bd = y0 at *
      clear A0 A1 B0 B1 X0 X1 Y0 Y1
      refine wp_flow2 (by kernel_rfl) (by kernel_rfl) (fun i => if i = 20 then 4 else 90 + i) (by kernel_rfl) (by kernel_rfl) (by kernel_rfl) (fun i v W => ([(fun zv _ => zv = (frV vn vd)), (fun zv _ => zv = (frV vn vd)), (fun zv _ => zv = (.bool true)), (fun zv _ => zv = (.bool true)), (fun zv _ => zv = (.int .i64 vc)), (fun zv _ => zv = (.int .i64 vc)), (fun zv _ => zv = (.bool true)), (fun zv _ => zv = (.bool true)), (fun zv _ => zv = (.bool true)), (fun zv _ => zv = (frV an ad)), (fun zv _ => zv = (frV bn bd)), (fun zv _ => zv = (.int .i64 y0)), (fun zv _ => zv = (frV an ad)), (fun zv _ => zv = (frV bn bd)), (fun zv _ => zv = (.int .i64 y0)), (fun zv _ => zv = (.bool true)), (fun zv _ => zv = (.bool true)), (fun zv _ => zv = (.bool true)), (fun zv _ => zv = (.bool true)), (fun zv _ => zv = (.bool true)), (fun zv _ => zv = (.bool true))] : List (Value → World → Prop)).getD i (fun _ _ => True) v W) ?_ ?_ (by kernel_rfl) ?_
      · intro i hi
        replace hi : i < 21 := hi
        rcases (show i = 0 ∨ i = 1 ∨ i = 2 ∨ i = 3 ∨ i = 4 ∨ i = 5 ∨ i = 6 ∨ i = 7 ∨ i = 8 ∨ i = 9 ∨ i = 10 ∨ i = 11 ∨ i = 12 ∨ i = 13 ∨ i = 14 ∨ i = 15 ∨ i = 16 ∨ i = 17 ∨ i = 18 ∨ i = 19 ∨ i = 20 by omega) with rfl | rfl | rfl | rfl | rfl | rfl | rfl | rfl | rfl | rfl | rfl | rfl | rfl | rfl | rfl | rfl | rfl | rfl | rfl | rfl | rfl
        · exact Stays.eq _
        · exact Stays.eq _
        · exact Stays.eq _
        · exact Stays.eq _
        · exact Stays.eq _
        · exact Stays.eq _
        · exact Stays.eq _
        · exact Stays.eq _
        · exact Stays.eq _
        · exact Stays.eq _
        · exact Stays.eq _
        · exact Stays.eq _
        · exact Stays.eq _
        · exact Stays.eq _
        · exact Stays.eq _
        · exact Stays.eq _
        · exact Stays.eq _
        · exact Stays.eq _
        · exact Stays.eq _
        · exact Stays.eq _
        · exact Stays.eq _
      · intro i o a W hi ho hB hf hd
        replace hi : i < 21 := hi
        rcases (show i = 0 ∨ i = 1 ∨ i = 2 ∨ i = 3 ∨ i = 4 ∨ i = 5 ∨ i = 6 ∨ i = 7 ∨ i = 8 ∨ i = 9 ∨ i = 10 ∨ i = 11 ∨ i = 12 ∨ i = 13 ∨ i = 14 ∨ i = 15 ∨ i = 16 ∨ i = 17 ∨ i = 18 ∨ i = 19 ∨ i = 20 by omega) with rfl | rfl | rfl | rfl | rfl | rfl | rfl | rfl | rfl | rfl | rfl | rfl | rfl | rfl | rfl | rfl | rfl | rfl | rfl | rfl | rfl
        · replace ho := op_at ho (by rfl)
          subst ho
          have f5 : a.tmps.getD 5 undef = (.pointer (some ⟨xX, 0, none⟩)) := hf 5 (by kernel_rfl)
          have kX := stays kX.out hB
          have b0 := frO_0 kX
          have b1 := frO_1 kX
          refine .inl ⟨(fun j b h => by cases h), FlowOp.pure _ (by simp [go_sem, Act.eval, f5, b0, b1]) rfl⟩
        · replace ho := op_at ho (by rfl)
          subst ho
          have f7 : a.tmps.getD 7 undef = (.pointer (some ⟨xY, 0, none⟩)) := hf 7 (by kernel_rfl)
          have kY := stays kY.out hB
          have b0 := frO_0 kY
          have b1 := frO_1 kY
          refine .inl ⟨(fun j b h => by cases h), FlowOp.pure _ (by simp [go_sem, Act.eval, f7, b0, b1]) rfl⟩
        · replace ho := op_at ho (by rfl)
          subst ho
          have d0 : a.tmps.getD 90 undef = (frV vn vd) := hd 0 (by kernel_rfl)
          have d1 : a.tmps.getD 91 undef = (frV vn vd) := hd 1 (by kernel_rfl)
          refine .inl ⟨(fun j b h => by cases h), FlowOp.pure _ (by simp [go_sem, Act.eval, d0, d1]) rfl⟩
        · replace ho := op_at ho (by rfl)
          subst ho
          have d2 : a.tmps.getD 92 undef = (.bool true) := hd 2 (by kernel_rfl)
          refine .inl ⟨(fun j b h => by cases h), FlowOp.pure _ (by simp [go_sem, Act.eval, d2]) rfl⟩
        · replace ho := op_at ho (by rfl)
          subst ho
          have f6 : a.tmps.getD 6 undef = (.int .i64 vc) := hf 6 (by kernel_rfl)
          have d3 : a.tmps.getD 93 undef = (.bool true) := hd 3 (by kernel_rfl)
          refine .inl ⟨(fun j b h => by cases h; exact d3), FlowOp.pure _ (by simp [go_sem, Act.eval, f6]) rfl⟩
        · replace ho := op_at ho (by rfl)
          subst ho
          have f8 : a.tmps.getD 8 undef = (.int .i64 vc) := hf 8 (by kernel_rfl)
          have d3 : a.tmps.getD 93 undef = (.bool true) := hd 3 (by kernel_rfl)
          refine .inl ⟨(fun j b h => by cases h; exact d3), FlowOp.pure _ (by simp [go_sem, Act.eval, f8]) rfl⟩
        · replace ho := op_at ho (by rfl)
          subst ho
          have d4 : a.tmps.getD 94 undef = (.int .i64 vc) := hd 4 (by kernel_rfl)
          have d5 : a.tmps.getD 95 undef = (.int .i64 vc) := hd 5 (by kernel_rfl)
          have d3 : a.tmps.getD 93 undef = (.bool true) := hd 3 (by kernel_rfl)
          refine .inl ⟨(fun j b h => by cases h; exact d3), FlowOp.pure _ (by simp [go_sem, Act.eval, d4, d5]) rfl⟩
        · replace ho := op_at ho (by rfl)
          subst ho
          have d3 : a.tmps.getD 93 undef = (.bool true) := hd 3 (by kernel_rfl)
          have d6 : a.tmps.getD 96 undef = (.bool true) := hd 6 (by kernel_rfl)
          refine .inl ⟨(fun j b h => by cases h), FlowOp.pure _ (by simp [go_sem, Act.eval, d3, d6]) rfl⟩
        · replace ho := op_at ho (by rfl)
          subst ho
          have d7 : a.tmps.getD 97 undef = (.bool true) := hd 7 (by kernel_rfl)
          refine .inl ⟨(fun j b h => by cases h), FlowOp.pure _ (by simp [go_sem, Act.eval, d7]) rfl⟩
        · replace ho := op_at ho (by rfl)
          subst ho
          have f2 : a.tmps.getD 2 undef = (.pointer (some ⟨w.heap.size, 0, none⟩)) := hf 2 (by kernel_rfl)
          have d8 : a.tmps.getD 98 undef = (.bool true) := hd 8 (by kernel_rfl)
          have kA := stays kA.out hB
          have b0 := frO_0 kA
          have b1 := frO_1 kA
          refine .inl ⟨(fun j b h => by cases h; exact d8), FlowOp.pure _ (by simp [go_sem, Act.eval, f2, b0, b1]) rfl⟩
        · replace ho := op_at ho (by rfl)
          subst ho
          have f3 : a.tmps.getD 3 undef = (.pointer (some ⟨w.heap.size + 1, 0, none⟩)) := hf 3 (by kernel_rfl)
          have d8 : a.tmps.getD 98 undef = (.bool true) := hd 8 (by kernel_rfl)
          have kB := stays kB.out hB
          have b0 := frO_0 kB
          have b1 := frO_1 kB
          refine .inl ⟨(fun j b h => by cases h; exact d8), FlowOp.pure _ (by simp [go_sem, Act.eval, f3, b0, b1]) rfl⟩
        · replace ho := op_at ho (by rfl)
          subst ho
          have d9 : a.tmps.getD 99 undef = (frV an ad) := hd 9 (by kernel_rfl)
          have d10 : a.tmps.getD 100 undef = (frV bn bd) := hd 10 (by kernel_rfl)
          have d8 : a.tmps.getD 98 undef = (.bool true) := hd 8 (by kernel_rfl)
          refine .inl ⟨(fun j b h => by cases h; exact d8), FlowOp.call 19 #[(frV an ad), (frV bn bd)] (by simp [go_sem, Act.eval, d9, d10]) ?_⟩
          refine (cc W).mono ?_
          rintro e W' ⟨rfl, hBe⟩
          exact ⟨_, rfl, hBe, rfl⟩
        · replace ho := op_at ho (by rfl)
          subst ho
          have f2 : a.tmps.getD 2 undef = (.pointer (some ⟨w.heap.size, 0, none⟩)) := hf 2 (by kernel_rfl)
          have d8 : a.tmps.getD 98 undef = (.bool true) := hd 8 (by kernel_rfl)
          have kA := stays kA.out hB
          have b0 := frO_0 kA
          have b1 := frO_1 kA
          refine .inl ⟨(fun j b h => by cases h; exact d8), FlowOp.pure _ (by simp [go_sem, Act.eval, f2, b0, b1]) rfl⟩
        · replace ho := op_at ho (by rfl)
          subst ho
          have f3 : a.tmps.getD 3 undef = (.pointer (some ⟨w.heap.size + 1, 0, none⟩)) := hf 3 (by kernel_rfl)
          have d8 : a.tmps.getD 98 undef = (.bool true) := hd 8 (by kernel_rfl)
          have kB := stays kB.out hB
          have b0 := frO_0 kB
          have b1 := frO_1 kB
          refine .inl ⟨(fun j b h => by cases h; exact d8), FlowOp.pure _ (by simp [go_sem, Act.eval, f3, b0, b1]) rfl⟩
        · replace ho := op_at ho (by rfl)
          subst ho
          have d12 : a.tmps.getD 102 undef = (frV an ad) := hd 12 (by kernel_rfl)
          have d13 : a.tmps.getD 103 undef = (frV bn bd) := hd 13 (by kernel_rfl)
          have d8 : a.tmps.getD 98 undef = (.bool true) := hd 8 (by kernel_rfl)
          refine .inl ⟨(fun j b h => by cases h; exact d8), FlowOp.call 34 #[(frV an ad), (frV bn bd)] (by simp [go_sem, Act.eval, d12, d13]) ?_⟩
          refine (rc W).mono ?_
          rintro e W' ⟨rfl, hBe⟩
          exact ⟨_, rfl, hBe, rfl⟩
        · replace ho := op_at ho (by rfl)
          subst ho
          have d11 : a.tmps.getD 101 undef = (.int .i64 y0) := hd 11 (by kernel_rfl)
          have d14 : a.tmps.getD 104 undef = (.int .i64 y0) := hd 14 (by kernel_rfl)
          have d8 : a.tmps.getD 98 undef = (.bool true) := hd 8 (by kernel_rfl)
          refine .inl ⟨(fun j b h => by cases h; exact d8), FlowOp.pure _ (by simp [go_sem, Act.eval, d11, d14]) rfl⟩
        · replace ho := op_at ho (by rfl)
          subst ho
          have d8 : a.tmps.getD 98 undef = (.bool true) := hd 8 (by kernel_rfl)
          have d15 : a.tmps.getD 105 undef = (.bool true) := hd 15 (by kernel_rfl)
          refine .inl ⟨(fun j b h => by cases h), FlowOp.pure _ (by simp [go_sem, Act.eval, d8, d15]) rfl⟩
        · replace ho := op_at ho (by rfl)
          subst ho
          have d16 : a.tmps.getD 106 undef = (.bool true) := hd 16 (by kernel_rfl)
          refine .inl ⟨(fun j b h => by cases h), FlowOp.pure _ (by simp [go_sem, Act.eval, d16]) rfl⟩
        · replace ho := op_at ho (by rfl)
          subst ho
          have d17 : a.tmps.getD 107 undef = (.bool true) := hd 17 (by kernel_rfl)
          refine .inl ⟨(fun j b h => by cases h; exact d17), FlowOp.call 16 #[] (by simp [go_sem, Act.eval]) ?_⟩
          refine (awake_any W (ht.below (L.out.trans (hB.mono L.out.size)))).mono ?_
          rintro e W' ⟨rfl, hBe⟩
          exact ⟨_, rfl, hBe, rfl⟩
        · replace ho := op_at ho (by rfl)
          subst ho
          have d17 : a.tmps.getD 107 undef = (.bool true) := hd 17 (by kernel_rfl)
          have d18 : a.tmps.getD 108 undef = (.bool true) := hd 18 (by kernel_rfl)
          refine .inl ⟨(fun j b h => by cases h), FlowOp.pure _ (by simp [go_sem, Act.eval, d17, d18]) rfl⟩
        · replace ho := op_at ho (by rfl)
          subst ho
          have d19 : a.tmps.getD 109 undef = (.bool true) := hd 19 (by kernel_rfl)
          refine .inl ⟨(fun j b h => by cases h), FlowOp.pure _ (by simp [go_sem, Act.eval, d19]) rfl⟩
      · intro vs4 W4 hB4 hv
        have h0 : vs4 0 = (frV vn vd) := hv 0 (show 0 < 21 by decide)
        have h1 : vs4 1 = (frV vn vd) := hv 1 (show 1 < 21 by decide)
        have h2 : vs4 2 = (.bool true) := hv 2 (show 2 < 21 by decide)
        have h3 : vs4 3 = (.bool true) := hv 3 (show 3 < 21 by decide)
        have h4 : vs4 4 = (.int .i64 vc) := hv 4 (show 4 < 21 by decide)
        have h5 : vs4 5 = (.int .i64 vc) := hv 5 (show 5 < 21 by decide)
        have h6 : vs4 6 = (.bool true) := hv 6 (show 6 < 21 by decide)
        have h7 : vs4 7 = (.bool true) := hv 7 (show 7 < 21 by decide)
        have h8 : vs4 8 = (.bool true) := hv 8 (show 8 < 21 by decide)
        have h9 : vs4 9 = (frV an ad) := hv 9 (show 9 < 21 by decide)
        have h10 : vs4 10 = (frV bn bd) := hv 10 (show 10 < 21 by decide)
        have h11 : vs4 11 = (.int .i64 y0) := hv 11 (show 11 < 21 by decide)
        have h12 : vs4 12 = (frV an ad) := hv 12 (show 12 < 21 by decide)
        have h13 : vs4 13 = (frV bn bd) := hv 13 (show 13 < 21 by decide)
        have h14 : vs4 14 = (.int .i64 y0) := hv 14 (show 14 < 21 by decide)
        have h15 : vs4 15 = (.bool true) := hv 15 (show 15 < 21 by decide)
        have h16 : vs4 16 = (.bool true) := hv 16 (show 16 < 21 by decide)
        have h17 : vs4 17 = (.bool true) := hv 17 (show 17 < 21 by decide)
        have h18 : vs4 18 = (.bool true) := hv 18 (show 18 < 21 by decide)
        have h19 : vs4 19 = (.bool true) := hv 19 (show 19 < 21 by decide)
        have h20 : vs4 20 = (.bool true) := hv 20 (show 20 < 21 by decide)
        clear hv
        show (_ : Exit → Act → World → Prop) Exit.normal (puts _ vs4 21 _) W4
        simp only [puts, h0, h1, h2, h3, h4, h5, h6, h7, h8, h9, h10, h11, h12, h13, h14, h15, h16, h17, h18, h19, h20]
        clear h0 h1 h2 h3 h4 h5 h6 h7 h8 h9 h10 h11 h12 h13 h14 h15 h16 h17 h18 h19 h20
        go_simp
        go_wp2
        go_ret
        exact ⟨rfl, L.out.trans (hB4.mono L.out.size)⟩
    · have e1 : valB bn bd = false := by rw [valB, decide_eq_false_iff_not]; exact q1
      rw [e1] at v1
      clear e1
      obtain ⟨g0, kA, kB⟩ := enter2 w an ad bn bd
      have L := Lib.hid g0
      replace kA := Lib.hid kA
      replace kB := Lib.hid kB
      clear g0
      have A0 := frO_0 kA.out
      have A1 := frO_1 kA.out
      have B0 := frO_0 kB.out
      have B1 := frO_1 kB.out
      go_enter Tryd.func8, Tryd.ntmps8
      go_wp2_with (fail)
      refine (v0 _).mono ?_
      rintro e w1 ⟨rfl, hB⟩
      replace L := Lib.hid (L.out.trans (hB.mono L.out.size))
      replace kA := Lib.hid (stays kA.out hB)
      replace kB := Lib.hid (stays kB.out hB)
      clear hB A0 A1 B0 B1
      have A0 := frO_0 kA.out
      have A1 := frO_1 kA.out
      have B0 := frO_0 kB.out
      have B1 := frO_1 kB.out
      go_wp2_with (fail)
      refine (v1 _).mono ?_
      rintro e w2 ⟨rfl, hB⟩
      replace L := Lib.hid (L.out.trans (hB.mono L.out.size))
      replace kA := Lib.hid (stays kA.out hB)
      replace kB := Lib.hid (stays kB.out hB)
      clear hB A0 A1 B0 B1
      have A0 := frO_0 kA.out
      have A1 := frO_1 kA.out
      have B0 := frO_0 kB.out
      have B1 := frO_1 kB.out
      go_wp2_with (fail)
      refine (awake_any _ (ht.below L.out)).mono ?_
      rintro e w3 ⟨rfl, hB⟩
      replace L := Lib.hid (L.out.trans (hB.mono L.out.size))
      replace kA := Lib.hid (stays kA.out hB)
      replace kB := Lib.hid (stays kB.out hB)
      clear hB A0 A1 B0 B1
      have A0 := frO_0 kA.out
      have A1 := frO_1 kA.out
      have B0 := frO_0 kB.out
      have B1 := frO_1 kB.out
      go_wp2
      go_ret
      exact ⟨rfl, L.out⟩
  · have e0 : valB an ad = false := by rw [valB, decide_eq_false_iff_not]; exact q0
    rw [e0] at v0
    clear e0
    obtain ⟨g0, kA, kB⟩ := enter2 w an ad bn bd
    have L := Lib.hid g0
    replace kA := Lib.hid kA
    replace kB := Lib.hid kB
    clear g0
    have A0 := frO_0 kA.out
    have A1 := frO_1 kA.out
    have B0 := frO_0 kB.out
    have B1 := frO_1 kB.out
    go_enter Tryd.func8, Tryd.ntmps8
    go_wp2_with (fail)
    refine (v0 _).mono ?_
    rintro e w1 ⟨rfl, hB⟩
    replace L := Lib.hid (L.out.trans (hB.mono L.out.size))
    replace kA := Lib.hid (stays kA.out hB)
    replace kB := Lib.hid (stays kB.out hB)
    clear hB A0 A1 B0 B1
    have A0 := frO_0 kA.out
    have A1 := frO_1 kA.out
    have B0 := frO_0 kB.out
    have B1 := frO_1 kB.out
    go_wp2_with (fail)
    refine (awake_any _ (ht.below L.out)).mono ?_
    rintro e w2 ⟨rfl, hB⟩
    replace L := Lib.hid (L.out.trans (hB.mono L.out.size))
    replace kA := Lib.hid (stays kA.out hB)
    replace kB := Lib.hid (stays kB.out hB)
    clear hB A0 A1 B0 B1
    have A0 := frO_0 kA.out
    have A1 := frO_1 kA.out
    have B0 := frO_0 kB.out
    have B1 := frO_1 kB.out
    go_wp2
    go_ret
    exact ⟨rfl, L.out⟩

end Go.Proofs.YtckedklopgnloaaDoor
