/- DeriveTotals: the law, walked (by program: wip/tools/gen_derivelaws.py). -/
import Derived.Test.YtahfapeggijfkaaDoorDerive4
namespace Go.Proofs.YtahfapeggijfkaaDoor
open Go.RowKit

set_option maxRecDepth 100000 in
set_option maxHeartbeats 4000000 in
theorem law_DeriveTotals (an ad bn bd' c : Int) (w : World) (han0 : -9223372036854775808 ≤ an) (han1 : an < 9223372036854775808) (had0 : -9223372036854775808 ≤ ad) (had1 : ad < 9223372036854775808) (hbn0 : -9223372036854775808 ≤ bn) (hbn1 : bn < 9223372036854775808) (hbd'0 : -9223372036854775808 ≤ bd') (hbd'1 : bd' < 9223372036854775808) (ht : TabT w) : Calls Tryd.prog 6 #[frV an ad, frV bn bd', .int .i64 c] w fun e w' => e = .returned (.bool true) ∧ Below w.heap.size w w' := by
  have c1 : ∀ W, _ := fun W => total_any an ad c W han0 han1 had0 had1
  have c2 : ∀ W, _ := fun W => rtotal_any an ad c W han0 han1 had0 had1
  obtain ⟨⟨⟨tn, td⟩, tc⟩, hT⟩ : ∃ r, totalF an ad c = r := ⟨_, rfl⟩
  rw [hT] at c1 c2
  have c3 : ∀ W, _ := fun W => var_any an ad bn bd' W han0 han1 had0 had1 hbn0 hbn1 hbd'0 hbd'1
  have c4 : ∀ W, _ := fun W => rvar_any an ad bn bd' W han0 han1 had0 had1 hbn0 hbn1 hbd'0 hbd'1
  obtain ⟨⟨⟨vn, vd⟩, vc⟩, hV⟩ : ∃ r, varF an ad bn bd' = r := ⟨_, rfl⟩
  rw [hV] at c3 c4
  clear hT hV
  obtain ⟨g0, kA, kB⟩ := enter2 w an ad bn bd'
  have L := Lib.hid g0
  replace kA := Lib.hid kA
  replace kB := Lib.hid kB
  clear g0
  have A0 := frO_0 kA.out
  have A1 := frO_1 kA.out
  have B0 := frO_0 kB.out
  have B1 := frO_1 kB.out
  go_enter Tryd.func6, Tryd.ntmps6
  go_wp2_with (fail)
  refine (c1 _).mono ?_
  rintro e w1 ⟨rfl, hB⟩
  replace L := Lib.hid (L.out.trans (hB.mono L.out.size))
  replace kA := Lib.hid (stays kA.out hB)
  replace kB := Lib.hid (stays kB.out hB)
  clear hB A0 A1 B0 B1
  simp only [mkV]
  have zX := L.out.size
  have dAX := Nat.ne_of_lt (Array.getElem?_eq_some_iff.1 kA.out).1
  have dBX := Nat.ne_of_lt (Array.getElem?_eq_some_iff.1 kB.out).1
  obtain ⟨gN, kX⟩ := box_new w1 (tn) (td)
  replace kA := Lib.hid (stays kA.out gN)
  replace kB := Lib.hid (stays kB.out gN)
  replace kX := Lib.hid kX
  have A0 := frO_0 kA.out
  have A1 := frO_1 kA.out
  have B0 := frO_0 kB.out
  have B1 := frO_1 kB.out
  have X0 := frO_0 kX.out
  have X1 := frO_1 kX.out
  go_wp2_with (fail)
  refine (c2 _).mono ?_
  rintro e w2 ⟨rfl, hB⟩
  replace L := Lib.hid (L.out.trans ((gN.trans (hB.mono gN.size)).mono L.out.size))
  replace kA := Lib.hid (stays kA.out hB)
  replace kB := Lib.hid (stays kB.out hB)
  replace kX := Lib.hid (stays kX.out hB)
  generalize w1.heap.size = xX at *
  clear gN
  clear hB A0 A1 B0 B1 X0 X1
  simp only [mkV]
  have zY := L.out.size
  have dAY := Nat.ne_of_lt (Array.getElem?_eq_some_iff.1 kA.out).1
  have dBY := Nat.ne_of_lt (Array.getElem?_eq_some_iff.1 kB.out).1
  have dXY := Nat.ne_of_lt (Array.getElem?_eq_some_iff.1 kX.out).1
  obtain ⟨gN, kY⟩ := box_new w2 (tn) (td)
  replace kA := Lib.hid (stays kA.out gN)
  replace kB := Lib.hid (stays kB.out gN)
  replace kX := Lib.hid (stays kX.out gN)
  replace kY := Lib.hid kY
  have A0 := frO_0 kA.out
  have A1 := frO_1 kA.out
  have B0 := frO_0 kB.out
  have B1 := frO_1 kB.out
  have X0 := frO_0 kX.out
  have X1 := frO_1 kX.out
  have Y0 := frO_0 kY.out
  have Y1 := frO_1 kY.out
  go_wp2_with (fail)
  refine (c3 _).mono ?_
  rintro e w3 ⟨rfl, hB⟩
  replace L := Lib.hid (L.out.trans ((gN.trans (hB.mono gN.size)).mono L.out.size))
  replace kA := Lib.hid (stays kA.out hB)
  replace kB := Lib.hid (stays kB.out hB)
  replace kX := Lib.hid (stays kX.out hB)
  replace kY := Lib.hid (stays kY.out hB)
  generalize w2.heap.size = xY at *
  clear gN
  clear hB A0 A1 B0 B1 X0 X1 Y0 Y1
  simp only [mkV]
  have fX0 := frz0 kX.out
  have fX1 := frz1 kX.out
  have gX0 := frO_0 kX.out
  have gX1 := frO_1 kX.out
  obtain ⟨gS, kS, oS⟩ := box_set (vn) (vd) kX.out
  replace L := Lib.hid (L.out.trans (gS _ zX))
  replace kA := Lib.hid ((oS _ dAX).trans kA.out)
  replace kB := Lib.hid ((oS _ dBX).trans kB.out)
  replace kY := Lib.hid ((oS _ dXY.symm).trans kY.out)
  replace kX := Lib.hid kS
  clear gS kS oS
  have A0 := frO_0 kA.out
  have A1 := frO_1 kA.out
  have B0 := frO_0 kB.out
  have B1 := frO_1 kB.out
  have X0 := frO_0 kX.out
  have X1 := frO_1 kX.out
  have Y0 := frO_0 kY.out
  have Y1 := frO_1 kY.out
  go_wp2_with (fail)
  refine (c4 _).mono ?_
  rintro e w4 ⟨rfl, hB⟩
  replace L := Lib.hid (L.out.trans (hB.mono L.out.size))
  replace kA := Lib.hid (stays kA.out hB)
  replace kB := Lib.hid (stays kB.out hB)
  replace kX := Lib.hid (stays kX.out hB)
  replace kY := Lib.hid (stays kY.out hB)
  clear hB A0 A1 B0 B1 X0 X1 Y0 Y1
  clear fX0 fX1 gX0 gX1
  simp only [mkV]
  have fY0 := frz0 kY.out
  have fY1 := frz1 kY.out
  have gY0 := frO_0 kY.out
  have gY1 := frO_1 kY.out
  obtain ⟨gS, kS, oS⟩ := box_set (vn) (vd) kY.out
  replace L := Lib.hid (L.out.trans (gS _ zY))
  replace kA := Lib.hid ((oS _ dAY).trans kA.out)
  replace kB := Lib.hid ((oS _ dBY).trans kB.out)
  replace kX := Lib.hid ((oS _ dXY).trans kX.out)
  replace kY := Lib.hid kS
  clear gS kS oS
  have A0 := frO_0 kA.out
  have A1 := frO_1 kA.out
  have B0 := frO_0 kB.out
  have B1 := frO_1 kB.out
  have X0 := frO_0 kX.out
  have X1 := frO_1 kX.out
  have Y0 := frO_0 kY.out
  have Y1 := frO_1 kY.out
  go_wp2_with (fail)
  refine (awake_any _ (ht.below L.out)).mono ?_
  rintro e w5 ⟨rfl, hB⟩
  replace L := Lib.hid (L.out.trans (hB.mono L.out.size))
  replace kA := Lib.hid (stays kA.out hB)
  replace kB := Lib.hid (stays kB.out hB)
  replace kX := Lib.hid (stays kX.out hB)
  replace kY := Lib.hid (stays kY.out hB)
  clear hB A0 A1 B0 B1 X0 X1 Y0 Y1
  clear fY0 fY1 gY0 gY1
  have A0 := frO_0 kA.out
  have A1 := frO_1 kA.out
  have B0 := frO_0 kB.out
  have B1 := frO_1 kB.out
  have X0 := frO_0 kX.out
  have X1 := frO_1 kX.out
  have Y0 := frO_0 kY.out
  have Y1 := frO_1 kY.out
  go_wp2
  go_ret
  exact ⟨rfl, L.out⟩

end Go.Proofs.YtahfapeggijfkaaDoor
