/- DeriveTells: the law, walked (by program: wip/tools/gen_derivelaws.py). -/
import Derived.Test.YtahfapeggijfkaaDoorDerive4
namespace Go.Proofs.YtahfapeggijfkaaDoor
open Go.RowKit

set_option maxRecDepth 100000 in
set_option maxHeartbeats 4000000 in
theorem law_DeriveTells (kind x z s : Int) (w : World) (ht : TabT w) : Calls Tryd.prog 3 #[.int .i64 kind, .int .i64 x, .int .i64 z, .int .i64 s] w fun e w' => e = .returned (.bool true) ∧ Below w.heap.size w w' := by
  have c1 : ∀ W, _ := fun W => mean_any z s W
  have c2 : ∀ W, _ := fun W => rmean_any z s W
  obtain ⟨⟨⟨mn, md⟩, mc⟩, hm⟩ : ∃ r, meanF z s = r := ⟨_, rfl⟩
  rw [hm] at c1 c2
  have c3 : ∀ W, _ := fun W => count_any z s W
  have c4 : ∀ W, _ := fun W => rcount_any z s W
  generalize countF z s = C at *
  obtain ⟨cn, cc⟩ := C
  have c5 : ∀ W, _ := fun W => input_any kind x s W
  have c6 : ∀ W, _ := fun W => rinput_any kind x s W
  generalize inputF kind x s = I at *
  obtain ⟨jn, jc⟩ := I
  have c7 : ∀ W, TabT W → _ := fun W hT => dtext_any kind z s W hT
  have c8 : ∀ W, TabT W → _ := fun W hT => rdtext_any kind z s W hT
  generalize textF kind z s = T at *
  obtain ⟨tn, tc⟩ := T
  unfold numV at c5 c6
  unfold txtV at c7 c8
  simp only at c3 c4 c5 c6 c7 c8
  clear hm
  have L : Hid (Below w.heap.size w w) := Below.refl _ _
  go_enter Tryd.func3, Tryd.ntmps3
  go_wp2_with (fail)
  refine (c1 _).mono ?_
  rintro e w1 ⟨rfl, hB⟩
  replace L := Lib.hid (L.out.trans (hB.mono L.out.size))
  clear hB 
  simp only [mkV]
  obtain ⟨gN, kF⟩ := box_new w1 (mn) (md)
  replace kF := Lib.hid kF
  have F0 := frO_0 kF.out
  have F1 := frO_1 kF.out
  go_wp2_with (fail)
  refine (c2 _).mono ?_
  rintro e w2 ⟨rfl, hB⟩
  replace L := Lib.hid (L.out.trans ((gN.trans (hB.mono gN.size)).mono L.out.size))
  replace kF := Lib.hid (stays kF.out hB)
  generalize w1.heap.size = xF at *
  clear gN
  clear hB F0 F1
  simp only [mkV]
  obtain ⟨gN, kG⟩ := box_new w2 (mn) (md)
  replace kF := Lib.hid (stays kF.out gN)
  replace kG := Lib.hid kG
  have F0 := frO_0 kF.out
  have F1 := frO_1 kF.out
  have G0 := frO_0 kG.out
  have G1 := frO_1 kG.out
  go_wp2_with (fail)
  refine (c3 _).mono ?_
  rintro e V0 ⟨rfl, rfl⟩
  go_wp2_with (fail)
  refine (c4 _).mono ?_
  rintro e V0 ⟨rfl, rfl⟩
  go_wp2_with (fail)
  refine (c5 _).mono ?_
  rintro e w3 ⟨rfl, hB⟩
  replace L := Lib.hid (L.out.trans ((gN.trans (hB.mono gN.size)).mono L.out.size))
  replace kF := Lib.hid (stays kF.out hB)
  replace kG := Lib.hid (stays kG.out hB)
  generalize w2.heap.size = xG at *
  clear gN
  clear hB F0 F1 G0 G1
  have F0 := frO_0 kF.out
  have F1 := frO_1 kF.out
  have G0 := frO_0 kG.out
  have G1 := frO_1 kG.out
  go_wp2_with (fail)
  refine (c6 _).mono ?_
  rintro e V0 ⟨rfl, rfl⟩
  go_wp2_with (fail)
  refine (c7 _ (ht.below L.out)).mono ?_
  rintro e w4 ⟨rfl, hB⟩
  replace L := Lib.hid (L.out.trans (hB.mono L.out.size))
  replace kF := Lib.hid (stays kF.out hB)
  replace kG := Lib.hid (stays kG.out hB)
  clear hB F0 F1 G0 G1
  have F0 := frO_0 kF.out
  have F1 := frO_1 kF.out
  have G0 := frO_0 kG.out
  have G1 := frO_1 kG.out
  go_wp2_with (fail)
  refine (c8 _ (ht.below L.out)).mono ?_
  rintro e w5 ⟨rfl, hB⟩
  replace L := Lib.hid (L.out.trans (hB.mono L.out.size))
  replace kF := Lib.hid (stays kF.out hB)
  replace kG := Lib.hid (stays kG.out hB)
  clear hB F0 F1 G0 G1
  have F0 := frO_0 kF.out
  have F1 := frO_1 kF.out
  have G0 := frO_0 kG.out
  have G1 := frO_1 kG.out
  go_wp2_with (fail)
  refine (awake_any _ (ht.below L.out)).mono ?_
  rintro e w6 ⟨rfl, hB⟩
  replace L := Lib.hid (L.out.trans (hB.mono L.out.size))
  replace kF := Lib.hid (stays kF.out hB)
  replace kG := Lib.hid (stays kG.out hB)
  clear hB F0 F1 G0 G1
  have F0 := frO_0 kF.out
  have F1 := frO_1 kF.out
  have G0 := frO_0 kG.out
  have G1 := frO_1 kG.out
  go_wp2
  go_ret
  exact ⟨rfl, L.out⟩

end Go.Proofs.YtahfapeggijfkaaDoor
