/- FracNear: the law, walked (by program: wip/tools/gen_fraclaws.py). -/
import Derived.Test.YtckedklopgnloaaDoorFracLaw
namespace Go.Proofs.YtckedklopgnloaaDoor
open Go.RowKit

set_option maxRecDepth 100000 in
set_option maxHeartbeats 4000000 in

theorem law_FracNear (ln ld hn hd : Int) (w : World) (hln0 : -9223372036854775808 ≤ ln) (hln1 : ln < 9223372036854775808) (hld0 : -9223372036854775808 ≤ ld) (hld1 : ld < 9223372036854775808) (hhn0 : -9223372036854775808 ≤ hn) (hhn1 : hn < 9223372036854775808) (hhd0 : -9223372036854775808 ≤ hd) (hhd1 : hd < 9223372036854775808) (ht : TabT w) :
    Calls Tryd.prog 4 #[frV ln ld, frV hn hd] w fun e w' => e = .returned (.bool true) ∧ Below w.heap.size w w' := by
  have v0 : ∀ W, _ := fun W => rvalid_any ln ld W hln0 hln1 hld0 hld1
  have v1 : ∀ W, _ := fun W => rvalid_any hn hd W hhn0 hhn1 hhd0 hhd1
  by_cases q0 : Val ln ld
  · have e0 := (valB_iff ln ld).2 q0
    rw [e0] at v0
    clear e0
    by_cases q1 : Val hn hd
    · have e1 := (valB_iff hn hd).2 q1
      rw [e1] at v1
      clear e1
      obtain ⟨g0, kA, kB⟩ := enter2 w ln ld hn hd
      have L := Lib.hid g0
      replace kA := Lib.hid kA
      replace kB := Lib.hid kB
      clear g0
      have A0 := frO_0 kA.out
      have A1 := frO_1 kA.out
      have B0 := frO_0 kB.out
      have B1 := frO_1 kB.out
      go_enter Tryd.func4, Tryd.ntmps4
      go_wp2_with (fail)
      refine (v0 _).mono ?_
      rintro e w1 ⟨rfl, hB⟩
      replace L := Lib.hid (L.out.trans (hB.mono L.out.size))
      replace kA := Lib.hid (stays kA.out hB)
      replace kB := Lib.hid (stays kB.out hB)
      clear hB A0 A1 B0 B1
      have A0 := frO_0 kA.out
      have A1 := frO_1 kA.out
      have B0 := frO_0 kB.out
      have B1 := frO_1 kB.out
      go_wp2_with (fail)
      refine (v1 _).mono ?_
      rintro e w2 ⟨rfl, hB⟩
      replace L := Lib.hid (L.out.trans (hB.mono L.out.size))
      replace kA := Lib.hid (stays kA.out hB)
      replace kB := Lib.hid (stays kB.out hB)
      clear hB A0 A1 B0 B1
      have A0 := frO_0 kA.out
      have A1 := frO_1 kA.out
      have B0 := frO_0 kB.out
      have B1 := frO_1 kB.out
      go_wp2_with (fail)
      refine (near_any ln ld hn hd _ q0 q1).mono ?_
      rintro e w3 ⟨n1, d1, o1, rfl, N1, hB⟩
      replace L := Lib.hid (L.out.trans (hB.mono L.out.size))
      replace kA := Lib.hid (stays kA.out hB)
      replace kB := Lib.hid (stays kB.out hB)
      clear hB A0 A1 B0 B1
      simp only [nearV]
      obtain ⟨gN, kF⟩ := box_new w3 (n1) (d1)
      replace kA := Lib.hid (stays kA.out gN)
      replace kB := Lib.hid (stays kB.out gN)
      replace kF := Lib.hid kF
      have A0 := frO_0 kA.out
      have A1 := frO_1 kA.out
      have B0 := frO_0 kB.out
      have B1 := frO_1 kB.out
      have F0 := frO_0 kF.out
      have F1 := frO_1 kF.out
      go_wp2_with (fail)
      refine (rnear_any ln ld hn hd _ q0 q1).mono ?_
      rintro e w4 ⟨n2, d2, o2, rfl, N2, hB⟩
      replace L := Lib.hid (L.out.trans ((gN.trans (hB.mono gN.size)).mono L.out.size))
      replace kA := Lib.hid (stays kA.out hB)
      replace kB := Lib.hid (stays kB.out hB)
      replace kF := Lib.hid (stays kF.out hB)
      generalize w3.heap.size = xF at *
      clear gN
      clear hB A0 A1 B0 B1 F0 F1
      have q0' := q0.1
      have q1' := q1.1
      obtain ⟨rfl, rfl, rfl⟩ := NearR.only (by omega) (by omega) N1 N2
      simp only [nearV]
      obtain ⟨gN, kG⟩ := box_new w4 (n2) (d2)
      replace kA := Lib.hid (stays kA.out gN)
      replace kB := Lib.hid (stays kB.out gN)
      replace kF := Lib.hid (stays kF.out gN)
      replace kG := Lib.hid kG
      have A0 := frO_0 kA.out
      have A1 := frO_1 kA.out
      have B0 := frO_0 kB.out
      have B1 := frO_1 kB.out
      have F0 := frO_0 kF.out
      have F1 := frO_1 kF.out
      have G0 := frO_0 kG.out
      have G1 := frO_1 kG.out
      go_wp2_with (fail)
      refine (awake_any _ (ht.below (L.out.trans (gN.mono L.out.size)))).mono ?_
      rintro e w5 ⟨rfl, hB⟩
      replace L := Lib.hid (L.out.trans ((gN.trans (hB.mono gN.size)).mono L.out.size))
      replace kA := Lib.hid (stays kA.out hB)
      replace kB := Lib.hid (stays kB.out hB)
      replace kF := Lib.hid (stays kF.out hB)
      replace kG := Lib.hid (stays kG.out hB)
      generalize w4.heap.size = xG at *
      clear gN
      clear hB A0 A1 B0 B1 F0 F1 G0 G1
      have A0 := frO_0 kA.out
      have A1 := frO_1 kA.out
      have B0 := frO_0 kB.out
      have B1 := frO_1 kB.out
      have F0 := frO_0 kF.out
      have F1 := frO_1 kF.out
      have G0 := frO_0 kG.out
      have G1 := frO_1 kG.out
      go_wp2
      go_ret
      exact ⟨rfl, L.out⟩
    · have e1 : valB hn hd = false := by rw [valB, decide_eq_false_iff_not]; exact q1
      rw [e1] at v1
      clear e1
      obtain ⟨g0, kA, kB⟩ := enter2 w ln ld hn hd
      have L := Lib.hid g0
      replace kA := Lib.hid kA
      replace kB := Lib.hid kB
      clear g0
      have A0 := frO_0 kA.out
      have A1 := frO_1 kA.out
      have B0 := frO_0 kB.out
      have B1 := frO_1 kB.out
      go_enter Tryd.func4, Tryd.ntmps4
      go_wp2_with (fail)
      refine (v0 _).mono ?_
      rintro e w1 ⟨rfl, hB⟩
      replace L := Lib.hid (L.out.trans (hB.mono L.out.size))
      replace kA := Lib.hid (stays kA.out hB)
      replace kB := Lib.hid (stays kB.out hB)
      clear hB A0 A1 B0 B1
      have A0 := frO_0 kA.out
      have A1 := frO_1 kA.out
      have B0 := frO_0 kB.out
      have B1 := frO_1 kB.out
      go_wp2_with (fail)
      refine (v1 _).mono ?_
      rintro e w2 ⟨rfl, hB⟩
      replace L := Lib.hid (L.out.trans (hB.mono L.out.size))
      replace kA := Lib.hid (stays kA.out hB)
      replace kB := Lib.hid (stays kB.out hB)
      clear hB A0 A1 B0 B1
      have A0 := frO_0 kA.out
      have A1 := frO_1 kA.out
      have B0 := frO_0 kB.out
      have B1 := frO_1 kB.out
      go_wp2_with (fail)
      refine (awake_any _ (ht.below L.out)).mono ?_
      rintro e w3 ⟨rfl, hB⟩
      replace L := Lib.hid (L.out.trans (hB.mono L.out.size))
      replace kA := Lib.hid (stays kA.out hB)
      replace kB := Lib.hid (stays kB.out hB)
      clear hB A0 A1 B0 B1
      have A0 := frO_0 kA.out
      have A1 := frO_1 kA.out
      have B0 := frO_0 kB.out
      have B1 := frO_1 kB.out
      go_wp2
      go_ret
      exact ⟨rfl, L.out⟩
  · have e0 : valB ln ld = false := by rw [valB, decide_eq_false_iff_not]; exact q0
    rw [e0] at v0
    clear e0
    obtain ⟨g0, kA, kB⟩ := enter2 w ln ld hn hd
    have L := Lib.hid g0
    replace kA := Lib.hid kA
    replace kB := Lib.hid kB
    clear g0
    have A0 := frO_0 kA.out
    have A1 := frO_1 kA.out
    have B0 := frO_0 kB.out
    have B1 := frO_1 kB.out
    go_enter Tryd.func4, Tryd.ntmps4
    go_wp2_with (fail)
    refine (v0 _).mono ?_
    rintro e w1 ⟨rfl, hB⟩
    replace L := Lib.hid (L.out.trans (hB.mono L.out.size))
    replace kA := Lib.hid (stays kA.out hB)
    replace kB := Lib.hid (stays kB.out hB)
    clear hB A0 A1 B0 B1
    have A0 := frO_0 kA.out
    have A1 := frO_1 kA.out
    have B0 := frO_0 kB.out
    have B1 := frO_1 kB.out
    go_wp2_with (fail)
    refine (awake_any _ (ht.below L.out)).mono ?_
    rintro e w2 ⟨rfl, hB⟩
    replace L := Lib.hid (L.out.trans (hB.mono L.out.size))
    replace kA := Lib.hid (stays kA.out hB)
    replace kB := Lib.hid (stays kB.out hB)
    clear hB A0 A1 B0 B1
    have A0 := frO_0 kA.out
    have A1 := frO_1 kA.out
    have B0 := frO_0 kB.out
    have B1 := frO_1 kB.out
    go_wp2
    go_ret
    exact ⟨rfl, L.out⟩

end Go.Proofs.YtckedklopgnloaaDoor
