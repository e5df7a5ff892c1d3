/- FracField: the law, walked (by program: wip/tools/gen_fraclaws.py). -/
import Derived.Test.YtckedklopgnloaaDoorFracLaw
import Derived.Test.YtckedklopgnloaaDoorFracMath2
namespace Go.Proofs.YtckedklopgnloaaDoor
open Go.RowKit

set_option maxRecDepth 100000 in
set_option maxHeartbeats 40000000 in

theorem law_FracField (an ad bn bd cn cd : Int) (w : World) (han0 : -9223372036854775808 ≤ an) (han1 : an < 9223372036854775808) (had0 : -9223372036854775808 ≤ ad) (had1 : ad < 9223372036854775808) (hbn0 : -9223372036854775808 ≤ bn) (hbn1 : bn < 9223372036854775808) (hbd0 : -9223372036854775808 ≤ bd) (hbd1 : bd < 9223372036854775808) (hcn0 : -9223372036854775808 ≤ cn) (hcn1 : cn < 9223372036854775808) (hcd0 : -9223372036854775808 ≤ cd) (hcd1 : cd < 9223372036854775808) (ht : TabT w) :
    Calls Tryd.prog 9 #[frV an ad, frV bn bd, frV cn cd] w fun e w' => e = .returned (.bool true) ∧ Below w.heap.size w w' := by
  have v0 : ∀ W, _ := fun W => rvalid_any an ad W han0 han1 had0 had1
  have v1 : ∀ W, _ := fun W => rvalid_any bn bd W hbn0 hbn1 hbd0 hbd1
  have v2 : ∀ W, _ := fun W => rvalid_any cn cd W hcn0 hcn1 hcd0 hcd1
  by_cases q0 : Val an ad
  · have e0 := (valB_iff an ad).2 q0
    rw [e0] at v0
    clear e0
    by_cases q1 : Val bn bd
    · have e1 := (valB_iff bn bd).2 q1
      rw [e1] at v1
      clear e1
      by_cases q2 : Val cn cd
      · have e2 := (valB_iff cn cd).2 q2
        rw [e2] at v2
        clear e2
        obtain ⟨g0, kA, kB, kC⟩ := enter3 w an ad bn bd cn cd
        have L := Lib.hid g0
        replace kA := Lib.hid kA
        replace kB := Lib.hid kB
        replace kC := Lib.hid kC
        clear g0
        have A0 := frO_0 kA.out
        have A1 := frO_1 kA.out
        have B0 := frO_0 kB.out
        have B1 := frO_1 kB.out
        have C0 := frO_0 kC.out
        have C1 := frO_1 kC.out
        go_enter Tryd.func9, Tryd.ntmps9
        go_wp2_with (fail)
        refine (v0 _).mono ?_
        rintro e w1 ⟨rfl, hB⟩
        replace L := Lib.hid (L.out.trans (hB.mono L.out.size))
        replace kA := Lib.hid (stays kA.out hB)
        replace kB := Lib.hid (stays kB.out hB)
        replace kC := Lib.hid (stays kC.out hB)
        clear hB A0 A1 B0 B1 C0 C1
        have A0 := frO_0 kA.out
        have A1 := frO_1 kA.out
        have B0 := frO_0 kB.out
        have B1 := frO_1 kB.out
        have C0 := frO_0 kC.out
        have C1 := frO_1 kC.out
        go_wp2_with (fail)
        refine (v1 _).mono ?_
        rintro e w2 ⟨rfl, hB⟩
        replace L := Lib.hid (L.out.trans (hB.mono L.out.size))
        replace kA := Lib.hid (stays kA.out hB)
        replace kB := Lib.hid (stays kB.out hB)
        replace kC := Lib.hid (stays kC.out hB)
        clear hB A0 A1 B0 B1 C0 C1
        have A0 := frO_0 kA.out
        have A1 := frO_1 kA.out
        have B0 := frO_0 kB.out
        have B1 := frO_1 kB.out
        have C0 := frO_0 kC.out
        have C1 := frO_1 kC.out
        go_wp2_with (fail)
        refine (v2 _).mono ?_
        rintro e w3 ⟨rfl, hB⟩
        replace L := Lib.hid (L.out.trans (hB.mono L.out.size))
        replace kA := Lib.hid (stays kA.out hB)
        replace kB := Lib.hid (stays kB.out hB)
        replace kC := Lib.hid (stays kC.out hB)
        clear hB A0 A1 B0 B1 C0 C1
        have A0 := frO_0 kA.out
        have A1 := frO_1 kA.out
        have B0 := frO_0 kB.out
        have B1 := frO_1 kB.out
        have C0 := frO_0 kC.out
        have C1 := frO_1 kC.out
        have p0 : ad ≠ 0 := by have := q0.1; omega
        have p1 : bd ≠ 0 := by have := q1.1; omega
        have p2 : cd ≠ 0 := by have := q2.1; omega
        obtain ⟨⟨⟨xn, xd⟩, xc⟩, hab⟩ : ∃ r, mkF (an * bd + bn * ad) (ad * bd) = r := ⟨_, rfl⟩
        have hba := (add_comm_mk an ad bn bd).symm.trans hab
        obtain ⟨⟨⟨yn, yd⟩, yc⟩, hbc⟩ : ∃ r, mkF (bn * cd + cn * bd) (bd * cd) = r := ⟨_, rfl⟩
        have cab : ∀ W, _ := fun W => add_any an ad bn bd W q0.fit q1.fit
        rw [hab] at cab
        have cba : ∀ W, _ := fun W => add_any bn bd an ad W q1.fit q0.fit
        rw [hba] at cba
        have cbc : ∀ W, _ := fun W => add_any bn bd cn cd W q1.fit q2.fit
        rw [hbc] at cbc
        have fx := fit_mk hab
        have fy := fit_mk hbc
        obtain ⟨⟨⟨ln, ld⟩, lc⟩, hl⟩ : ∃ r, mkF (xn * cd + cn * xd) (xd * cd) = r := ⟨_, rfl⟩
        have cl : ∀ W, _ := fun W => add_any xn xd cn cd W fx q2.fit
        rw [hl] at cl
        go_wp2_with (fail)
        refine (cab _).mono ?_
        rintro e w4 ⟨rfl, hB⟩
        replace L := Lib.hid (L.out.trans (hB.mono L.out.size))
        replace kA := Lib.hid (stays kA.out hB)
        replace kB := Lib.hid (stays kB.out hB)
        replace kC := Lib.hid (stays kC.out hB)
        clear hB A0 A1 B0 B1 C0 C1
        simp only [mkV]
        obtain ⟨gN, kX⟩ := box_new w4 (xn) (xd)
        replace kA := Lib.hid (stays kA.out gN)
        replace kB := Lib.hid (stays kB.out gN)
        replace kC := Lib.hid (stays kC.out gN)
        replace kX := Lib.hid kX
        have A0 := frO_0 kA.out
        have A1 := frO_1 kA.out
        have B0 := frO_0 kB.out
        have B1 := frO_1 kB.out
        have C0 := frO_0 kC.out
        have C1 := frO_1 kC.out
        have X0 := frO_0 kX.out
        have X1 := frO_1 kX.out
        go_wp2_with (fail)
        refine (cba _).mono ?_
        rintro e w5 ⟨rfl, hB⟩
        replace L := Lib.hid (L.out.trans ((gN.trans (hB.mono gN.size)).mono L.out.size))
        replace kA := Lib.hid (stays kA.out hB)
        replace kB := Lib.hid (stays kB.out hB)
        replace kC := Lib.hid (stays kC.out hB)
        replace kX := Lib.hid (stays kX.out hB)
        generalize w4.heap.size = xX at *
        clear gN
        clear hB A0 A1 B0 B1 C0 C1 X0 X1
        simp only [mkV]
        obtain ⟨gN, kY⟩ := box_new w5 (xn) (xd)
        replace kA := Lib.hid (stays kA.out gN)
        replace kB := Lib.hid (stays kB.out gN)
        replace kC := Lib.hid (stays kC.out gN)
        replace kX := Lib.hid (stays kX.out gN)
        replace kY := Lib.hid kY
        have A0 := frO_0 kA.out
        have A1 := frO_1 kA.out
        have B0 := frO_0 kB.out
        have B1 := frO_1 kB.out
        have C0 := frO_0 kC.out
        have C1 := frO_1 kC.out
        have X0 := frO_0 kX.out
        have X1 := frO_1 kX.out
        have Y0 := frO_0 kY.out
        have Y1 := frO_1 kY.out
        go_wp2_with (fail)
        refine (cbc _).mono ?_
        rintro e w6 ⟨rfl, hB⟩
        replace L := Lib.hid (L.out.trans ((gN.trans (hB.mono gN.size)).mono L.out.size))
        replace kA := Lib.hid (stays kA.out hB)
        replace kB := Lib.hid (stays kB.out hB)
        replace kC := Lib.hid (stays kC.out hB)
        replace kX := Lib.hid (stays kX.out hB)
        replace kY := Lib.hid (stays kY.out hB)
        generalize w5.heap.size = xY at *
        clear gN
        clear hB A0 A1 B0 B1 C0 C1 X0 X1 Y0 Y1
        simp only [mkV]
        obtain ⟨gN, kZ⟩ := box_new w6 (yn) (yd)
        replace kA := Lib.hid (stays kA.out gN)
        replace kB := Lib.hid (stays kB.out gN)
        replace kC := Lib.hid (stays kC.out gN)
        replace kX := Lib.hid (stays kX.out gN)
        replace kY := Lib.hid (stays kY.out gN)
        replace kZ := Lib.hid kZ
        have A0 := frO_0 kA.out
        have A1 := frO_1 kA.out
        have B0 := frO_0 kB.out
        have B1 := frO_1 kB.out
        have C0 := frO_0 kC.out
        have C1 := frO_1 kC.out
        have X0 := frO_0 kX.out
        have X1 := frO_1 kX.out
        have Y0 := frO_0 kY.out
        have Y1 := frO_1 kY.out
        have Z0 := frO_0 kZ.out
        have Z1 := frO_1 kZ.out
        clear kY Y0 Y1
        go_wp2_with (fail)
        refine (cl _).mono ?_
        rintro e w7 ⟨rfl, hB⟩
        replace L := Lib.hid (L.out.trans ((gN.trans (hB.mono gN.size)).mono L.out.size))
        replace kA := Lib.hid (stays kA.out hB)
        replace kB := Lib.hid (stays kB.out hB)
        replace kC := Lib.hid (stays kC.out hB)
        replace kX := Lib.hid (stays kX.out hB)
        replace kZ := Lib.hid (stays kZ.out hB)
        generalize w6.heap.size = xZ at *
        clear gN
        clear hB A0 A1 B0 B1 C0 C1 X0 X1 Z0 Z1
        simp only [mkV]
        obtain ⟨gN, kU⟩ := box_new w7 (ln) (ld)
        replace kA := Lib.hid (stays kA.out gN)
        replace kB := Lib.hid (stays kB.out gN)
        replace kC := Lib.hid (stays kC.out gN)
        replace kX := Lib.hid (stays kX.out gN)
        replace kZ := Lib.hid (stays kZ.out gN)
        replace kU := Lib.hid kU
        have A0 := frO_0 kA.out
        have A1 := frO_1 kA.out
        have B0 := frO_0 kB.out
        have B1 := frO_1 kB.out
        have C0 := frO_0 kC.out
        have C1 := frO_1 kC.out
        have X0 := frO_0 kX.out
        have X1 := frO_1 kX.out
        have Z0 := frO_0 kZ.out
        have Z1 := frO_1 kZ.out
        have U0 := frO_0 kU.out
        have U1 := frO_1 kU.out
        by_cases hxc : xc = 0
        · subst hxc
          by_cases hyc : yc = 0
          · subst hyc
            have hr := (add_assoc_mk p0 p1 p2 hab hbc).symm.trans hl
            have cr : ∀ W, _ := fun W => add_any an ad yn yd W q0.fit fy
            rw [hr] at cr
            go_wp2_with (fail)
            refine (cr _).mono ?_
            rintro e w8 ⟨rfl, hB⟩
            replace L := Lib.hid (L.out.trans ((gN.trans (hB.mono gN.size)).mono L.out.size))
            replace kA := Lib.hid (stays kA.out hB)
            replace kB := Lib.hid (stays kB.out hB)
            replace kC := Lib.hid (stays kC.out hB)
            replace kX := Lib.hid (stays kX.out hB)
            replace kZ := Lib.hid (stays kZ.out hB)
            replace kU := Lib.hid (stays kU.out hB)
            generalize w7.heap.size = xU at *
            clear gN
            clear hB A0 A1 B0 B1 C0 C1 X0 X1 Z0 Z1 U0 U1
            simp only [mkV]
            obtain ⟨gN, kR⟩ := box_new w8 (ln) (ld)
            replace kA := Lib.hid (stays kA.out gN)
            replace kB := Lib.hid (stays kB.out gN)
            replace kC := Lib.hid (stays kC.out gN)
            replace kX := Lib.hid (stays kX.out gN)
            replace kZ := Lib.hid (stays kZ.out gN)
            replace kU := Lib.hid (stays kU.out gN)
            replace kR := Lib.hid kR
            have A0 := frO_0 kA.out
            have A1 := frO_1 kA.out
            have B0 := frO_0 kB.out
            have B1 := frO_1 kB.out
            have C0 := frO_0 kC.out
            have C1 := frO_1 kC.out
            have X0 := frO_0 kX.out
            have X1 := frO_1 kX.out
            have Z0 := frO_0 kZ.out
            have Z1 := frO_1 kZ.out
            have U0 := frO_0 kU.out
            have U1 := frO_1 kU.out
            have R0 := frO_0 kR.out
            have R1 := frO_1 kR.out
            clear kZ Z0 Z1
            have hsb := sub_back_mk q0 p1 hab
            have csb : ∀ W, _ := fun W => sub_any xn xd bn bd W fx q1.fit
            rw [hsb] at csb
            go_wp2_with (fail)
            refine (csb _).mono ?_
            rintro e w9 ⟨rfl, hB⟩
            replace L := Lib.hid (L.out.trans ((gN.trans (hB.mono gN.size)).mono L.out.size))
            replace kA := Lib.hid (stays kA.out hB)
            replace kB := Lib.hid (stays kB.out hB)
            replace kC := Lib.hid (stays kC.out hB)
            replace kX := Lib.hid (stays kX.out hB)
            replace kU := Lib.hid (stays kU.out hB)
            replace kR := Lib.hid (stays kR.out hB)
            generalize w8.heap.size = xR at *
            clear gN
            clear hB A0 A1 B0 B1 C0 C1 X0 X1 U0 U1 R0 R1
            simp only [mkV]
            obtain ⟨gN, kS⟩ := box_new w9 (an) (ad)
            replace kA := Lib.hid (stays kA.out gN)
            replace kB := Lib.hid (stays kB.out gN)
            replace kC := Lib.hid (stays kC.out gN)
            replace kX := Lib.hid (stays kX.out gN)
            replace kU := Lib.hid (stays kU.out gN)
            replace kR := Lib.hid (stays kR.out gN)
            replace kS := Lib.hid kS
            have A0 := frO_0 kA.out
            have A1 := frO_1 kA.out
            have B0 := frO_0 kB.out
            have B1 := frO_1 kB.out
            have C0 := frO_0 kC.out
            have C1 := frO_1 kC.out
            have X0 := frO_0 kX.out
            have X1 := frO_1 kX.out
            have U0 := frO_0 kU.out
            have U1 := frO_1 kU.out
            have R0 := frO_0 kR.out
            have R1 := frO_1 kR.out
            have S0 := frO_0 kS.out
            have S1 := frO_1 kS.out
            clear kU U0 U1
            clear kR R0 R1
            obtain ⟨⟨⟨pn, pd⟩, pc⟩, hp⟩ : ∃ r, mkF (an * bn) (ad * bd) = r := ⟨_, rfl⟩
            have cp : ∀ W, _ := fun W => mul_any an ad bn bd W q0.fit q1.fit
            rw [hp] at cp
            have fp := fit_mk hp
            go_wp2_with (fail)
            refine (cp _).mono ?_
            rintro e w10 ⟨rfl, hB⟩
            replace L := Lib.hid (L.out.trans ((gN.trans (hB.mono gN.size)).mono L.out.size))
            replace kA := Lib.hid (stays kA.out hB)
            replace kB := Lib.hid (stays kB.out hB)
            replace kC := Lib.hid (stays kC.out hB)
            replace kX := Lib.hid (stays kX.out hB)
            replace kS := Lib.hid (stays kS.out hB)
            generalize w9.heap.size = xS at *
            clear gN
            clear hB A0 A1 B0 B1 C0 C1 X0 X1 S0 S1
            simp only [mkV]
            obtain ⟨gN, kP⟩ := box_new w10 (pn) (pd)
            replace kA := Lib.hid (stays kA.out gN)
            replace kB := Lib.hid (stays kB.out gN)
            replace kC := Lib.hid (stays kC.out gN)
            replace kX := Lib.hid (stays kX.out gN)
            replace kS := Lib.hid (stays kS.out gN)
            replace kP := Lib.hid kP
            have A0 := frO_0 kA.out
            have A1 := frO_1 kA.out
            have B0 := frO_0 kB.out
            have B1 := frO_1 kB.out
            have C0 := frO_0 kC.out
            have C1 := frO_1 kC.out
            have X0 := frO_0 kX.out
            have X1 := frO_1 kX.out
            have S0 := frO_0 kS.out
            have S1 := frO_1 kS.out
            have P0 := frO_0 kP.out
            have P1 := frO_1 kP.out
            clear kS S0 S1
            by_cases hpc : pc = 0
            · subst hpc
              by_cases hbn : bn = 0
              · have hbb : (bn != 0) = false := by rw [hbn]; rfl
                clear hbn
                obtain ⟨⟨⟨dn, dd⟩, dc⟩, hd⟩ : ∃ r, mkF (pn * bd) (pd * bn) = r := ⟨_, rfl⟩
                have cd0 : ∀ W, _ := fun W => div_any pn pd bn bd W fp q1.fit
                rw [hd] at cd0
                go_wp2_with (fail)
                refine (cd0 _).mono ?_
                rintro e w11 ⟨rfl, hB⟩
                replace L := Lib.hid (L.out.trans ((gN.trans (hB.mono gN.size)).mono L.out.size))
                replace kA := Lib.hid (stays kA.out hB)
                replace kB := Lib.hid (stays kB.out hB)
                replace kC := Lib.hid (stays kC.out hB)
                replace kX := Lib.hid (stays kX.out hB)
                replace kP := Lib.hid (stays kP.out hB)
                generalize w10.heap.size = xP at *
                clear gN
                clear hB A0 A1 B0 B1 C0 C1 X0 X1 P0 P1
                simp only [mkV]
                obtain ⟨gN, kD⟩ := box_new w11 (dn) (dd)
                replace kA := Lib.hid (stays kA.out gN)
                replace kB := Lib.hid (stays kB.out gN)
                replace kC := Lib.hid (stays kC.out gN)
                replace kX := Lib.hid (stays kX.out gN)
                replace kP := Lib.hid (stays kP.out gN)
                replace kD := Lib.hid kD
                have A0 := frO_0 kA.out
                have A1 := frO_1 kA.out
                have B0 := frO_0 kB.out
                have B1 := frO_1 kB.out
                have C0 := frO_0 kC.out
                have C1 := frO_1 kC.out
                have X0 := frO_0 kX.out
                have X1 := frO_1 kX.out
                have P0 := frO_0 kP.out
                have P1 := frO_1 kP.out
                have D0 := frO_0 kD.out
                have D1 := frO_1 kD.out
                clear kP P0 P1
                obtain ⟨⟨⟨un, ud⟩, uc⟩, hu⟩ : ∃ r, mkF (xn * cn) (xd * cd) = r := ⟨_, rfl⟩
                have cu : ∀ W, _ := fun W => mul_any xn xd cn cd W fx q2.fit
                rw [hu] at cu
                obtain ⟨⟨⟨vn, vd⟩, vc⟩, hv⟩ : ∃ r, mkF (an * cn) (ad * cd) = r := ⟨_, rfl⟩
                have cv : ∀ W, _ := fun W => mul_any an ad cn cd W q0.fit q2.fit
                rw [hv] at cv
                have fv := fit_mk hv
                obtain ⟨⟨⟨zn, zd⟩, zc⟩, hz⟩ : ∃ r, mkF (bn * cn) (bd * cd) = r := ⟨_, rfl⟩
                have cz : ∀ W, _ := fun W => mul_any bn bd cn cd W q1.fit q2.fit
                rw [hz] at cz
                have fz := fit_mk hz
                go_wp2_with (fail)
                refine (cu _).mono ?_
                rintro e w12 ⟨rfl, hB⟩
                replace L := Lib.hid (L.out.trans ((gN.trans (hB.mono gN.size)).mono L.out.size))
                replace kA := Lib.hid (stays kA.out hB)
                replace kB := Lib.hid (stays kB.out hB)
                replace kC := Lib.hid (stays kC.out hB)
                replace kX := Lib.hid (stays kX.out hB)
                replace kD := Lib.hid (stays kD.out hB)
                generalize w11.heap.size = xD at *
                clear gN
                clear hB A0 A1 B0 B1 C0 C1 X0 X1 D0 D1
                simp only [mkV]
                obtain ⟨gN, kU⟩ := box_new w12 (un) (ud)
                replace kA := Lib.hid (stays kA.out gN)
                replace kB := Lib.hid (stays kB.out gN)
                replace kC := Lib.hid (stays kC.out gN)
                replace kX := Lib.hid (stays kX.out gN)
                replace kD := Lib.hid (stays kD.out gN)
                replace kU := Lib.hid kU
                have A0 := frO_0 kA.out
                have A1 := frO_1 kA.out
                have B0 := frO_0 kB.out
                have B1 := frO_1 kB.out
                have C0 := frO_0 kC.out
                have C1 := frO_1 kC.out
                have X0 := frO_0 kX.out
                have X1 := frO_1 kX.out
                have D0 := frO_0 kD.out
                have D1 := frO_1 kD.out
                have U0 := frO_0 kU.out
                have U1 := frO_1 kU.out
                clear kD D0 D1
                go_wp2_with (fail)
                refine (cv _).mono ?_
                rintro e w13 ⟨rfl, hB⟩
                replace L := Lib.hid (L.out.trans ((gN.trans (hB.mono gN.size)).mono L.out.size))
                replace kA := Lib.hid (stays kA.out hB)
                replace kB := Lib.hid (stays kB.out hB)
                replace kC := Lib.hid (stays kC.out hB)
                replace kX := Lib.hid (stays kX.out hB)
                replace kU := Lib.hid (stays kU.out hB)
                generalize w12.heap.size = xU at *
                clear gN
                clear hB A0 A1 B0 B1 C0 C1 X0 X1 U0 U1
                simp only [mkV]
                obtain ⟨gN, kV⟩ := box_new w13 (vn) (vd)
                replace kA := Lib.hid (stays kA.out gN)
                replace kB := Lib.hid (stays kB.out gN)
                replace kC := Lib.hid (stays kC.out gN)
                replace kX := Lib.hid (stays kX.out gN)
                replace kU := Lib.hid (stays kU.out gN)
                replace kV := Lib.hid kV
                have A0 := frO_0 kA.out
                have A1 := frO_1 kA.out
                have B0 := frO_0 kB.out
                have B1 := frO_1 kB.out
                have C0 := frO_0 kC.out
                have C1 := frO_1 kC.out
                have X0 := frO_0 kX.out
                have X1 := frO_1 kX.out
                have U0 := frO_0 kU.out
                have U1 := frO_1 kU.out
                have V0 := frO_0 kV.out
                have V1 := frO_1 kV.out
                go_wp2_with (fail)
                refine (cz _).mono ?_
                rintro e w14 ⟨rfl, hB⟩
                replace L := Lib.hid (L.out.trans ((gN.trans (hB.mono gN.size)).mono L.out.size))
                replace kA := Lib.hid (stays kA.out hB)
                replace kB := Lib.hid (stays kB.out hB)
                replace kC := Lib.hid (stays kC.out hB)
                replace kX := Lib.hid (stays kX.out hB)
                replace kU := Lib.hid (stays kU.out hB)
                replace kV := Lib.hid (stays kV.out hB)
                generalize w13.heap.size = xV at *
                clear gN
                clear hB A0 A1 B0 B1 C0 C1 X0 X1 U0 U1 V0 V1
                simp only [mkV]
                obtain ⟨gN, kM⟩ := box_new w14 (zn) (zd)
                replace kA := Lib.hid (stays kA.out gN)
                replace kB := Lib.hid (stays kB.out gN)
                replace kC := Lib.hid (stays kC.out gN)
                replace kX := Lib.hid (stays kX.out gN)
                replace kU := Lib.hid (stays kU.out gN)
                replace kV := Lib.hid (stays kV.out gN)
                replace kM := Lib.hid kM
                have A0 := frO_0 kA.out
                have A1 := frO_1 kA.out
                have B0 := frO_0 kB.out
                have B1 := frO_1 kB.out
                have C0 := frO_0 kC.out
                have C1 := frO_1 kC.out
                have X0 := frO_0 kX.out
                have X1 := frO_1 kX.out
                have U0 := frO_0 kU.out
                have U1 := frO_1 kU.out
                have V0 := frO_0 kV.out
                have V1 := frO_1 kV.out
                have M0 := frO_0 kM.out
                have M1 := frO_1 kM.out
                by_cases hvc : vc = 0
                · subst hvc
                  by_cases hzc : zc = 0
                  · subst hzc
                    have hs := (distrib_mk p0 p1 p2 hab hv hz).symm.trans hu
                    have cs : ∀ W, _ := fun W => add_any vn vd zn zd W fv fz
                    rw [hs] at cs
                    go_wp2_with (fail)
                    refine (cs _).mono ?_
                    rintro e w15 ⟨rfl, hB⟩
                    replace L := Lib.hid (L.out.trans ((gN.trans (hB.mono gN.size)).mono L.out.size))
                    replace kA := Lib.hid (stays kA.out hB)
                    replace kB := Lib.hid (stays kB.out hB)
                    replace kC := Lib.hid (stays kC.out hB)
                    replace kX := Lib.hid (stays kX.out hB)
                    replace kU := Lib.hid (stays kU.out hB)
                    replace kV := Lib.hid (stays kV.out hB)
                    replace kM := Lib.hid (stays kM.out hB)
                    generalize w14.heap.size = xM at *
                    clear gN
                    clear hB A0 A1 B0 B1 C0 C1 X0 X1 U0 U1 V0 V1 M0 M1
                    simp only [mkV]
                    obtain ⟨gN, kS⟩ := box_new w15 (un) (ud)
                    replace kA := Lib.hid (stays kA.out gN)
                    replace kB := Lib.hid (stays kB.out gN)
                    replace kC := Lib.hid (stays kC.out gN)
                    replace kX := Lib.hid (stays kX.out gN)
                    replace kU := Lib.hid (stays kU.out gN)
                    replace kV := Lib.hid (stays kV.out gN)
                    replace kM := Lib.hid (stays kM.out gN)
                    replace kS := Lib.hid kS
                    have A0 := frO_0 kA.out
                    have A1 := frO_1 kA.out
                    have B0 := frO_0 kB.out
                    have B1 := frO_1 kB.out
                    have C0 := frO_0 kC.out
                    have C1 := frO_1 kC.out
                    have X0 := frO_0 kX.out
                    have X1 := frO_1 kX.out
                    have U0 := frO_0 kU.out
                    have U1 := frO_1 kU.out
                    have V0 := frO_0 kV.out
                    have V1 := frO_1 kV.out
                    have M0 := frO_0 kM.out
                    have M1 := frO_1 kM.out
                    have S0 := frO_0 kS.out
                    have S1 := frO_1 kS.out
                    go_wp2_with (fail)
                    refine (awake_any _ (ht.below (L.out.trans (gN.mono L.out.size)))).mono ?_
                    rintro e w16 ⟨rfl, hB⟩
                    replace L := Lib.hid (L.out.trans ((gN.trans (hB.mono gN.size)).mono L.out.size))
                    replace kA := Lib.hid (stays kA.out hB)
                    replace kB := Lib.hid (stays kB.out hB)
                    replace kC := Lib.hid (stays kC.out hB)
                    replace kX := Lib.hid (stays kX.out hB)
                    replace kU := Lib.hid (stays kU.out hB)
                    replace kV := Lib.hid (stays kV.out hB)
                    replace kM := Lib.hid (stays kM.out hB)
                    replace kS := Lib.hid (stays kS.out hB)
                    generalize w15.heap.size = xS at *
                    clear gN
                    clear hB A0 A1 B0 B1 C0 C1 X0 X1 U0 U1 V0 V1 M0 M1 S0 S1
                    have A0 := frO_0 kA.out
                    have A1 := frO_1 kA.out
                    have B0 := frO_0 kB.out
                    have B1 := frO_1 kB.out
                    have C0 := frO_0 kC.out
                    have C1 := frO_1 kC.out
                    have X0 := frO_0 kX.out
                    have X1 := frO_1 kX.out
                    have U0 := frO_0 kU.out
                    have U1 := frO_1 kU.out
                    have V0 := frO_0 kV.out
                    have V1 := frO_1 kV.out
                    have M0 := frO_0 kM.out
                    have M1 := frO_1 kM.out
                    have S0 := frO_0 kS.out
                    have S1 := frO_1 kS.out
                    go_wp2
                    go_ret
                    exact ⟨rfl, L.out⟩
                  · have zcb : (zc != 0) = true := by rw [bne_iff_ne]; exact hzc
                    have zce : (zc == 0) = false := by rw [beq_eq_false_iff_ne]; exact hzc
                    clear hzc
                    go_wp2_with (fail)
                    refine (awake_any _ (ht.below (L.out.trans (gN.mono L.out.size)))).mono ?_
                    rintro e w15 ⟨rfl, hB⟩
                    replace L := Lib.hid (L.out.trans ((gN.trans (hB.mono gN.size)).mono L.out.size))
                    replace kA := Lib.hid (stays kA.out hB)
                    replace kB := Lib.hid (stays kB.out hB)
                    replace kC := Lib.hid (stays kC.out hB)
                    replace kX := Lib.hid (stays kX.out hB)
                    replace kU := Lib.hid (stays kU.out hB)
                    replace kV := Lib.hid (stays kV.out hB)
                    replace kM := Lib.hid (stays kM.out hB)
                    generalize w14.heap.size = xM at *
                    clear gN
                    clear hB A0 A1 B0 B1 C0 C1 X0 X1 U0 U1 V0 V1 M0 M1
                    have A0 := frO_0 kA.out
                    have A1 := frO_1 kA.out
                    have B0 := frO_0 kB.out
                    have B1 := frO_1 kB.out
                    have C0 := frO_0 kC.out
                    have C1 := frO_1 kC.out
                    have X0 := frO_0 kX.out
                    have X1 := frO_1 kX.out
                    have U0 := frO_0 kU.out
                    have U1 := frO_1 kU.out
                    have V0 := frO_0 kV.out
                    have V1 := frO_1 kV.out
                    have M0 := frO_0 kM.out
                    have M1 := frO_1 kM.out
                    go_wp2
                    go_ret
                    exact ⟨rfl, L.out⟩
                · have vcb : (vc != 0) = true := by rw [bne_iff_ne]; exact hvc
                  have vce : (vc == 0) = false := by rw [beq_eq_false_iff_ne]; exact hvc
                  clear hvc
                  go_wp2_with (fail)
                  refine (awake_any _ (ht.below (L.out.trans (gN.mono L.out.size)))).mono ?_
                  rintro e w15 ⟨rfl, hB⟩
                  replace L := Lib.hid (L.out.trans ((gN.trans (hB.mono gN.size)).mono L.out.size))
                  replace kA := Lib.hid (stays kA.out hB)
                  replace kB := Lib.hid (stays kB.out hB)
                  replace kC := Lib.hid (stays kC.out hB)
                  replace kX := Lib.hid (stays kX.out hB)
                  replace kU := Lib.hid (stays kU.out hB)
                  replace kV := Lib.hid (stays kV.out hB)
                  replace kM := Lib.hid (stays kM.out hB)
                  generalize w14.heap.size = xM at *
                  clear gN
                  clear hB A0 A1 B0 B1 C0 C1 X0 X1 U0 U1 V0 V1 M0 M1
                  have A0 := frO_0 kA.out
                  have A1 := frO_1 kA.out
                  have B0 := frO_0 kB.out
                  have B1 := frO_1 kB.out
                  have C0 := frO_0 kC.out
                  have C1 := frO_1 kC.out
                  have X0 := frO_0 kX.out
                  have X1 := frO_1 kX.out
                  have U0 := frO_0 kU.out
                  have U1 := frO_1 kU.out
                  have V0 := frO_0 kV.out
                  have V1 := frO_1 kV.out
                  have M0 := frO_0 kM.out
                  have M1 := frO_1 kM.out
                  go_wp2
                  go_ret
                  exact ⟨rfl, L.out⟩
              · skip
                have hd := div_back_mk q0 hbn hp
                have cd0 : ∀ W, _ := fun W => div_any pn pd bn bd W fp q1.fit
                rw [hd] at cd0
                have hbb : (bn != 0) = true := by rw [bne_iff_ne]; exact hbn
                clear hbn
                go_wp2_with (fail)
                refine (cd0 _).mono ?_
                rintro e w11 ⟨rfl, hB⟩
                replace L := Lib.hid (L.out.trans ((gN.trans (hB.mono gN.size)).mono L.out.size))
                replace kA := Lib.hid (stays kA.out hB)
                replace kB := Lib.hid (stays kB.out hB)
                replace kC := Lib.hid (stays kC.out hB)
                replace kX := Lib.hid (stays kX.out hB)
                replace kP := Lib.hid (stays kP.out hB)
                generalize w10.heap.size = xP at *
                clear gN
                clear hB A0 A1 B0 B1 C0 C1 X0 X1 P0 P1
                simp only [mkV]
                obtain ⟨gN, kD⟩ := box_new w11 (an) (ad)
                replace kA := Lib.hid (stays kA.out gN)
                replace kB := Lib.hid (stays kB.out gN)
                replace kC := Lib.hid (stays kC.out gN)
                replace kX := Lib.hid (stays kX.out gN)
                replace kP := Lib.hid (stays kP.out gN)
                replace kD := Lib.hid kD
                have A0 := frO_0 kA.out
                have A1 := frO_1 kA.out
                have B0 := frO_0 kB.out
                have B1 := frO_1 kB.out
                have C0 := frO_0 kC.out
                have C1 := frO_1 kC.out
                have X0 := frO_0 kX.out
                have X1 := frO_1 kX.out
                have P0 := frO_0 kP.out
                have P1 := frO_1 kP.out
                have D0 := frO_0 kD.out
                have D1 := frO_1 kD.out
                clear kP P0 P1
                obtain ⟨⟨⟨un, ud⟩, uc⟩, hu⟩ : ∃ r, mkF (xn * cn) (xd * cd) = r := ⟨_, rfl⟩
                have cu : ∀ W, _ := fun W => mul_any xn xd cn cd W fx q2.fit
                rw [hu] at cu
                obtain ⟨⟨⟨vn, vd⟩, vc⟩, hv⟩ : ∃ r, mkF (an * cn) (ad * cd) = r := ⟨_, rfl⟩
                have cv : ∀ W, _ := fun W => mul_any an ad cn cd W q0.fit q2.fit
                rw [hv] at cv
                have fv := fit_mk hv
                obtain ⟨⟨⟨zn, zd⟩, zc⟩, hz⟩ : ∃ r, mkF (bn * cn) (bd * cd) = r := ⟨_, rfl⟩
                have cz : ∀ W, _ := fun W => mul_any bn bd cn cd W q1.fit q2.fit
                rw [hz] at cz
                have fz := fit_mk hz
                go_wp2_with (fail)
                refine (cu _).mono ?_
                rintro e w12 ⟨rfl, hB⟩
                replace L := Lib.hid (L.out.trans ((gN.trans (hB.mono gN.size)).mono L.out.size))
                replace kA := Lib.hid (stays kA.out hB)
                replace kB := Lib.hid (stays kB.out hB)
                replace kC := Lib.hid (stays kC.out hB)
                replace kX := Lib.hid (stays kX.out hB)
                replace kD := Lib.hid (stays kD.out hB)
                generalize w11.heap.size = xD at *
                clear gN
                clear hB A0 A1 B0 B1 C0 C1 X0 X1 D0 D1
                simp only [mkV]
                obtain ⟨gN, kU⟩ := box_new w12 (un) (ud)
                replace kA := Lib.hid (stays kA.out gN)
                replace kB := Lib.hid (stays kB.out gN)
                replace kC := Lib.hid (stays kC.out gN)
                replace kX := Lib.hid (stays kX.out gN)
                replace kD := Lib.hid (stays kD.out gN)
                replace kU := Lib.hid kU
                have A0 := frO_0 kA.out
                have A1 := frO_1 kA.out
                have B0 := frO_0 kB.out
                have B1 := frO_1 kB.out
                have C0 := frO_0 kC.out
                have C1 := frO_1 kC.out
                have X0 := frO_0 kX.out
                have X1 := frO_1 kX.out
                have D0 := frO_0 kD.out
                have D1 := frO_1 kD.out
                have U0 := frO_0 kU.out
                have U1 := frO_1 kU.out
                clear kD D0 D1
                go_wp2_with (fail)
                refine (cv _).mono ?_
                rintro e w13 ⟨rfl, hB⟩
                replace L := Lib.hid (L.out.trans ((gN.trans (hB.mono gN.size)).mono L.out.size))
                replace kA := Lib.hid (stays kA.out hB)
                replace kB := Lib.hid (stays kB.out hB)
                replace kC := Lib.hid (stays kC.out hB)
                replace kX := Lib.hid (stays kX.out hB)
                replace kU := Lib.hid (stays kU.out hB)
                generalize w12.heap.size = xU at *
                clear gN
                clear hB A0 A1 B0 B1 C0 C1 X0 X1 U0 U1
                simp only [mkV]
                obtain ⟨gN, kV⟩ := box_new w13 (vn) (vd)
                replace kA := Lib.hid (stays kA.out gN)
                replace kB := Lib.hid (stays kB.out gN)
                replace kC := Lib.hid (stays kC.out gN)
                replace kX := Lib.hid (stays kX.out gN)
                replace kU := Lib.hid (stays kU.out gN)
                replace kV := Lib.hid kV
                have A0 := frO_0 kA.out
                have A1 := frO_1 kA.out
                have B0 := frO_0 kB.out
                have B1 := frO_1 kB.out
                have C0 := frO_0 kC.out
                have C1 := frO_1 kC.out
                have X0 := frO_0 kX.out
                have X1 := frO_1 kX.out
                have U0 := frO_0 kU.out
                have U1 := frO_1 kU.out
                have V0 := frO_0 kV.out
                have V1 := frO_1 kV.out
                go_wp2_with (fail)
                refine (cz _).mono ?_
                rintro e w14 ⟨rfl, hB⟩
                replace L := Lib.hid (L.out.trans ((gN.trans (hB.mono gN.size)).mono L.out.size))
                replace kA := Lib.hid (stays kA.out hB)
                replace kB := Lib.hid (stays kB.out hB)
                replace kC := Lib.hid (stays kC.out hB)
                replace kX := Lib.hid (stays kX.out hB)
                replace kU := Lib.hid (stays kU.out hB)
                replace kV := Lib.hid (stays kV.out hB)
                generalize w13.heap.size = xV at *
                clear gN
                clear hB A0 A1 B0 B1 C0 C1 X0 X1 U0 U1 V0 V1
                simp only [mkV]
                obtain ⟨gN, kM⟩ := box_new w14 (zn) (zd)
                replace kA := Lib.hid (stays kA.out gN)
                replace kB := Lib.hid (stays kB.out gN)
                replace kC := Lib.hid (stays kC.out gN)
                replace kX := Lib.hid (stays kX.out gN)
                replace kU := Lib.hid (stays kU.out gN)
                replace kV := Lib.hid (stays kV.out gN)
                replace kM := Lib.hid kM
                have A0 := frO_0 kA.out
                have A1 := frO_1 kA.out
                have B0 := frO_0 kB.out
                have B1 := frO_1 kB.out
                have C0 := frO_0 kC.out
                have C1 := frO_1 kC.out
                have X0 := frO_0 kX.out
                have X1 := frO_1 kX.out
                have U0 := frO_0 kU.out
                have U1 := frO_1 kU.out
                have V0 := frO_0 kV.out
                have V1 := frO_1 kV.out
                have M0 := frO_0 kM.out
                have M1 := frO_1 kM.out
                by_cases hvc : vc = 0
                · subst hvc
                  by_cases hzc : zc = 0
                  · subst hzc
                    have hs := (distrib_mk p0 p1 p2 hab hv hz).symm.trans hu
                    have cs : ∀ W, _ := fun W => add_any vn vd zn zd W fv fz
                    rw [hs] at cs
                    go_wp2_with (fail)
                    refine (cs _).mono ?_
                    rintro e w15 ⟨rfl, hB⟩
                    replace L := Lib.hid (L.out.trans ((gN.trans (hB.mono gN.size)).mono L.out.size))
                    replace kA := Lib.hid (stays kA.out hB)
                    replace kB := Lib.hid (stays kB.out hB)
                    replace kC := Lib.hid (stays kC.out hB)
                    replace kX := Lib.hid (stays kX.out hB)
                    replace kU := Lib.hid (stays kU.out hB)
                    replace kV := Lib.hid (stays kV.out hB)
                    replace kM := Lib.hid (stays kM.out hB)
                    generalize w14.heap.size = xM at *
                    clear gN
                    clear hB A0 A1 B0 B1 C0 C1 X0 X1 U0 U1 V0 V1 M0 M1
                    simp only [mkV]
                    obtain ⟨gN, kS⟩ := box_new w15 (un) (ud)
                    replace kA := Lib.hid (stays kA.out gN)
                    replace kB := Lib.hid (stays kB.out gN)
                    replace kC := Lib.hid (stays kC.out gN)
                    replace kX := Lib.hid (stays kX.out gN)
                    replace kU := Lib.hid (stays kU.out gN)
                    replace kV := Lib.hid (stays kV.out gN)
                    replace kM := Lib.hid (stays kM.out gN)
                    replace kS := Lib.hid kS
                    have A0 := frO_0 kA.out
                    have A1 := frO_1 kA.out
                    have B0 := frO_0 kB.out
                    have B1 := frO_1 kB.out
                    have C0 := frO_0 kC.out
                    have C1 := frO_1 kC.out
                    have X0 := frO_0 kX.out
                    have X1 := frO_1 kX.out
                    have U0 := frO_0 kU.out
                    have U1 := frO_1 kU.out
                    have V0 := frO_0 kV.out
                    have V1 := frO_1 kV.out
                    have M0 := frO_0 kM.out
                    have M1 := frO_1 kM.out
                    have S0 := frO_0 kS.out
                    have S1 := frO_1 kS.out
                    go_wp2_with (fail)
                    refine (awake_any _ (ht.below (L.out.trans (gN.mono L.out.size)))).mono ?_
                    rintro e w16 ⟨rfl, hB⟩
                    replace L := Lib.hid (L.out.trans ((gN.trans (hB.mono gN.size)).mono L.out.size))
                    replace kA := Lib.hid (stays kA.out hB)
                    replace kB := Lib.hid (stays kB.out hB)
                    replace kC := Lib.hid (stays kC.out hB)
                    replace kX := Lib.hid (stays kX.out hB)
                    replace kU := Lib.hid (stays kU.out hB)
                    replace kV := Lib.hid (stays kV.out hB)
                    replace kM := Lib.hid (stays kM.out hB)
                    replace kS := Lib.hid (stays kS.out hB)
                    generalize w15.heap.size = xS at *
                    clear gN
                    clear hB A0 A1 B0 B1 C0 C1 X0 X1 U0 U1 V0 V1 M0 M1 S0 S1
                    have A0 := frO_0 kA.out
                    have A1 := frO_1 kA.out
                    have B0 := frO_0 kB.out
                    have B1 := frO_1 kB.out
                    have C0 := frO_0 kC.out
                    have C1 := frO_1 kC.out
                    have X0 := frO_0 kX.out
                    have X1 := frO_1 kX.out
                    have U0 := frO_0 kU.out
                    have U1 := frO_1 kU.out
                    have V0 := frO_0 kV.out
                    have V1 := frO_1 kV.out
                    have M0 := frO_0 kM.out
                    have M1 := frO_1 kM.out
                    have S0 := frO_0 kS.out
                    have S1 := frO_1 kS.out
                    go_wp2
                    go_ret
                    exact ⟨rfl, L.out⟩
                  · have zcb : (zc != 0) = true := by rw [bne_iff_ne]; exact hzc
                    have zce : (zc == 0) = false := by rw [beq_eq_false_iff_ne]; exact hzc
                    clear hzc
                    go_wp2_with (fail)
                    refine (awake_any _ (ht.below (L.out.trans (gN.mono L.out.size)))).mono ?_
                    rintro e w15 ⟨rfl, hB⟩
                    replace L := Lib.hid (L.out.trans ((gN.trans (hB.mono gN.size)).mono L.out.size))
                    replace kA := Lib.hid (stays kA.out hB)
                    replace kB := Lib.hid (stays kB.out hB)
                    replace kC := Lib.hid (stays kC.out hB)
                    replace kX := Lib.hid (stays kX.out hB)
                    replace kU := Lib.hid (stays kU.out hB)
                    replace kV := Lib.hid (stays kV.out hB)
                    replace kM := Lib.hid (stays kM.out hB)
                    generalize w14.heap.size = xM at *
                    clear gN
                    clear hB A0 A1 B0 B1 C0 C1 X0 X1 U0 U1 V0 V1 M0 M1
                    have A0 := frO_0 kA.out
                    have A1 := frO_1 kA.out
                    have B0 := frO_0 kB.out
                    have B1 := frO_1 kB.out
                    have C0 := frO_0 kC.out
                    have C1 := frO_1 kC.out
                    have X0 := frO_0 kX.out
                    have X1 := frO_1 kX.out
                    have U0 := frO_0 kU.out
                    have U1 := frO_1 kU.out
                    have V0 := frO_0 kV.out
                    have V1 := frO_1 kV.out
                    have M0 := frO_0 kM.out
                    have M1 := frO_1 kM.out
                    go_wp2
                    go_ret
                    exact ⟨rfl, L.out⟩
                · have vcb : (vc != 0) = true := by rw [bne_iff_ne]; exact hvc
                  have vce : (vc == 0) = false := by rw [beq_eq_false_iff_ne]; exact hvc
                  clear hvc
                  go_wp2_with (fail)
                  refine (awake_any _ (ht.below (L.out.trans (gN.mono L.out.size)))).mono ?_
                  rintro e w15 ⟨rfl, hB⟩
                  replace L := Lib.hid (L.out.trans ((gN.trans (hB.mono gN.size)).mono L.out.size))
                  replace kA := Lib.hid (stays kA.out hB)
                  replace kB := Lib.hid (stays kB.out hB)
                  replace kC := Lib.hid (stays kC.out hB)
                  replace kX := Lib.hid (stays kX.out hB)
                  replace kU := Lib.hid (stays kU.out hB)
                  replace kV := Lib.hid (stays kV.out hB)
                  replace kM := Lib.hid (stays kM.out hB)
                  generalize w14.heap.size = xM at *
                  clear gN
                  clear hB A0 A1 B0 B1 C0 C1 X0 X1 U0 U1 V0 V1 M0 M1
                  have A0 := frO_0 kA.out
                  have A1 := frO_1 kA.out
                  have B0 := frO_0 kB.out
                  have B1 := frO_1 kB.out
                  have C0 := frO_0 kC.out
                  have C1 := frO_1 kC.out
                  have X0 := frO_0 kX.out
                  have X1 := frO_1 kX.out
                  have U0 := frO_0 kU.out
                  have U1 := frO_1 kU.out
                  have V0 := frO_0 kV.out
                  have V1 := frO_1 kV.out
                  have M0 := frO_0 kM.out
                  have M1 := frO_1 kM.out
                  go_wp2
                  go_ret
                  exact ⟨rfl, L.out⟩
            · have pcb : (pc != 0) = true := by rw [bne_iff_ne]; exact hpc
              have pce : (pc == 0) = false := by rw [beq_eq_false_iff_ne]; exact hpc
              clear hpc
              obtain ⟨⟨⟨dn, dd⟩, dc⟩, hd⟩ : ∃ r, mkF (pn * bd) (pd * bn) = r := ⟨_, rfl⟩
              have cd0 : ∀ W, _ := fun W => div_any pn pd bn bd W fp q1.fit
              rw [hd] at cd0
              go_wp2_with (fail)
              refine (cd0 _).mono ?_
              rintro e w11 ⟨rfl, hB⟩
              replace L := Lib.hid (L.out.trans ((gN.trans (hB.mono gN.size)).mono L.out.size))
              replace kA := Lib.hid (stays kA.out hB)
              replace kB := Lib.hid (stays kB.out hB)
              replace kC := Lib.hid (stays kC.out hB)
              replace kX := Lib.hid (stays kX.out hB)
              replace kP := Lib.hid (stays kP.out hB)
              generalize w10.heap.size = xP at *
              clear gN
              clear hB A0 A1 B0 B1 C0 C1 X0 X1 P0 P1
              simp only [mkV]
              obtain ⟨gN, kD⟩ := box_new w11 (dn) (dd)
              replace kA := Lib.hid (stays kA.out gN)
              replace kB := Lib.hid (stays kB.out gN)
              replace kC := Lib.hid (stays kC.out gN)
              replace kX := Lib.hid (stays kX.out gN)
              replace kP := Lib.hid (stays kP.out gN)
              replace kD := Lib.hid kD
              have A0 := frO_0 kA.out
              have A1 := frO_1 kA.out
              have B0 := frO_0 kB.out
              have B1 := frO_1 kB.out
              have C0 := frO_0 kC.out
              have C1 := frO_1 kC.out
              have X0 := frO_0 kX.out
              have X1 := frO_1 kX.out
              have P0 := frO_0 kP.out
              have P1 := frO_1 kP.out
              have D0 := frO_0 kD.out
              have D1 := frO_1 kD.out
              clear kP P0 P1
              obtain ⟨⟨⟨un, ud⟩, uc⟩, hu⟩ : ∃ r, mkF (xn * cn) (xd * cd) = r := ⟨_, rfl⟩
              have cu : ∀ W, _ := fun W => mul_any xn xd cn cd W fx q2.fit
              rw [hu] at cu
              obtain ⟨⟨⟨vn, vd⟩, vc⟩, hv⟩ : ∃ r, mkF (an * cn) (ad * cd) = r := ⟨_, rfl⟩
              have cv : ∀ W, _ := fun W => mul_any an ad cn cd W q0.fit q2.fit
              rw [hv] at cv
              have fv := fit_mk hv
              obtain ⟨⟨⟨zn, zd⟩, zc⟩, hz⟩ : ∃ r, mkF (bn * cn) (bd * cd) = r := ⟨_, rfl⟩
              have cz : ∀ W, _ := fun W => mul_any bn bd cn cd W q1.fit q2.fit
              rw [hz] at cz
              have fz := fit_mk hz
              go_wp2_with (fail)
              refine (cu _).mono ?_
              rintro e w12 ⟨rfl, hB⟩
              replace L := Lib.hid (L.out.trans ((gN.trans (hB.mono gN.size)).mono L.out.size))
              replace kA := Lib.hid (stays kA.out hB)
              replace kB := Lib.hid (stays kB.out hB)
              replace kC := Lib.hid (stays kC.out hB)
              replace kX := Lib.hid (stays kX.out hB)
              replace kD := Lib.hid (stays kD.out hB)
              generalize w11.heap.size = xD at *
              clear gN
              clear hB A0 A1 B0 B1 C0 C1 X0 X1 D0 D1
              simp only [mkV]
              obtain ⟨gN, kU⟩ := box_new w12 (un) (ud)
              replace kA := Lib.hid (stays kA.out gN)
              replace kB := Lib.hid (stays kB.out gN)
              replace kC := Lib.hid (stays kC.out gN)
              replace kX := Lib.hid (stays kX.out gN)
              replace kD := Lib.hid (stays kD.out gN)
              replace kU := Lib.hid kU
              have A0 := frO_0 kA.out
              have A1 := frO_1 kA.out
              have B0 := frO_0 kB.out
              have B1 := frO_1 kB.out
              have C0 := frO_0 kC.out
              have C1 := frO_1 kC.out
              have X0 := frO_0 kX.out
              have X1 := frO_1 kX.out
              have D0 := frO_0 kD.out
              have D1 := frO_1 kD.out
              have U0 := frO_0 kU.out
              have U1 := frO_1 kU.out
              clear kD D0 D1
              go_wp2_with (fail)
              refine (cv _).mono ?_
              rintro e w13 ⟨rfl, hB⟩
              replace L := Lib.hid (L.out.trans ((gN.trans (hB.mono gN.size)).mono L.out.size))
              replace kA := Lib.hid (stays kA.out hB)
              replace kB := Lib.hid (stays kB.out hB)
              replace kC := Lib.hid (stays kC.out hB)
              replace kX := Lib.hid (stays kX.out hB)
              replace kU := Lib.hid (stays kU.out hB)
              generalize w12.heap.size = xU at *
              clear gN
              clear hB A0 A1 B0 B1 C0 C1 X0 X1 U0 U1
              simp only [mkV]
              obtain ⟨gN, kV⟩ := box_new w13 (vn) (vd)
              replace kA := Lib.hid (stays kA.out gN)
              replace kB := Lib.hid (stays kB.out gN)
              replace kC := Lib.hid (stays kC.out gN)
              replace kX := Lib.hid (stays kX.out gN)
              replace kU := Lib.hid (stays kU.out gN)
              replace kV := Lib.hid kV
              have A0 := frO_0 kA.out
              have A1 := frO_1 kA.out
              have B0 := frO_0 kB.out
              have B1 := frO_1 kB.out
              have C0 := frO_0 kC.out
              have C1 := frO_1 kC.out
              have X0 := frO_0 kX.out
              have X1 := frO_1 kX.out
              have U0 := frO_0 kU.out
              have U1 := frO_1 kU.out
              have V0 := frO_0 kV.out
              have V1 := frO_1 kV.out
              go_wp2_with (fail)
              refine (cz _).mono ?_
              rintro e w14 ⟨rfl, hB⟩
              replace L := Lib.hid (L.out.trans ((gN.trans (hB.mono gN.size)).mono L.out.size))
              replace kA := Lib.hid (stays kA.out hB)
              replace kB := Lib.hid (stays kB.out hB)
              replace kC := Lib.hid (stays kC.out hB)
              replace kX := Lib.hid (stays kX.out hB)
              replace kU := Lib.hid (stays kU.out hB)
              replace kV := Lib.hid (stays kV.out hB)
              generalize w13.heap.size = xV at *
              clear gN
              clear hB A0 A1 B0 B1 C0 C1 X0 X1 U0 U1 V0 V1
              simp only [mkV]
              obtain ⟨gN, kM⟩ := box_new w14 (zn) (zd)
              replace kA := Lib.hid (stays kA.out gN)
              replace kB := Lib.hid (stays kB.out gN)
              replace kC := Lib.hid (stays kC.out gN)
              replace kX := Lib.hid (stays kX.out gN)
              replace kU := Lib.hid (stays kU.out gN)
              replace kV := Lib.hid (stays kV.out gN)
              replace kM := Lib.hid kM
              have A0 := frO_0 kA.out
              have A1 := frO_1 kA.out
              have B0 := frO_0 kB.out
              have B1 := frO_1 kB.out
              have C0 := frO_0 kC.out
              have C1 := frO_1 kC.out
              have X0 := frO_0 kX.out
              have X1 := frO_1 kX.out
              have U0 := frO_0 kU.out
              have U1 := frO_1 kU.out
              have V0 := frO_0 kV.out
              have V1 := frO_1 kV.out
              have M0 := frO_0 kM.out
              have M1 := frO_1 kM.out
              by_cases hvc : vc = 0
              · subst hvc
                by_cases hzc : zc = 0
                · subst hzc
                  have hs := (distrib_mk p0 p1 p2 hab hv hz).symm.trans hu
                  have cs : ∀ W, _ := fun W => add_any vn vd zn zd W fv fz
                  rw [hs] at cs
                  go_wp2_with (fail)
                  refine (cs _).mono ?_
                  rintro e w15 ⟨rfl, hB⟩
                  replace L := Lib.hid (L.out.trans ((gN.trans (hB.mono gN.size)).mono L.out.size))
                  replace kA := Lib.hid (stays kA.out hB)
                  replace kB := Lib.hid (stays kB.out hB)
                  replace kC := Lib.hid (stays kC.out hB)
                  replace kX := Lib.hid (stays kX.out hB)
                  replace kU := Lib.hid (stays kU.out hB)
                  replace kV := Lib.hid (stays kV.out hB)
                  replace kM := Lib.hid (stays kM.out hB)
                  generalize w14.heap.size = xM at *
                  clear gN
                  clear hB A0 A1 B0 B1 C0 C1 X0 X1 U0 U1 V0 V1 M0 M1
                  simp only [mkV]
                  obtain ⟨gN, kS⟩ := box_new w15 (un) (ud)
                  replace kA := Lib.hid (stays kA.out gN)
                  replace kB := Lib.hid (stays kB.out gN)
                  replace kC := Lib.hid (stays kC.out gN)
                  replace kX := Lib.hid (stays kX.out gN)
                  replace kU := Lib.hid (stays kU.out gN)
                  replace kV := Lib.hid (stays kV.out gN)
                  replace kM := Lib.hid (stays kM.out gN)
                  replace kS := Lib.hid kS
                  have A0 := frO_0 kA.out
                  have A1 := frO_1 kA.out
                  have B0 := frO_0 kB.out
                  have B1 := frO_1 kB.out
                  have C0 := frO_0 kC.out
                  have C1 := frO_1 kC.out
                  have X0 := frO_0 kX.out
                  have X1 := frO_1 kX.out
                  have U0 := frO_0 kU.out
                  have U1 := frO_1 kU.out
                  have V0 := frO_0 kV.out
                  have V1 := frO_1 kV.out
                  have M0 := frO_0 kM.out
                  have M1 := frO_1 kM.out
                  have S0 := frO_0 kS.out
                  have S1 := frO_1 kS.out
                  go_wp2_with (fail)
                  refine (awake_any _ (ht.below (L.out.trans (gN.mono L.out.size)))).mono ?_
                  rintro e w16 ⟨rfl, hB⟩
                  replace L := Lib.hid (L.out.trans ((gN.trans (hB.mono gN.size)).mono L.out.size))
                  replace kA := Lib.hid (stays kA.out hB)
                  replace kB := Lib.hid (stays kB.out hB)
                  replace kC := Lib.hid (stays kC.out hB)
                  replace kX := Lib.hid (stays kX.out hB)
                  replace kU := Lib.hid (stays kU.out hB)
                  replace kV := Lib.hid (stays kV.out hB)
                  replace kM := Lib.hid (stays kM.out hB)
                  replace kS := Lib.hid (stays kS.out hB)
                  generalize w15.heap.size = xS at *
                  clear gN
                  clear hB A0 A1 B0 B1 C0 C1 X0 X1 U0 U1 V0 V1 M0 M1 S0 S1
                  have A0 := frO_0 kA.out
                  have A1 := frO_1 kA.out
                  have B0 := frO_0 kB.out
                  have B1 := frO_1 kB.out
                  have C0 := frO_0 kC.out
                  have C1 := frO_1 kC.out
                  have X0 := frO_0 kX.out
                  have X1 := frO_1 kX.out
                  have U0 := frO_0 kU.out
                  have U1 := frO_1 kU.out
                  have V0 := frO_0 kV.out
                  have V1 := frO_1 kV.out
                  have M0 := frO_0 kM.out
                  have M1 := frO_1 kM.out
                  have S0 := frO_0 kS.out
                  have S1 := frO_1 kS.out
                  go_wp2
                  go_ret
                  exact ⟨rfl, L.out⟩
                · have zcb : (zc != 0) = true := by rw [bne_iff_ne]; exact hzc
                  have zce : (zc == 0) = false := by rw [beq_eq_false_iff_ne]; exact hzc
                  clear hzc
                  go_wp2_with (fail)
                  refine (awake_any _ (ht.below (L.out.trans (gN.mono L.out.size)))).mono ?_
                  rintro e w15 ⟨rfl, hB⟩
                  replace L := Lib.hid (L.out.trans ((gN.trans (hB.mono gN.size)).mono L.out.size))
                  replace kA := Lib.hid (stays kA.out hB)
                  replace kB := Lib.hid (stays kB.out hB)
                  replace kC := Lib.hid (stays kC.out hB)
                  replace kX := Lib.hid (stays kX.out hB)
                  replace kU := Lib.hid (stays kU.out hB)
                  replace kV := Lib.hid (stays kV.out hB)
                  replace kM := Lib.hid (stays kM.out hB)
                  generalize w14.heap.size = xM at *
                  clear gN
                  clear hB A0 A1 B0 B1 C0 C1 X0 X1 U0 U1 V0 V1 M0 M1
                  have A0 := frO_0 kA.out
                  have A1 := frO_1 kA.out
                  have B0 := frO_0 kB.out
                  have B1 := frO_1 kB.out
                  have C0 := frO_0 kC.out
                  have C1 := frO_1 kC.out
                  have X0 := frO_0 kX.out
                  have X1 := frO_1 kX.out
                  have U0 := frO_0 kU.out
                  have U1 := frO_1 kU.out
                  have V0 := frO_0 kV.out
                  have V1 := frO_1 kV.out
                  have M0 := frO_0 kM.out
                  have M1 := frO_1 kM.out
                  go_wp2
                  go_ret
                  exact ⟨rfl, L.out⟩
              · have vcb : (vc != 0) = true := by rw [bne_iff_ne]; exact hvc
                have vce : (vc == 0) = false := by rw [beq_eq_false_iff_ne]; exact hvc
                clear hvc
                go_wp2_with (fail)
                refine (awake_any _ (ht.below (L.out.trans (gN.mono L.out.size)))).mono ?_
                rintro e w15 ⟨rfl, hB⟩
                replace L := Lib.hid (L.out.trans ((gN.trans (hB.mono gN.size)).mono L.out.size))
                replace kA := Lib.hid (stays kA.out hB)
                replace kB := Lib.hid (stays kB.out hB)
                replace kC := Lib.hid (stays kC.out hB)
                replace kX := Lib.hid (stays kX.out hB)
                replace kU := Lib.hid (stays kU.out hB)
                replace kV := Lib.hid (stays kV.out hB)
                replace kM := Lib.hid (stays kM.out hB)
                generalize w14.heap.size = xM at *
                clear gN
                clear hB A0 A1 B0 B1 C0 C1 X0 X1 U0 U1 V0 V1 M0 M1
                have A0 := frO_0 kA.out
                have A1 := frO_1 kA.out
                have B0 := frO_0 kB.out
                have B1 := frO_1 kB.out
                have C0 := frO_0 kC.out
                have C1 := frO_1 kC.out
                have X0 := frO_0 kX.out
                have X1 := frO_1 kX.out
                have U0 := frO_0 kU.out
                have U1 := frO_1 kU.out
                have V0 := frO_0 kV.out
                have V1 := frO_1 kV.out
                have M0 := frO_0 kM.out
                have M1 := frO_1 kM.out
                go_wp2
                go_ret
                exact ⟨rfl, L.out⟩
          · have ycb : (yc != 0) = true := by rw [bne_iff_ne]; exact hyc
            have yce : (yc == 0) = false := by rw [beq_eq_false_iff_ne]; exact hyc
            clear hyc
            obtain ⟨⟨⟨rn, rd⟩, rc⟩, hr⟩ : ∃ r, mkF (an * yd + yn * ad) (ad * yd) = r := ⟨_, rfl⟩
            have cr : ∀ W, _ := fun W => add_any an ad yn yd W q0.fit fy
            rw [hr] at cr
            go_wp2_with (fail)
            refine (cr _).mono ?_
            rintro e w8 ⟨rfl, hB⟩
            replace L := Lib.hid (L.out.trans ((gN.trans (hB.mono gN.size)).mono L.out.size))
            replace kA := Lib.hid (stays kA.out hB)
            replace kB := Lib.hid (stays kB.out hB)
            replace kC := Lib.hid (stays kC.out hB)
            replace kX := Lib.hid (stays kX.out hB)
            replace kZ := Lib.hid (stays kZ.out hB)
            replace kU := Lib.hid (stays kU.out hB)
            generalize w7.heap.size = xU at *
            clear gN
            clear hB A0 A1 B0 B1 C0 C1 X0 X1 Z0 Z1 U0 U1
            simp only [mkV]
            obtain ⟨gN, kR⟩ := box_new w8 (rn) (rd)
            replace kA := Lib.hid (stays kA.out gN)
            replace kB := Lib.hid (stays kB.out gN)
            replace kC := Lib.hid (stays kC.out gN)
            replace kX := Lib.hid (stays kX.out gN)
            replace kZ := Lib.hid (stays kZ.out gN)
            replace kU := Lib.hid (stays kU.out gN)
            replace kR := Lib.hid kR
            have A0 := frO_0 kA.out
            have A1 := frO_1 kA.out
            have B0 := frO_0 kB.out
            have B1 := frO_1 kB.out
            have C0 := frO_0 kC.out
            have C1 := frO_1 kC.out
            have X0 := frO_0 kX.out
            have X1 := frO_1 kX.out
            have Z0 := frO_0 kZ.out
            have Z1 := frO_1 kZ.out
            have U0 := frO_0 kU.out
            have U1 := frO_1 kU.out
            have R0 := frO_0 kR.out
            have R1 := frO_1 kR.out
            clear kZ Z0 Z1
            have hsb := sub_back_mk q0 p1 hab
            have csb : ∀ W, _ := fun W => sub_any xn xd bn bd W fx q1.fit
            rw [hsb] at csb
            go_wp2_with (fail)
            refine (csb _).mono ?_
            rintro e w9 ⟨rfl, hB⟩
            replace L := Lib.hid (L.out.trans ((gN.trans (hB.mono gN.size)).mono L.out.size))
            replace kA := Lib.hid (stays kA.out hB)
            replace kB := Lib.hid (stays kB.out hB)
            replace kC := Lib.hid (stays kC.out hB)
            replace kX := Lib.hid (stays kX.out hB)
            replace kU := Lib.hid (stays kU.out hB)
            replace kR := Lib.hid (stays kR.out hB)
            generalize w8.heap.size = xR at *
            clear gN
            clear hB A0 A1 B0 B1 C0 C1 X0 X1 U0 U1 R0 R1
            simp only [mkV]
            obtain ⟨gN, kS⟩ := box_new w9 (an) (ad)
            replace kA := Lib.hid (stays kA.out gN)
            replace kB := Lib.hid (stays kB.out gN)
            replace kC := Lib.hid (stays kC.out gN)
            replace kX := Lib.hid (stays kX.out gN)
            replace kU := Lib.hid (stays kU.out gN)
            replace kR := Lib.hid (stays kR.out gN)
            replace kS := Lib.hid kS
            have A0 := frO_0 kA.out
            have A1 := frO_1 kA.out
            have B0 := frO_0 kB.out
            have B1 := frO_1 kB.out
            have C0 := frO_0 kC.out
            have C1 := frO_1 kC.out
            have X0 := frO_0 kX.out
            have X1 := frO_1 kX.out
            have U0 := frO_0 kU.out
            have U1 := frO_1 kU.out
            have R0 := frO_0 kR.out
            have R1 := frO_1 kR.out
            have S0 := frO_0 kS.out
            have S1 := frO_1 kS.out
            clear kU U0 U1
            clear kR R0 R1
            obtain ⟨⟨⟨pn, pd⟩, pc⟩, hp⟩ : ∃ r, mkF (an * bn) (ad * bd) = r := ⟨_, rfl⟩
            have cp : ∀ W, _ := fun W => mul_any an ad bn bd W q0.fit q1.fit
            rw [hp] at cp
            have fp := fit_mk hp
            go_wp2_with (fail)
            refine (cp _).mono ?_
            rintro e w10 ⟨rfl, hB⟩
            replace L := Lib.hid (L.out.trans ((gN.trans (hB.mono gN.size)).mono L.out.size))
            replace kA := Lib.hid (stays kA.out hB)
            replace kB := Lib.hid (stays kB.out hB)
            replace kC := Lib.hid (stays kC.out hB)
            replace kX := Lib.hid (stays kX.out hB)
            replace kS := Lib.hid (stays kS.out hB)
            generalize w9.heap.size = xS at *
            clear gN
            clear hB A0 A1 B0 B1 C0 C1 X0 X1 S0 S1
            simp only [mkV]
            obtain ⟨gN, kP⟩ := box_new w10 (pn) (pd)
            replace kA := Lib.hid (stays kA.out gN)
            replace kB := Lib.hid (stays kB.out gN)
            replace kC := Lib.hid (stays kC.out gN)
            replace kX := Lib.hid (stays kX.out gN)
            replace kS := Lib.hid (stays kS.out gN)
            replace kP := Lib.hid kP
            have A0 := frO_0 kA.out
            have A1 := frO_1 kA.out
            have B0 := frO_0 kB.out
            have B1 := frO_1 kB.out
            have C0 := frO_0 kC.out
            have C1 := frO_1 kC.out
            have X0 := frO_0 kX.out
            have X1 := frO_1 kX.out
            have S0 := frO_0 kS.out
            have S1 := frO_1 kS.out
            have P0 := frO_0 kP.out
            have P1 := frO_1 kP.out
            clear kS S0 S1
            by_cases hpc : pc = 0
            · subst hpc
              by_cases hbn : bn = 0
              · have hbb : (bn != 0) = false := by rw [hbn]; rfl
                clear hbn
                obtain ⟨⟨⟨dn, dd⟩, dc⟩, hd⟩ : ∃ r, mkF (pn * bd) (pd * bn) = r := ⟨_, rfl⟩
                have cd0 : ∀ W, _ := fun W => div_any pn pd bn bd W fp q1.fit
                rw [hd] at cd0
                go_wp2_with (fail)
                refine (cd0 _).mono ?_
                rintro e w11 ⟨rfl, hB⟩
                replace L := Lib.hid (L.out.trans ((gN.trans (hB.mono gN.size)).mono L.out.size))
                replace kA := Lib.hid (stays kA.out hB)
                replace kB := Lib.hid (stays kB.out hB)
                replace kC := Lib.hid (stays kC.out hB)
                replace kX := Lib.hid (stays kX.out hB)
                replace kP := Lib.hid (stays kP.out hB)
                generalize w10.heap.size = xP at *
                clear gN
                clear hB A0 A1 B0 B1 C0 C1 X0 X1 P0 P1
                simp only [mkV]
                obtain ⟨gN, kD⟩ := box_new w11 (dn) (dd)
                replace kA := Lib.hid (stays kA.out gN)
                replace kB := Lib.hid (stays kB.out gN)
                replace kC := Lib.hid (stays kC.out gN)
                replace kX := Lib.hid (stays kX.out gN)
                replace kP := Lib.hid (stays kP.out gN)
                replace kD := Lib.hid kD
                have A0 := frO_0 kA.out
                have A1 := frO_1 kA.out
                have B0 := frO_0 kB.out
                have B1 := frO_1 kB.out
                have C0 := frO_0 kC.out
                have C1 := frO_1 kC.out
                have X0 := frO_0 kX.out
                have X1 := frO_1 kX.out
                have P0 := frO_0 kP.out
                have P1 := frO_1 kP.out
                have D0 := frO_0 kD.out
                have D1 := frO_1 kD.out
                clear kP P0 P1
                obtain ⟨⟨⟨un, ud⟩, uc⟩, hu⟩ : ∃ r, mkF (xn * cn) (xd * cd) = r := ⟨_, rfl⟩
                have cu : ∀ W, _ := fun W => mul_any xn xd cn cd W fx q2.fit
                rw [hu] at cu
                obtain ⟨⟨⟨vn, vd⟩, vc⟩, hv⟩ : ∃ r, mkF (an * cn) (ad * cd) = r := ⟨_, rfl⟩
                have cv : ∀ W, _ := fun W => mul_any an ad cn cd W q0.fit q2.fit
                rw [hv] at cv
                have fv := fit_mk hv
                obtain ⟨⟨⟨zn, zd⟩, zc⟩, hz⟩ : ∃ r, mkF (bn * cn) (bd * cd) = r := ⟨_, rfl⟩
                have cz : ∀ W, _ := fun W => mul_any bn bd cn cd W q1.fit q2.fit
                rw [hz] at cz
                have fz := fit_mk hz
                go_wp2_with (fail)
                refine (cu _).mono ?_
                rintro e w12 ⟨rfl, hB⟩
                replace L := Lib.hid (L.out.trans ((gN.trans (hB.mono gN.size)).mono L.out.size))
                replace kA := Lib.hid (stays kA.out hB)
                replace kB := Lib.hid (stays kB.out hB)
                replace kC := Lib.hid (stays kC.out hB)
                replace kX := Lib.hid (stays kX.out hB)
                replace kD := Lib.hid (stays kD.out hB)
                generalize w11.heap.size = xD at *
                clear gN
                clear hB A0 A1 B0 B1 C0 C1 X0 X1 D0 D1
                simp only [mkV]
                obtain ⟨gN, kU⟩ := box_new w12 (un) (ud)
                replace kA := Lib.hid (stays kA.out gN)
                replace kB := Lib.hid (stays kB.out gN)
                replace kC := Lib.hid (stays kC.out gN)
                replace kX := Lib.hid (stays kX.out gN)
                replace kD := Lib.hid (stays kD.out gN)
                replace kU := Lib.hid kU
                have A0 := frO_0 kA.out
                have A1 := frO_1 kA.out
                have B0 := frO_0 kB.out
                have B1 := frO_1 kB.out
                have C0 := frO_0 kC.out
                have C1 := frO_1 kC.out
                have X0 := frO_0 kX.out
                have X1 := frO_1 kX.out
                have D0 := frO_0 kD.out
                have D1 := frO_1 kD.out
                have U0 := frO_0 kU.out
                have U1 := frO_1 kU.out
                clear kD D0 D1
                go_wp2_with (fail)
                refine (cv _).mono ?_
                rintro e w13 ⟨rfl, hB⟩
                replace L := Lib.hid (L.out.trans ((gN.trans (hB.mono gN.size)).mono L.out.size))
                replace kA := Lib.hid (stays kA.out hB)
                replace kB := Lib.hid (stays kB.out hB)
                replace kC := Lib.hid (stays kC.out hB)
                replace kX := Lib.hid (stays kX.out hB)
                replace kU := Lib.hid (stays kU.out hB)
                generalize w12.heap.size = xU at *
                clear gN
                clear hB A0 A1 B0 B1 C0 C1 X0 X1 U0 U1
                simp only [mkV]
                obtain ⟨gN, kV⟩ := box_new w13 (vn) (vd)
                replace kA := Lib.hid (stays kA.out gN)
                replace kB := Lib.hid (stays kB.out gN)
                replace kC := Lib.hid (stays kC.out gN)
                replace kX := Lib.hid (stays kX.out gN)
                replace kU := Lib.hid (stays kU.out gN)
                replace kV := Lib.hid kV
                have A0 := frO_0 kA.out
                have A1 := frO_1 kA.out
                have B0 := frO_0 kB.out
                have B1 := frO_1 kB.out
                have C0 := frO_0 kC.out
                have C1 := frO_1 kC.out
                have X0 := frO_0 kX.out
                have X1 := frO_1 kX.out
                have U0 := frO_0 kU.out
                have U1 := frO_1 kU.out
                have V0 := frO_0 kV.out
                have V1 := frO_1 kV.out
                go_wp2_with (fail)
                refine (cz _).mono ?_
                rintro e w14 ⟨rfl, hB⟩
                replace L := Lib.hid (L.out.trans ((gN.trans (hB.mono gN.size)).mono L.out.size))
                replace kA := Lib.hid (stays kA.out hB)
                replace kB := Lib.hid (stays kB.out hB)
                replace kC := Lib.hid (stays kC.out hB)
                replace kX := Lib.hid (stays kX.out hB)
                replace kU := Lib.hid (stays kU.out hB)
                replace kV := Lib.hid (stays kV.out hB)
                generalize w13.heap.size = xV at *
                clear gN
                clear hB A0 A1 B0 B1 C0 C1 X0 X1 U0 U1 V0 V1
                simp only [mkV]
                obtain ⟨gN, kM⟩ := box_new w14 (zn) (zd)
                replace kA := Lib.hid (stays kA.out gN)
                replace kB := Lib.hid (stays kB.out gN)
                replace kC := Lib.hid (stays kC.out gN)
                replace kX := Lib.hid (stays kX.out gN)
                replace kU := Lib.hid (stays kU.out gN)
                replace kV := Lib.hid (stays kV.out gN)
                replace kM := Lib.hid kM
                have A0 := frO_0 kA.out
                have A1 := frO_1 kA.out
                have B0 := frO_0 kB.out
                have B1 := frO_1 kB.out
                have C0 := frO_0 kC.out
                have C1 := frO_1 kC.out
                have X0 := frO_0 kX.out
                have X1 := frO_1 kX.out
                have U0 := frO_0 kU.out
                have U1 := frO_1 kU.out
                have V0 := frO_0 kV.out
                have V1 := frO_1 kV.out
                have M0 := frO_0 kM.out
                have M1 := frO_1 kM.out
                by_cases hvc : vc = 0
                · subst hvc
                  by_cases hzc : zc = 0
                  · subst hzc
                    have hs := (distrib_mk p0 p1 p2 hab hv hz).symm.trans hu
                    have cs : ∀ W, _ := fun W => add_any vn vd zn zd W fv fz
                    rw [hs] at cs
                    go_wp2_with (fail)
                    refine (cs _).mono ?_
                    rintro e w15 ⟨rfl, hB⟩
                    replace L := Lib.hid (L.out.trans ((gN.trans (hB.mono gN.size)).mono L.out.size))
                    replace kA := Lib.hid (stays kA.out hB)
                    replace kB := Lib.hid (stays kB.out hB)
                    replace kC := Lib.hid (stays kC.out hB)
                    replace kX := Lib.hid (stays kX.out hB)
                    replace kU := Lib.hid (stays kU.out hB)
                    replace kV := Lib.hid (stays kV.out hB)
                    replace kM := Lib.hid (stays kM.out hB)
                    generalize w14.heap.size = xM at *
                    clear gN
                    clear hB A0 A1 B0 B1 C0 C1 X0 X1 U0 U1 V0 V1 M0 M1
                    simp only [mkV]
                    obtain ⟨gN, kS⟩ := box_new w15 (un) (ud)
                    replace kA := Lib.hid (stays kA.out gN)
                    replace kB := Lib.hid (stays kB.out gN)
                    replace kC := Lib.hid (stays kC.out gN)
                    replace kX := Lib.hid (stays kX.out gN)
                    replace kU := Lib.hid (stays kU.out gN)
                    replace kV := Lib.hid (stays kV.out gN)
                    replace kM := Lib.hid (stays kM.out gN)
                    replace kS := Lib.hid kS
                    have A0 := frO_0 kA.out
                    have A1 := frO_1 kA.out
                    have B0 := frO_0 kB.out
                    have B1 := frO_1 kB.out
                    have C0 := frO_0 kC.out
                    have C1 := frO_1 kC.out
                    have X0 := frO_0 kX.out
                    have X1 := frO_1 kX.out
                    have U0 := frO_0 kU.out
                    have U1 := frO_1 kU.out
                    have V0 := frO_0 kV.out
                    have V1 := frO_1 kV.out
                    have M0 := frO_0 kM.out
                    have M1 := frO_1 kM.out
                    have S0 := frO_0 kS.out
                    have S1 := frO_1 kS.out
                    go_wp2_with (fail)
                    refine (awake_any _ (ht.below (L.out.trans (gN.mono L.out.size)))).mono ?_
                    rintro e w16 ⟨rfl, hB⟩
                    replace L := Lib.hid (L.out.trans ((gN.trans (hB.mono gN.size)).mono L.out.size))
                    replace kA := Lib.hid (stays kA.out hB)
                    replace kB := Lib.hid (stays kB.out hB)
                    replace kC := Lib.hid (stays kC.out hB)
                    replace kX := Lib.hid (stays kX.out hB)
                    replace kU := Lib.hid (stays kU.out hB)
                    replace kV := Lib.hid (stays kV.out hB)
                    replace kM := Lib.hid (stays kM.out hB)
                    replace kS := Lib.hid (stays kS.out hB)
                    generalize w15.heap.size = xS at *
                    clear gN
                    clear hB A0 A1 B0 B1 C0 C1 X0 X1 U0 U1 V0 V1 M0 M1 S0 S1
                    have A0 := frO_0 kA.out
                    have A1 := frO_1 kA.out
                    have B0 := frO_0 kB.out
                    have B1 := frO_1 kB.out
                    have C0 := frO_0 kC.out
                    have C1 := frO_1 kC.out
                    have X0 := frO_0 kX.out
                    have X1 := frO_1 kX.out
                    have U0 := frO_0 kU.out
                    have U1 := frO_1 kU.out
                    have V0 := frO_0 kV.out
                    have V1 := frO_1 kV.out
                    have M0 := frO_0 kM.out
                    have M1 := frO_1 kM.out
                    have S0 := frO_0 kS.out
                    have S1 := frO_1 kS.out
                    go_wp2
                    go_ret
                    exact ⟨rfl, L.out⟩
                  · have zcb : (zc != 0) = true := by rw [bne_iff_ne]; exact hzc
                    have zce : (zc == 0) = false := by rw [beq_eq_false_iff_ne]; exact hzc
                    clear hzc
                    go_wp2_with (fail)
                    refine (awake_any _ (ht.below (L.out.trans (gN.mono L.out.size)))).mono ?_
                    rintro e w15 ⟨rfl, hB⟩
                    replace L := Lib.hid (L.out.trans ((gN.trans (hB.mono gN.size)).mono L.out.size))
                    replace kA := Lib.hid (stays kA.out hB)
                    replace kB := Lib.hid (stays kB.out hB)
                    replace kC := Lib.hid (stays kC.out hB)
                    replace kX := Lib.hid (stays kX.out hB)
                    replace kU := Lib.hid (stays kU.out hB)
                    replace kV := Lib.hid (stays kV.out hB)
                    replace kM := Lib.hid (stays kM.out hB)
                    generalize w14.heap.size = xM at *
                    clear gN
                    clear hB A0 A1 B0 B1 C0 C1 X0 X1 U0 U1 V0 V1 M0 M1
                    have A0 := frO_0 kA.out
                    have A1 := frO_1 kA.out
                    have B0 := frO_0 kB.out
                    have B1 := frO_1 kB.out
                    have C0 := frO_0 kC.out
                    have C1 := frO_1 kC.out
                    have X0 := frO_0 kX.out
                    have X1 := frO_1 kX.out
                    have U0 := frO_0 kU.out
                    have U1 := frO_1 kU.out
                    have V0 := frO_0 kV.out
                    have V1 := frO_1 kV.out
                    have M0 := frO_0 kM.out
                    have M1 := frO_1 kM.out
                    go_wp2
                    go_ret
                    exact ⟨rfl, L.out⟩
                · have vcb : (vc != 0) = true := by rw [bne_iff_ne]; exact hvc
                  have vce : (vc == 0) = false := by rw [beq_eq_false_iff_ne]; exact hvc
                  clear hvc
                  go_wp2_with (fail)
                  refine (awake_any _ (ht.below (L.out.trans (gN.mono L.out.size)))).mono ?_
                  rintro e w15 ⟨rfl, hB⟩
                  replace L := Lib.hid (L.out.trans ((gN.trans (hB.mono gN.size)).mono L.out.size))
                  replace kA := Lib.hid (stays kA.out hB)
                  replace kB := Lib.hid (stays kB.out hB)
                  replace kC := Lib.hid (stays kC.out hB)
                  replace kX := Lib.hid (stays kX.out hB)
                  replace kU := Lib.hid (stays kU.out hB)
                  replace kV := Lib.hid (stays kV.out hB)
                  replace kM := Lib.hid (stays kM.out hB)
                  generalize w14.heap.size = xM at *
                  clear gN
                  clear hB A0 A1 B0 B1 C0 C1 X0 X1 U0 U1 V0 V1 M0 M1
                  have A0 := frO_0 kA.out
                  have A1 := frO_1 kA.out
                  have B0 := frO_0 kB.out
                  have B1 := frO_1 kB.out
                  have C0 := frO_0 kC.out
                  have C1 := frO_1 kC.out
                  have X0 := frO_0 kX.out
                  have X1 := frO_1 kX.out
                  have U0 := frO_0 kU.out
                  have U1 := frO_1 kU.out
                  have V0 := frO_0 kV.out
                  have V1 := frO_1 kV.out
                  have M0 := frO_0 kM.out
                  have M1 := frO_1 kM.out
                  go_wp2
                  go_ret
                  exact ⟨rfl, L.out⟩
              · skip
                have hd := div_back_mk q0 hbn hp
                have cd0 : ∀ W, _ := fun W => div_any pn pd bn bd W fp q1.fit
                rw [hd] at cd0
                have hbb : (bn != 0) = true := by rw [bne_iff_ne]; exact hbn
                clear hbn
                go_wp2_with (fail)
                refine (cd0 _).mono ?_
                rintro e w11 ⟨rfl, hB⟩
                replace L := Lib.hid (L.out.trans ((gN.trans (hB.mono gN.size)).mono L.out.size))
                replace kA := Lib.hid (stays kA.out hB)
                replace kB := Lib.hid (stays kB.out hB)
                replace kC := Lib.hid (stays kC.out hB)
                replace kX := Lib.hid (stays kX.out hB)
                replace kP := Lib.hid (stays kP.out hB)
                generalize w10.heap.size = xP at *
                clear gN
                clear hB A0 A1 B0 B1 C0 C1 X0 X1 P0 P1
                simp only [mkV]
                obtain ⟨gN, kD⟩ := box_new w11 (an) (ad)
                replace kA := Lib.hid (stays kA.out gN)
                replace kB := Lib.hid (stays kB.out gN)
                replace kC := Lib.hid (stays kC.out gN)
                replace kX := Lib.hid (stays kX.out gN)
                replace kP := Lib.hid (stays kP.out gN)
                replace kD := Lib.hid kD
                have A0 := frO_0 kA.out
                have A1 := frO_1 kA.out
                have B0 := frO_0 kB.out
                have B1 := frO_1 kB.out
                have C0 := frO_0 kC.out
                have C1 := frO_1 kC.out
                have X0 := frO_0 kX.out
                have X1 := frO_1 kX.out
                have P0 := frO_0 kP.out
                have P1 := frO_1 kP.out
                have D0 := frO_0 kD.out
                have D1 := frO_1 kD.out
                clear kP P0 P1
                obtain ⟨⟨⟨un, ud⟩, uc⟩, hu⟩ : ∃ r, mkF (xn * cn) (xd * cd) = r := ⟨_, rfl⟩
                have cu : ∀ W, _ := fun W => mul_any xn xd cn cd W fx q2.fit
                rw [hu] at cu
                obtain ⟨⟨⟨vn, vd⟩, vc⟩, hv⟩ : ∃ r, mkF (an * cn) (ad * cd) = r := ⟨_, rfl⟩
                have cv : ∀ W, _ := fun W => mul_any an ad cn cd W q0.fit q2.fit
                rw [hv] at cv
                have fv := fit_mk hv
                obtain ⟨⟨⟨zn, zd⟩, zc⟩, hz⟩ : ∃ r, mkF (bn * cn) (bd * cd) = r := ⟨_, rfl⟩
                have cz : ∀ W, _ := fun W => mul_any bn bd cn cd W q1.fit q2.fit
                rw [hz] at cz
                have fz := fit_mk hz
                go_wp2_with (fail)
                refine (cu _).mono ?_
                rintro e w12 ⟨rfl, hB⟩
                replace L := Lib.hid (L.out.trans ((gN.trans (hB.mono gN.size)).mono L.out.size))
                replace kA := Lib.hid (stays kA.out hB)
                replace kB := Lib.hid (stays kB.out hB)
                replace kC := Lib.hid (stays kC.out hB)
                replace kX := Lib.hid (stays kX.out hB)
                replace kD := Lib.hid (stays kD.out hB)
                generalize w11.heap.size = xD at *
                clear gN
                clear hB A0 A1 B0 B1 C0 C1 X0 X1 D0 D1
                simp only [mkV]
                obtain ⟨gN, kU⟩ := box_new w12 (un) (ud)
                replace kA := Lib.hid (stays kA.out gN)
                replace kB := Lib.hid (stays kB.out gN)
                replace kC := Lib.hid (stays kC.out gN)
                replace kX := Lib.hid (stays kX.out gN)
                replace kD := Lib.hid (stays kD.out gN)
                replace kU := Lib.hid kU
                have A0 := frO_0 kA.out
                have A1 := frO_1 kA.out
                have B0 := frO_0 kB.out
                have B1 := frO_1 kB.out
                have C0 := frO_0 kC.out
                have C1 := frO_1 kC.out
                have X0 := frO_0 kX.out
                have X1 := frO_1 kX.out
                have D0 := frO_0 kD.out
                have D1 := frO_1 kD.out
                have U0 := frO_0 kU.out
                have U1 := frO_1 kU.out
                clear kD D0 D1
                go_wp2_with (fail)
                refine (cv _).mono ?_
                rintro e w13 ⟨rfl, hB⟩
                replace L := Lib.hid (L.out.trans ((gN.trans (hB.mono gN.size)).mono L.out.size))
                replace kA := Lib.hid (stays kA.out hB)
                replace kB := Lib.hid (stays kB.out hB)
                replace kC := Lib.hid (stays kC.out hB)
                replace kX := Lib.hid (stays kX.out hB)
                replace kU := Lib.hid (stays kU.out hB)
                generalize w12.heap.size = xU at *
                clear gN
                clear hB A0 A1 B0 B1 C0 C1 X0 X1 U0 U1
                simp only [mkV]
                obtain ⟨gN, kV⟩ := box_new w13 (vn) (vd)
                replace kA := Lib.hid (stays kA.out gN)
                replace kB := Lib.hid (stays kB.out gN)
                replace kC := Lib.hid (stays kC.out gN)
                replace kX := Lib.hid (stays kX.out gN)
                replace kU := Lib.hid (stays kU.out gN)
                replace kV := Lib.hid kV
                have A0 := frO_0 kA.out
                have A1 := frO_1 kA.out
                have B0 := frO_0 kB.out
                have B1 := frO_1 kB.out
                have C0 := frO_0 kC.out
                have C1 := frO_1 kC.out
                have X0 := frO_0 kX.out
                have X1 := frO_1 kX.out
                have U0 := frO_0 kU.out
                have U1 := frO_1 kU.out
                have V0 := frO_0 kV.out
                have V1 := frO_1 kV.out
                go_wp2_with (fail)
                refine (cz _).mono ?_
                rintro e w14 ⟨rfl, hB⟩
                replace L := Lib.hid (L.out.trans ((gN.trans (hB.mono gN.size)).mono L.out.size))
                replace kA := Lib.hid (stays kA.out hB)
                replace kB := Lib.hid (stays kB.out hB)
                replace kC := Lib.hid (stays kC.out hB)
                replace kX := Lib.hid (stays kX.out hB)
                replace kU := Lib.hid (stays kU.out hB)
                replace kV := Lib.hid (stays kV.out hB)
                generalize w13.heap.size = xV at *
                clear gN
                clear hB A0 A1 B0 B1 C0 C1 X0 X1 U0 U1 V0 V1
                simp only [mkV]
                obtain ⟨gN, kM⟩ := box_new w14 (zn) (zd)
                replace kA := Lib.hid (stays kA.out gN)
                replace kB := Lib.hid (stays kB.out gN)
                replace kC := Lib.hid (stays kC.out gN)
                replace kX := Lib.hid (stays kX.out gN)
                replace kU := Lib.hid (stays kU.out gN)
                replace kV := Lib.hid (stays kV.out gN)
                replace kM := Lib.hid kM
                have A0 := frO_0 kA.out
                have A1 := frO_1 kA.out
                have B0 := frO_0 kB.out
                have B1 := frO_1 kB.out
                have C0 := frO_0 kC.out
                have C1 := frO_1 kC.out
                have X0 := frO_0 kX.out
                have X1 := frO_1 kX.out
                have U0 := frO_0 kU.out
                have U1 := frO_1 kU.out
                have V0 := frO_0 kV.out
                have V1 := frO_1 kV.out
                have M0 := frO_0 kM.out
                have M1 := frO_1 kM.out
                by_cases hvc : vc = 0
                · subst hvc
                  by_cases hzc : zc = 0
                  · subst hzc
                    have hs := (distrib_mk p0 p1 p2 hab hv hz).symm.trans hu
                    have cs : ∀ W, _ := fun W => add_any vn vd zn zd W fv fz
                    rw [hs] at cs
                    go_wp2_with (fail)
                    refine (cs _).mono ?_
                    rintro e w15 ⟨rfl, hB⟩
                    replace L := Lib.hid (L.out.trans ((gN.trans (hB.mono gN.size)).mono L.out.size))
                    replace kA := Lib.hid (stays kA.out hB)
                    replace kB := Lib.hid (stays kB.out hB)
                    replace kC := Lib.hid (stays kC.out hB)
                    replace kX := Lib.hid (stays kX.out hB)
                    replace kU := Lib.hid (stays kU.out hB)
                    replace kV := Lib.hid (stays kV.out hB)
                    replace kM := Lib.hid (stays kM.out hB)
                    generalize w14.heap.size = xM at *
                    clear gN
                    clear hB A0 A1 B0 B1 C0 C1 X0 X1 U0 U1 V0 V1 M0 M1
                    simp only [mkV]
                    obtain ⟨gN, kS⟩ := box_new w15 (un) (ud)
                    replace kA := Lib.hid (stays kA.out gN)
                    replace kB := Lib.hid (stays kB.out gN)
                    replace kC := Lib.hid (stays kC.out gN)
                    replace kX := Lib.hid (stays kX.out gN)
                    replace kU := Lib.hid (stays kU.out gN)
                    replace kV := Lib.hid (stays kV.out gN)
                    replace kM := Lib.hid (stays kM.out gN)
                    replace kS := Lib.hid kS
                    have A0 := frO_0 kA.out
                    have A1 := frO_1 kA.out
                    have B0 := frO_0 kB.out
                    have B1 := frO_1 kB.out
                    have C0 := frO_0 kC.out
                    have C1 := frO_1 kC.out
                    have X0 := frO_0 kX.out
                    have X1 := frO_1 kX.out
                    have U0 := frO_0 kU.out
                    have U1 := frO_1 kU.out
                    have V0 := frO_0 kV.out
                    have V1 := frO_1 kV.out
                    have M0 := frO_0 kM.out
                    have M1 := frO_1 kM.out
                    have S0 := frO_0 kS.out
                    have S1 := frO_1 kS.out
                    go_wp2_with (fail)
                    refine (awake_any _ (ht.below (L.out.trans (gN.mono L.out.size)))).mono ?_
                    rintro e w16 ⟨rfl, hB⟩
                    replace L := Lib.hid (L.out.trans ((gN.trans (hB.mono gN.size)).mono L.out.size))
                    replace kA := Lib.hid (stays kA.out hB)
                    replace kB := Lib.hid (stays kB.out hB)
                    replace kC := Lib.hid (stays kC.out hB)
                    replace kX := Lib.hid (stays kX.out hB)
                    replace kU := Lib.hid (stays kU.out hB)
                    replace kV := Lib.hid (stays kV.out hB)
                    replace kM := Lib.hid (stays kM.out hB)
                    replace kS := Lib.hid (stays kS.out hB)
                    generalize w15.heap.size = xS at *
                    clear gN
                    clear hB A0 A1 B0 B1 C0 C1 X0 X1 U0 U1 V0 V1 M0 M1 S0 S1
                    have A0 := frO_0 kA.out
                    have A1 := frO_1 kA.out
                    have B0 := frO_0 kB.out
                    have B1 := frO_1 kB.out
                    have C0 := frO_0 kC.out
                    have C1 := frO_1 kC.out
                    have X0 := frO_0 kX.out
                    have X1 := frO_1 kX.out
                    have U0 := frO_0 kU.out
                    have U1 := frO_1 kU.out
                    have V0 := frO_0 kV.out
                    have V1 := frO_1 kV.out
                    have M0 := frO_0 kM.out
                    have M1 := frO_1 kM.out
                    have S0 := frO_0 kS.out
                    have S1 := frO_1 kS.out
                    go_wp2
                    go_ret
                    exact ⟨rfl, L.out⟩
                  · have zcb : (zc != 0) = true := by rw [bne_iff_ne]; exact hzc
                    have zce : (zc == 0) = false := by rw [beq_eq_false_iff_ne]; exact hzc
                    clear hzc
                    go_wp2_with (fail)
                    refine (awake_any _ (ht.below (L.out.trans (gN.mono L.out.size)))).mono ?_
                    rintro e w15 ⟨rfl, hB⟩
                    replace L := Lib.hid (L.out.trans ((gN.trans (hB.mono gN.size)).mono L.out.size))
                    replace kA := Lib.hid (stays kA.out hB)
                    replace kB := Lib.hid (stays kB.out hB)
                    replace kC := Lib.hid (stays kC.out hB)
                    replace kX := Lib.hid (stays kX.out hB)
                    replace kU := Lib.hid (stays kU.out hB)
                    replace kV := Lib.hid (stays kV.out hB)
                    replace kM := Lib.hid (stays kM.out hB)
                    generalize w14.heap.size = xM at *
                    clear gN
                    clear hB A0 A1 B0 B1 C0 C1 X0 X1 U0 U1 V0 V1 M0 M1
                    have A0 := frO_0 kA.out
                    have A1 := frO_1 kA.out
                    have B0 := frO_0 kB.out
                    have B1 := frO_1 kB.out
                    have C0 := frO_0 kC.out
                    have C1 := frO_1 kC.out
                    have X0 := frO_0 kX.out
                    have X1 := frO_1 kX.out
                    have U0 := frO_0 kU.out
                    have U1 := frO_1 kU.out
                    have V0 := frO_0 kV.out
                    have V1 := frO_1 kV.out
                    have M0 := frO_0 kM.out
                    have M1 := frO_1 kM.out
                    go_wp2
                    go_ret
                    exact ⟨rfl, L.out⟩
                · have vcb : (vc != 0) = true := by rw [bne_iff_ne]; exact hvc
                  have vce : (vc == 0) = false := by rw [beq_eq_false_iff_ne]; exact hvc
                  clear hvc
                  go_wp2_with (fail)
                  refine (awake_any _ (ht.below (L.out.trans (gN.mono L.out.size)))).mono ?_
                  rintro e w15 ⟨rfl, hB⟩
                  replace L := Lib.hid (L.out.trans ((gN.trans (hB.mono gN.size)).mono L.out.size))
                  replace kA := Lib.hid (stays kA.out hB)
                  replace kB := Lib.hid (stays kB.out hB)
                  replace kC := Lib.hid (stays kC.out hB)
                  replace kX := Lib.hid (stays kX.out hB)
                  replace kU := Lib.hid (stays kU.out hB)
                  replace kV := Lib.hid (stays kV.out hB)
                  replace kM := Lib.hid (stays kM.out hB)
                  generalize w14.heap.size = xM at *
                  clear gN
                  clear hB A0 A1 B0 B1 C0 C1 X0 X1 U0 U1 V0 V1 M0 M1
                  have A0 := frO_0 kA.out
                  have A1 := frO_1 kA.out
                  have B0 := frO_0 kB.out
                  have B1 := frO_1 kB.out
                  have C0 := frO_0 kC.out
                  have C1 := frO_1 kC.out
                  have X0 := frO_0 kX.out
                  have X1 := frO_1 kX.out
                  have U0 := frO_0 kU.out
                  have U1 := frO_1 kU.out
                  have V0 := frO_0 kV.out
                  have V1 := frO_1 kV.out
                  have M0 := frO_0 kM.out
                  have M1 := frO_1 kM.out
                  go_wp2
                  go_ret
                  exact ⟨rfl, L.out⟩
            · have pcb : (pc != 0) = true := by rw [bne_iff_ne]; exact hpc
              have pce : (pc == 0) = false := by rw [beq_eq_false_iff_ne]; exact hpc
              clear hpc
              obtain ⟨⟨⟨dn, dd⟩, dc⟩, hd⟩ : ∃ r, mkF (pn * bd) (pd * bn) = r := ⟨_, rfl⟩
              have cd0 : ∀ W, _ := fun W => div_any pn pd bn bd W fp q1.fit
              rw [hd] at cd0
              go_wp2_with (fail)
              refine (cd0 _).mono ?_
              rintro e w11 ⟨rfl, hB⟩
              replace L := Lib.hid (L.out.trans ((gN.trans (hB.mono gN.size)).mono L.out.size))
              replace kA := Lib.hid (stays kA.out hB)
              replace kB := Lib.hid (stays kB.out hB)
              replace kC := Lib.hid (stays kC.out hB)
              replace kX := Lib.hid (stays kX.out hB)
              replace kP := Lib.hid (stays kP.out hB)
              generalize w10.heap.size = xP at *
              clear gN
              clear hB A0 A1 B0 B1 C0 C1 X0 X1 P0 P1
              simp only [mkV]
              obtain ⟨gN, kD⟩ := box_new w11 (dn) (dd)
              replace kA := Lib.hid (stays kA.out gN)
              replace kB := Lib.hid (stays kB.out gN)
              replace kC := Lib.hid (stays kC.out gN)
              replace kX := Lib.hid (stays kX.out gN)
              replace kP := Lib.hid (stays kP.out gN)
              replace kD := Lib.hid kD
              have A0 := frO_0 kA.out
              have A1 := frO_1 kA.out
              have B0 := frO_0 kB.out
              have B1 := frO_1 kB.out
              have C0 := frO_0 kC.out
              have C1 := frO_1 kC.out
              have X0 := frO_0 kX.out
              have X1 := frO_1 kX.out
              have P0 := frO_0 kP.out
              have P1 := frO_1 kP.out
              have D0 := frO_0 kD.out
              have D1 := frO_1 kD.out
              clear kP P0 P1
              obtain ⟨⟨⟨un, ud⟩, uc⟩, hu⟩ : ∃ r, mkF (xn * cn) (xd * cd) = r := ⟨_, rfl⟩
              have cu : ∀ W, _ := fun W => mul_any xn xd cn cd W fx q2.fit
              rw [hu] at cu
              obtain ⟨⟨⟨vn, vd⟩, vc⟩, hv⟩ : ∃ r, mkF (an * cn) (ad * cd) = r := ⟨_, rfl⟩
              have cv : ∀ W, _ := fun W => mul_any an ad cn cd W q0.fit q2.fit
              rw [hv] at cv
              have fv := fit_mk hv
              obtain ⟨⟨⟨zn, zd⟩, zc⟩, hz⟩ : ∃ r, mkF (bn * cn) (bd * cd) = r := ⟨_, rfl⟩
              have cz : ∀ W, _ := fun W => mul_any bn bd cn cd W q1.fit q2.fit
              rw [hz] at cz
              have fz := fit_mk hz
              go_wp2_with (fail)
              refine (cu _).mono ?_
              rintro e w12 ⟨rfl, hB⟩
              replace L := Lib.hid (L.out.trans ((gN.trans (hB.mono gN.size)).mono L.out.size))
              replace kA := Lib.hid (stays kA.out hB)
              replace kB := Lib.hid (stays kB.out hB)
              replace kC := Lib.hid (stays kC.out hB)
              replace kX := Lib.hid (stays kX.out hB)
              replace kD := Lib.hid (stays kD.out hB)
              generalize w11.heap.size = xD at *
              clear gN
              clear hB A0 A1 B0 B1 C0 C1 X0 X1 D0 D1
              simp only [mkV]
              obtain ⟨gN, kU⟩ := box_new w12 (un) (ud)
              replace kA := Lib.hid (stays kA.out gN)
              replace kB := Lib.hid (stays kB.out gN)
              replace kC := Lib.hid (stays kC.out gN)
              replace kX := Lib.hid (stays kX.out gN)
              replace kD := Lib.hid (stays kD.out gN)
              replace kU := Lib.hid kU
              have A0 := frO_0 kA.out
              have A1 := frO_1 kA.out
              have B0 := frO_0 kB.out
              have B1 := frO_1 kB.out
              have C0 := frO_0 kC.out
              have C1 := frO_1 kC.out
              have X0 := frO_0 kX.out
              have X1 := frO_1 kX.out
              have D0 := frO_0 kD.out
              have D1 := frO_1 kD.out
              have U0 := frO_0 kU.out
              have U1 := frO_1 kU.out
              clear kD D0 D1
              go_wp2_with (fail)
              refine (cv _).mono ?_
              rintro e w13 ⟨rfl, hB⟩
              replace L := Lib.hid (L.out.trans ((gN.trans (hB.mono gN.size)).mono L.out.size))
              replace kA := Lib.hid (stays kA.out hB)
              replace kB := Lib.hid (stays kB.out hB)
              replace kC := Lib.hid (stays kC.out hB)
              replace kX := Lib.hid (stays kX.out hB)
              replace kU := Lib.hid (stays kU.out hB)
              generalize w12.heap.size = xU at *
              clear gN
              clear hB A0 A1 B0 B1 C0 C1 X0 X1 U0 U1
              simp only [mkV]
              obtain ⟨gN, kV⟩ := box_new w13 (vn) (vd)
              replace kA := Lib.hid (stays kA.out gN)
              replace kB := Lib.hid (stays kB.out gN)
              replace kC := Lib.hid (stays kC.out gN)
              replace kX := Lib.hid (stays kX.out gN)
              replace kU := Lib.hid (stays kU.out gN)
              replace kV := Lib.hid kV
              have A0 := frO_0 kA.out
              have A1 := frO_1 kA.out
              have B0 := frO_0 kB.out
              have B1 := frO_1 kB.out
              have C0 := frO_0 kC.out
              have C1 := frO_1 kC.out
              have X0 := frO_0 kX.out
              have X1 := frO_1 kX.out
              have U0 := frO_0 kU.out
              have U1 := frO_1 kU.out
              have V0 := frO_0 kV.out
              have V1 := frO_1 kV.out
              go_wp2_with (fail)
              refine (cz _).mono ?_
              rintro e w14 ⟨rfl, hB⟩
              replace L := Lib.hid (L.out.trans ((gN.trans (hB.mono gN.size)).mono L.out.size))
              replace kA := Lib.hid (stays kA.out hB)
              replace kB := Lib.hid (stays kB.out hB)
              replace kC := Lib.hid (stays kC.out hB)
              replace kX := Lib.hid (stays kX.out hB)
              replace kU := Lib.hid (stays kU.out hB)
              replace kV := Lib.hid (stays kV.out hB)
              generalize w13.heap.size = xV at *
              clear gN
              clear hB A0 A1 B0 B1 C0 C1 X0 X1 U0 U1 V0 V1
              simp only [mkV]
              obtain ⟨gN, kM⟩ := box_new w14 (zn) (zd)
              replace kA := Lib.hid (stays kA.out gN)
              replace kB := Lib.hid (stays kB.out gN)
              replace kC := Lib.hid (stays kC.out gN)
              replace kX := Lib.hid (stays kX.out gN)
              replace kU := Lib.hid (stays kU.out gN)
              replace kV := Lib.hid (stays kV.out gN)
              replace kM := Lib.hid kM
              have A0 := frO_0 kA.out
              have A1 := frO_1 kA.out
              have B0 := frO_0 kB.out
              have B1 := frO_1 kB.out
              have C0 := frO_0 kC.out
              have C1 := frO_1 kC.out
              have X0 := frO_0 kX.out
              have X1 := frO_1 kX.out
              have U0 := frO_0 kU.out
              have U1 := frO_1 kU.out
              have V0 := frO_0 kV.out
              have V1 := frO_1 kV.out
              have M0 := frO_0 kM.out
              have M1 := frO_1 kM.out
              by_cases hvc : vc = 0
              · subst hvc
                by_cases hzc : zc = 0
                · subst hzc
                  have hs := (distrib_mk p0 p1 p2 hab hv hz).symm.trans hu
                  have cs : ∀ W, _ := fun W => add_any vn vd zn zd W fv fz
                  rw [hs] at cs
                  go_wp2_with (fail)
                  refine (cs _).mono ?_
                  rintro e w15 ⟨rfl, hB⟩
                  replace L := Lib.hid (L.out.trans ((gN.trans (hB.mono gN.size)).mono L.out.size))
                  replace kA := Lib.hid (stays kA.out hB)
                  replace kB := Lib.hid (stays kB.out hB)
                  replace kC := Lib.hid (stays kC.out hB)
                  replace kX := Lib.hid (stays kX.out hB)
                  replace kU := Lib.hid (stays kU.out hB)
                  replace kV := Lib.hid (stays kV.out hB)
                  replace kM := Lib.hid (stays kM.out hB)
                  generalize w14.heap.size = xM at *
                  clear gN
                  clear hB A0 A1 B0 B1 C0 C1 X0 X1 U0 U1 V0 V1 M0 M1
                  simp only [mkV]
                  obtain ⟨gN, kS⟩ := box_new w15 (un) (ud)
                  replace kA := Lib.hid (stays kA.out gN)
                  replace kB := Lib.hid (stays kB.out gN)
                  replace kC := Lib.hid (stays kC.out gN)
                  replace kX := Lib.hid (stays kX.out gN)
                  replace kU := Lib.hid (stays kU.out gN)
                  replace kV := Lib.hid (stays kV.out gN)
                  replace kM := Lib.hid (stays kM.out gN)
                  replace kS := Lib.hid kS
                  have A0 := frO_0 kA.out
                  have A1 := frO_1 kA.out
                  have B0 := frO_0 kB.out
                  have B1 := frO_1 kB.out
                  have C0 := frO_0 kC.out
                  have C1 := frO_1 kC.out
                  have X0 := frO_0 kX.out
                  have X1 := frO_1 kX.out
                  have U0 := frO_0 kU.out
                  have U1 := frO_1 kU.out
                  have V0 := frO_0 kV.out
                  have V1 := frO_1 kV.out
                  have M0 := frO_0 kM.out
                  have M1 := frO_1 kM.out
                  have S0 := frO_0 kS.out
                  have S1 := frO_1 kS.out
                  go_wp2_with (fail)
                  refine (awake_any _ (ht.below (L.out.trans (gN.mono L.out.size)))).mono ?_
                  rintro e w16 ⟨rfl, hB⟩
                  replace L := Lib.hid (L.out.trans ((gN.trans (hB.mono gN.size)).mono L.out.size))
                  replace kA := Lib.hid (stays kA.out hB)
                  replace kB := Lib.hid (stays kB.out hB)
                  replace kC := Lib.hid (stays kC.out hB)
                  replace kX := Lib.hid (stays kX.out hB)
                  replace kU := Lib.hid (stays kU.out hB)
                  replace kV := Lib.hid (stays kV.out hB)
                  replace kM := Lib.hid (stays kM.out hB)
                  replace kS := Lib.hid (stays kS.out hB)
                  generalize w15.heap.size = xS at *
                  clear gN
                  clear hB A0 A1 B0 B1 C0 C1 X0 X1 U0 U1 V0 V1 M0 M1 S0 S1
                  have A0 := frO_0 kA.out
                  have A1 := frO_1 kA.out
                  have B0 := frO_0 kB.out
                  have B1 := frO_1 kB.out
                  have C0 := frO_0 kC.out
                  have C1 := frO_1 kC.out
                  have X0 := frO_0 kX.out
                  have X1 := frO_1 kX.out
                  have U0 := frO_0 kU.out
                  have U1 := frO_1 kU.out
                  have V0 := frO_0 kV.out
                  have V1 := frO_1 kV.out
                  have M0 := frO_0 kM.out
                  have M1 := frO_1 kM.out
                  have S0 := frO_0 kS.out
                  have S1 := frO_1 kS.out
                  go_wp2
                  go_ret
                  exact ⟨rfl, L.out⟩
                · have zcb : (zc != 0) = true := by rw [bne_iff_ne]; exact hzc
                  have zce : (zc == 0) = false := by rw [beq_eq_false_iff_ne]; exact hzc
                  clear hzc
                  go_wp2_with (fail)
                  refine (awake_any _ (ht.below (L.out.trans (gN.mono L.out.size)))).mono ?_
                  rintro e w15 ⟨rfl, hB⟩
                  replace L := Lib.hid (L.out.trans ((gN.trans (hB.mono gN.size)).mono L.out.size))
                  replace kA := Lib.hid (stays kA.out hB)
                  replace kB := Lib.hid (stays kB.out hB)
                  replace kC := Lib.hid (stays kC.out hB)
                  replace kX := Lib.hid (stays kX.out hB)
                  replace kU := Lib.hid (stays kU.out hB)
                  replace kV := Lib.hid (stays kV.out hB)
                  replace kM := Lib.hid (stays kM.out hB)
                  generalize w14.heap.size = xM at *
                  clear gN
                  clear hB A0 A1 B0 B1 C0 C1 X0 X1 U0 U1 V0 V1 M0 M1
                  have A0 := frO_0 kA.out
                  have A1 := frO_1 kA.out
                  have B0 := frO_0 kB.out
                  have B1 := frO_1 kB.out
                  have C0 := frO_0 kC.out
                  have C1 := frO_1 kC.out
                  have X0 := frO_0 kX.out
                  have X1 := frO_1 kX.out
                  have U0 := frO_0 kU.out
                  have U1 := frO_1 kU.out
                  have V0 := frO_0 kV.out
                  have V1 := frO_1 kV.out
                  have M0 := frO_0 kM.out
                  have M1 := frO_1 kM.out
                  go_wp2
                  go_ret
                  exact ⟨rfl, L.out⟩
              · have vcb : (vc != 0) = true := by rw [bne_iff_ne]; exact hvc
                have vce : (vc == 0) = false := by rw [beq_eq_false_iff_ne]; exact hvc
                clear hvc
                go_wp2_with (fail)
                refine (awake_any _ (ht.below (L.out.trans (gN.mono L.out.size)))).mono ?_
                rintro e w15 ⟨rfl, hB⟩
                replace L := Lib.hid (L.out.trans ((gN.trans (hB.mono gN.size)).mono L.out.size))
                replace kA := Lib.hid (stays kA.out hB)
                replace kB := Lib.hid (stays kB.out hB)
                replace kC := Lib.hid (stays kC.out hB)
                replace kX := Lib.hid (stays kX.out hB)
                replace kU := Lib.hid (stays kU.out hB)
                replace kV := Lib.hid (stays kV.out hB)
                replace kM := Lib.hid (stays kM.out hB)
                generalize w14.heap.size = xM at *
                clear gN
                clear hB A0 A1 B0 B1 C0 C1 X0 X1 U0 U1 V0 V1 M0 M1
                have A0 := frO_0 kA.out
                have A1 := frO_1 kA.out
                have B0 := frO_0 kB.out
                have B1 := frO_1 kB.out
                have C0 := frO_0 kC.out
                have C1 := frO_1 kC.out
                have X0 := frO_0 kX.out
                have X1 := frO_1 kX.out
                have U0 := frO_0 kU.out
                have U1 := frO_1 kU.out
                have V0 := frO_0 kV.out
                have V1 := frO_1 kV.out
                have M0 := frO_0 kM.out
                have M1 := frO_1 kM.out
                go_wp2
                go_ret
                exact ⟨rfl, L.out⟩
        · have xcb : (xc != 0) = true := by rw [bne_iff_ne]; exact hxc
          have xce : (xc == 0) = false := by rw [beq_eq_false_iff_ne]; exact hxc
          clear hxc
          obtain ⟨⟨⟨rn, rd⟩, rc⟩, hr⟩ : ∃ r, mkF (an * yd + yn * ad) (ad * yd) = r := ⟨_, rfl⟩
          have cr : ∀ W, _ := fun W => add_any an ad yn yd W q0.fit fy
          rw [hr] at cr
          go_wp2_with (fail)
          refine (cr _).mono ?_
          rintro e w8 ⟨rfl, hB⟩
          replace L := Lib.hid (L.out.trans ((gN.trans (hB.mono gN.size)).mono L.out.size))
          replace kA := Lib.hid (stays kA.out hB)
          replace kB := Lib.hid (stays kB.out hB)
          replace kC := Lib.hid (stays kC.out hB)
          replace kX := Lib.hid (stays kX.out hB)
          replace kZ := Lib.hid (stays kZ.out hB)
          replace kU := Lib.hid (stays kU.out hB)
          generalize w7.heap.size = xU at *
          clear gN
          clear hB A0 A1 B0 B1 C0 C1 X0 X1 Z0 Z1 U0 U1
          simp only [mkV]
          obtain ⟨gN, kR⟩ := box_new w8 (rn) (rd)
          replace kA := Lib.hid (stays kA.out gN)
          replace kB := Lib.hid (stays kB.out gN)
          replace kC := Lib.hid (stays kC.out gN)
          replace kX := Lib.hid (stays kX.out gN)
          replace kZ := Lib.hid (stays kZ.out gN)
          replace kU := Lib.hid (stays kU.out gN)
          replace kR := Lib.hid kR
          have A0 := frO_0 kA.out
          have A1 := frO_1 kA.out
          have B0 := frO_0 kB.out
          have B1 := frO_1 kB.out
          have C0 := frO_0 kC.out
          have C1 := frO_1 kC.out
          have X0 := frO_0 kX.out
          have X1 := frO_1 kX.out
          have Z0 := frO_0 kZ.out
          have Z1 := frO_1 kZ.out
          have U0 := frO_0 kU.out
          have U1 := frO_1 kU.out
          have R0 := frO_0 kR.out
          have R1 := frO_1 kR.out
          clear kZ Z0 Z1
          obtain ⟨⟨⟨sn, sd⟩, sc⟩, hsb⟩ : ∃ r, mkF (xn * bd - bn * xd) (xd * bd) = r := ⟨_, rfl⟩
          have csb : ∀ W, _ := fun W => sub_any xn xd bn bd W fx q1.fit
          rw [hsb] at csb
          go_wp2_with (fail)
          refine (csb _).mono ?_
          rintro e w9 ⟨rfl, hB⟩
          replace L := Lib.hid (L.out.trans ((gN.trans (hB.mono gN.size)).mono L.out.size))
          replace kA := Lib.hid (stays kA.out hB)
          replace kB := Lib.hid (stays kB.out hB)
          replace kC := Lib.hid (stays kC.out hB)
          replace kX := Lib.hid (stays kX.out hB)
          replace kU := Lib.hid (stays kU.out hB)
          replace kR := Lib.hid (stays kR.out hB)
          generalize w8.heap.size = xR at *
          clear gN
          clear hB A0 A1 B0 B1 C0 C1 X0 X1 U0 U1 R0 R1
          simp only [mkV]
          obtain ⟨gN, kS⟩ := box_new w9 (sn) (sd)
          replace kA := Lib.hid (stays kA.out gN)
          replace kB := Lib.hid (stays kB.out gN)
          replace kC := Lib.hid (stays kC.out gN)
          replace kX := Lib.hid (stays kX.out gN)
          replace kU := Lib.hid (stays kU.out gN)
          replace kR := Lib.hid (stays kR.out gN)
          replace kS := Lib.hid kS
          have A0 := frO_0 kA.out
          have A1 := frO_1 kA.out
          have B0 := frO_0 kB.out
          have B1 := frO_1 kB.out
          have C0 := frO_0 kC.out
          have C1 := frO_1 kC.out
          have X0 := frO_0 kX.out
          have X1 := frO_1 kX.out
          have U0 := frO_0 kU.out
          have U1 := frO_1 kU.out
          have R0 := frO_0 kR.out
          have R1 := frO_1 kR.out
          have S0 := frO_0 kS.out
          have S1 := frO_1 kS.out
          clear kU U0 U1
          clear kR R0 R1
          obtain ⟨⟨⟨pn, pd⟩, pc⟩, hp⟩ : ∃ r, mkF (an * bn) (ad * bd) = r := ⟨_, rfl⟩
          have cp : ∀ W, _ := fun W => mul_any an ad bn bd W q0.fit q1.fit
          rw [hp] at cp
          have fp := fit_mk hp
          go_wp2_with (fail)
          refine (cp _).mono ?_
          rintro e w10 ⟨rfl, hB⟩
          replace L := Lib.hid (L.out.trans ((gN.trans (hB.mono gN.size)).mono L.out.size))
          replace kA := Lib.hid (stays kA.out hB)
          replace kB := Lib.hid (stays kB.out hB)
          replace kC := Lib.hid (stays kC.out hB)
          replace kX := Lib.hid (stays kX.out hB)
          replace kS := Lib.hid (stays kS.out hB)
          generalize w9.heap.size = xS at *
          clear gN
          clear hB A0 A1 B0 B1 C0 C1 X0 X1 S0 S1
          simp only [mkV]
          obtain ⟨gN, kP⟩ := box_new w10 (pn) (pd)
          replace kA := Lib.hid (stays kA.out gN)
          replace kB := Lib.hid (stays kB.out gN)
          replace kC := Lib.hid (stays kC.out gN)
          replace kX := Lib.hid (stays kX.out gN)
          replace kS := Lib.hid (stays kS.out gN)
          replace kP := Lib.hid kP
          have A0 := frO_0 kA.out
          have A1 := frO_1 kA.out
          have B0 := frO_0 kB.out
          have B1 := frO_1 kB.out
          have C0 := frO_0 kC.out
          have C1 := frO_1 kC.out
          have X0 := frO_0 kX.out
          have X1 := frO_1 kX.out
          have S0 := frO_0 kS.out
          have S1 := frO_1 kS.out
          have P0 := frO_0 kP.out
          have P1 := frO_1 kP.out
          clear kS S0 S1
          by_cases hpc : pc = 0
          · subst hpc
            by_cases hbn : bn = 0
            · have hbb : (bn != 0) = false := by rw [hbn]; rfl
              clear hbn
              obtain ⟨⟨⟨dn, dd⟩, dc⟩, hd⟩ : ∃ r, mkF (pn * bd) (pd * bn) = r := ⟨_, rfl⟩
              have cd0 : ∀ W, _ := fun W => div_any pn pd bn bd W fp q1.fit
              rw [hd] at cd0
              go_wp2_with (fail)
              refine (cd0 _).mono ?_
              rintro e w11 ⟨rfl, hB⟩
              replace L := Lib.hid (L.out.trans ((gN.trans (hB.mono gN.size)).mono L.out.size))
              replace kA := Lib.hid (stays kA.out hB)
              replace kB := Lib.hid (stays kB.out hB)
              replace kC := Lib.hid (stays kC.out hB)
              replace kX := Lib.hid (stays kX.out hB)
              replace kP := Lib.hid (stays kP.out hB)
              generalize w10.heap.size = xP at *
              clear gN
              clear hB A0 A1 B0 B1 C0 C1 X0 X1 P0 P1
              simp only [mkV]
              obtain ⟨gN, kD⟩ := box_new w11 (dn) (dd)
              replace kA := Lib.hid (stays kA.out gN)
              replace kB := Lib.hid (stays kB.out gN)
              replace kC := Lib.hid (stays kC.out gN)
              replace kX := Lib.hid (stays kX.out gN)
              replace kP := Lib.hid (stays kP.out gN)
              replace kD := Lib.hid kD
              have A0 := frO_0 kA.out
              have A1 := frO_1 kA.out
              have B0 := frO_0 kB.out
              have B1 := frO_1 kB.out
              have C0 := frO_0 kC.out
              have C1 := frO_1 kC.out
              have X0 := frO_0 kX.out
              have X1 := frO_1 kX.out
              have P0 := frO_0 kP.out
              have P1 := frO_1 kP.out
              have D0 := frO_0 kD.out
              have D1 := frO_1 kD.out
              clear kP P0 P1
              obtain ⟨⟨⟨un, ud⟩, uc⟩, hu⟩ : ∃ r, mkF (xn * cn) (xd * cd) = r := ⟨_, rfl⟩
              have cu : ∀ W, _ := fun W => mul_any xn xd cn cd W fx q2.fit
              rw [hu] at cu
              obtain ⟨⟨⟨vn, vd⟩, vc⟩, hv⟩ : ∃ r, mkF (an * cn) (ad * cd) = r := ⟨_, rfl⟩
              have cv : ∀ W, _ := fun W => mul_any an ad cn cd W q0.fit q2.fit
              rw [hv] at cv
              have fv := fit_mk hv
              obtain ⟨⟨⟨zn, zd⟩, zc⟩, hz⟩ : ∃ r, mkF (bn * cn) (bd * cd) = r := ⟨_, rfl⟩
              have cz : ∀ W, _ := fun W => mul_any bn bd cn cd W q1.fit q2.fit
              rw [hz] at cz
              have fz := fit_mk hz
              go_wp2_with (fail)
              refine (cu _).mono ?_
              rintro e w12 ⟨rfl, hB⟩
              replace L := Lib.hid (L.out.trans ((gN.trans (hB.mono gN.size)).mono L.out.size))
              replace kA := Lib.hid (stays kA.out hB)
              replace kB := Lib.hid (stays kB.out hB)
              replace kC := Lib.hid (stays kC.out hB)
              replace kX := Lib.hid (stays kX.out hB)
              replace kD := Lib.hid (stays kD.out hB)
              generalize w11.heap.size = xD at *
              clear gN
              clear hB A0 A1 B0 B1 C0 C1 X0 X1 D0 D1
              simp only [mkV]
              obtain ⟨gN, kU⟩ := box_new w12 (un) (ud)
              replace kA := Lib.hid (stays kA.out gN)
              replace kB := Lib.hid (stays kB.out gN)
              replace kC := Lib.hid (stays kC.out gN)
              replace kX := Lib.hid (stays kX.out gN)
              replace kD := Lib.hid (stays kD.out gN)
              replace kU := Lib.hid kU
              have A0 := frO_0 kA.out
              have A1 := frO_1 kA.out
              have B0 := frO_0 kB.out
              have B1 := frO_1 kB.out
              have C0 := frO_0 kC.out
              have C1 := frO_1 kC.out
              have X0 := frO_0 kX.out
              have X1 := frO_1 kX.out
              have D0 := frO_0 kD.out
              have D1 := frO_1 kD.out
              have U0 := frO_0 kU.out
              have U1 := frO_1 kU.out
              clear kD D0 D1
              go_wp2_with (fail)
              refine (cv _).mono ?_
              rintro e w13 ⟨rfl, hB⟩
              replace L := Lib.hid (L.out.trans ((gN.trans (hB.mono gN.size)).mono L.out.size))
              replace kA := Lib.hid (stays kA.out hB)
              replace kB := Lib.hid (stays kB.out hB)
              replace kC := Lib.hid (stays kC.out hB)
              replace kX := Lib.hid (stays kX.out hB)
              replace kU := Lib.hid (stays kU.out hB)
              generalize w12.heap.size = xU at *
              clear gN
              clear hB A0 A1 B0 B1 C0 C1 X0 X1 U0 U1
              simp only [mkV]
              obtain ⟨gN, kV⟩ := box_new w13 (vn) (vd)
              replace kA := Lib.hid (stays kA.out gN)
              replace kB := Lib.hid (stays kB.out gN)
              replace kC := Lib.hid (stays kC.out gN)
              replace kX := Lib.hid (stays kX.out gN)
              replace kU := Lib.hid (stays kU.out gN)
              replace kV := Lib.hid kV
              have A0 := frO_0 kA.out
              have A1 := frO_1 kA.out
              have B0 := frO_0 kB.out
              have B1 := frO_1 kB.out
              have C0 := frO_0 kC.out
              have C1 := frO_1 kC.out
              have X0 := frO_0 kX.out
              have X1 := frO_1 kX.out
              have U0 := frO_0 kU.out
              have U1 := frO_1 kU.out
              have V0 := frO_0 kV.out
              have V1 := frO_1 kV.out
              go_wp2_with (fail)
              refine (cz _).mono ?_
              rintro e w14 ⟨rfl, hB⟩
              replace L := Lib.hid (L.out.trans ((gN.trans (hB.mono gN.size)).mono L.out.size))
              replace kA := Lib.hid (stays kA.out hB)
              replace kB := Lib.hid (stays kB.out hB)
              replace kC := Lib.hid (stays kC.out hB)
              replace kX := Lib.hid (stays kX.out hB)
              replace kU := Lib.hid (stays kU.out hB)
              replace kV := Lib.hid (stays kV.out hB)
              generalize w13.heap.size = xV at *
              clear gN
              clear hB A0 A1 B0 B1 C0 C1 X0 X1 U0 U1 V0 V1
              simp only [mkV]
              obtain ⟨gN, kM⟩ := box_new w14 (zn) (zd)
              replace kA := Lib.hid (stays kA.out gN)
              replace kB := Lib.hid (stays kB.out gN)
              replace kC := Lib.hid (stays kC.out gN)
              replace kX := Lib.hid (stays kX.out gN)
              replace kU := Lib.hid (stays kU.out gN)
              replace kV := Lib.hid (stays kV.out gN)
              replace kM := Lib.hid kM
              have A0 := frO_0 kA.out
              have A1 := frO_1 kA.out
              have B0 := frO_0 kB.out
              have B1 := frO_1 kB.out
              have C0 := frO_0 kC.out
              have C1 := frO_1 kC.out
              have X0 := frO_0 kX.out
              have X1 := frO_1 kX.out
              have U0 := frO_0 kU.out
              have U1 := frO_1 kU.out
              have V0 := frO_0 kV.out
              have V1 := frO_1 kV.out
              have M0 := frO_0 kM.out
              have M1 := frO_1 kM.out
              go_wp2_with (fail)
              refine (awake_any _ (ht.below (L.out.trans (gN.mono L.out.size)))).mono ?_
              rintro e w15 ⟨rfl, hB⟩
              replace L := Lib.hid (L.out.trans ((gN.trans (hB.mono gN.size)).mono L.out.size))
              replace kA := Lib.hid (stays kA.out hB)
              replace kB := Lib.hid (stays kB.out hB)
              replace kC := Lib.hid (stays kC.out hB)
              replace kX := Lib.hid (stays kX.out hB)
              replace kU := Lib.hid (stays kU.out hB)
              replace kV := Lib.hid (stays kV.out hB)
              replace kM := Lib.hid (stays kM.out hB)
              generalize w14.heap.size = xM at *
              clear gN
              clear hB A0 A1 B0 B1 C0 C1 X0 X1 U0 U1 V0 V1 M0 M1
              have A0 := frO_0 kA.out
              have A1 := frO_1 kA.out
              have B0 := frO_0 kB.out
              have B1 := frO_1 kB.out
              have C0 := frO_0 kC.out
              have C1 := frO_1 kC.out
              have X0 := frO_0 kX.out
              have X1 := frO_1 kX.out
              have U0 := frO_0 kU.out
              have U1 := frO_1 kU.out
              have V0 := frO_0 kV.out
              have V1 := frO_1 kV.out
              have M0 := frO_0 kM.out
              have M1 := frO_1 kM.out
              go_wp2
              go_ret
              exact ⟨rfl, L.out⟩
            · skip
              have hd := div_back_mk q0 hbn hp
              have cd0 : ∀ W, _ := fun W => div_any pn pd bn bd W fp q1.fit
              rw [hd] at cd0
              have hbb : (bn != 0) = true := by rw [bne_iff_ne]; exact hbn
              clear hbn
              go_wp2_with (fail)
              refine (cd0 _).mono ?_
              rintro e w11 ⟨rfl, hB⟩
              replace L := Lib.hid (L.out.trans ((gN.trans (hB.mono gN.size)).mono L.out.size))
              replace kA := Lib.hid (stays kA.out hB)
              replace kB := Lib.hid (stays kB.out hB)
              replace kC := Lib.hid (stays kC.out hB)
              replace kX := Lib.hid (stays kX.out hB)
              replace kP := Lib.hid (stays kP.out hB)
              generalize w10.heap.size = xP at *
              clear gN
              clear hB A0 A1 B0 B1 C0 C1 X0 X1 P0 P1
              simp only [mkV]
              obtain ⟨gN, kD⟩ := box_new w11 (an) (ad)
              replace kA := Lib.hid (stays kA.out gN)
              replace kB := Lib.hid (stays kB.out gN)
              replace kC := Lib.hid (stays kC.out gN)
              replace kX := Lib.hid (stays kX.out gN)
              replace kP := Lib.hid (stays kP.out gN)
              replace kD := Lib.hid kD
              have A0 := frO_0 kA.out
              have A1 := frO_1 kA.out
              have B0 := frO_0 kB.out
              have B1 := frO_1 kB.out
              have C0 := frO_0 kC.out
              have C1 := frO_1 kC.out
              have X0 := frO_0 kX.out
              have X1 := frO_1 kX.out
              have P0 := frO_0 kP.out
              have P1 := frO_1 kP.out
              have D0 := frO_0 kD.out
              have D1 := frO_1 kD.out
              clear kP P0 P1
              obtain ⟨⟨⟨un, ud⟩, uc⟩, hu⟩ : ∃ r, mkF (xn * cn) (xd * cd) = r := ⟨_, rfl⟩
              have cu : ∀ W, _ := fun W => mul_any xn xd cn cd W fx q2.fit
              rw [hu] at cu
              obtain ⟨⟨⟨vn, vd⟩, vc⟩, hv⟩ : ∃ r, mkF (an * cn) (ad * cd) = r := ⟨_, rfl⟩
              have cv : ∀ W, _ := fun W => mul_any an ad cn cd W q0.fit q2.fit
              rw [hv] at cv
              have fv := fit_mk hv
              obtain ⟨⟨⟨zn, zd⟩, zc⟩, hz⟩ : ∃ r, mkF (bn * cn) (bd * cd) = r := ⟨_, rfl⟩
              have cz : ∀ W, _ := fun W => mul_any bn bd cn cd W q1.fit q2.fit
              rw [hz] at cz
              have fz := fit_mk hz
              go_wp2_with (fail)
              refine (cu _).mono ?_
              rintro e w12 ⟨rfl, hB⟩
              replace L := Lib.hid (L.out.trans ((gN.trans (hB.mono gN.size)).mono L.out.size))
              replace kA := Lib.hid (stays kA.out hB)
              replace kB := Lib.hid (stays kB.out hB)
              replace kC := Lib.hid (stays kC.out hB)
              replace kX := Lib.hid (stays kX.out hB)
              replace kD := Lib.hid (stays kD.out hB)
              generalize w11.heap.size = xD at *
              clear gN
              clear hB A0 A1 B0 B1 C0 C1 X0 X1 D0 D1
              simp only [mkV]
              obtain ⟨gN, kU⟩ := box_new w12 (un) (ud)
              replace kA := Lib.hid (stays kA.out gN)
              replace kB := Lib.hid (stays kB.out gN)
              replace kC := Lib.hid (stays kC.out gN)
              replace kX := Lib.hid (stays kX.out gN)
              replace kD := Lib.hid (stays kD.out gN)
              replace kU := Lib.hid kU
              have A0 := frO_0 kA.out
              have A1 := frO_1 kA.out
              have B0 := frO_0 kB.out
              have B1 := frO_1 kB.out
              have C0 := frO_0 kC.out
              have C1 := frO_1 kC.out
              have X0 := frO_0 kX.out
              have X1 := frO_1 kX.out
              have D0 := frO_0 kD.out
              have D1 := frO_1 kD.out
              have U0 := frO_0 kU.out
              have U1 := frO_1 kU.out
              clear kD D0 D1
              go_wp2_with (fail)
              refine (cv _).mono ?_
              rintro e w13 ⟨rfl, hB⟩
              replace L := Lib.hid (L.out.trans ((gN.trans (hB.mono gN.size)).mono L.out.size))
              replace kA := Lib.hid (stays kA.out hB)
              replace kB := Lib.hid (stays kB.out hB)
              replace kC := Lib.hid (stays kC.out hB)
              replace kX := Lib.hid (stays kX.out hB)
              replace kU := Lib.hid (stays kU.out hB)
              generalize w12.heap.size = xU at *
              clear gN
              clear hB A0 A1 B0 B1 C0 C1 X0 X1 U0 U1
              simp only [mkV]
              obtain ⟨gN, kV⟩ := box_new w13 (vn) (vd)
              replace kA := Lib.hid (stays kA.out gN)
              replace kB := Lib.hid (stays kB.out gN)
              replace kC := Lib.hid (stays kC.out gN)
              replace kX := Lib.hid (stays kX.out gN)
              replace kU := Lib.hid (stays kU.out gN)
              replace kV := Lib.hid kV
              have A0 := frO_0 kA.out
              have A1 := frO_1 kA.out
              have B0 := frO_0 kB.out
              have B1 := frO_1 kB.out
              have C0 := frO_0 kC.out
              have C1 := frO_1 kC.out
              have X0 := frO_0 kX.out
              have X1 := frO_1 kX.out
              have U0 := frO_0 kU.out
              have U1 := frO_1 kU.out
              have V0 := frO_0 kV.out
              have V1 := frO_1 kV.out
              go_wp2_with (fail)
              refine (cz _).mono ?_
              rintro e w14 ⟨rfl, hB⟩
              replace L := Lib.hid (L.out.trans ((gN.trans (hB.mono gN.size)).mono L.out.size))
              replace kA := Lib.hid (stays kA.out hB)
              replace kB := Lib.hid (stays kB.out hB)
              replace kC := Lib.hid (stays kC.out hB)
              replace kX := Lib.hid (stays kX.out hB)
              replace kU := Lib.hid (stays kU.out hB)
              replace kV := Lib.hid (stays kV.out hB)
              generalize w13.heap.size = xV at *
              clear gN
              clear hB A0 A1 B0 B1 C0 C1 X0 X1 U0 U1 V0 V1
              simp only [mkV]
              obtain ⟨gN, kM⟩ := box_new w14 (zn) (zd)
              replace kA := Lib.hid (stays kA.out gN)
              replace kB := Lib.hid (stays kB.out gN)
              replace kC := Lib.hid (stays kC.out gN)
              replace kX := Lib.hid (stays kX.out gN)
              replace kU := Lib.hid (stays kU.out gN)
              replace kV := Lib.hid (stays kV.out gN)
              replace kM := Lib.hid kM
              have A0 := frO_0 kA.out
              have A1 := frO_1 kA.out
              have B0 := frO_0 kB.out
              have B1 := frO_1 kB.out
              have C0 := frO_0 kC.out
              have C1 := frO_1 kC.out
              have X0 := frO_0 kX.out
              have X1 := frO_1 kX.out
              have U0 := frO_0 kU.out
              have U1 := frO_1 kU.out
              have V0 := frO_0 kV.out
              have V1 := frO_1 kV.out
              have M0 := frO_0 kM.out
              have M1 := frO_1 kM.out
              go_wp2_with (fail)
              refine (awake_any _ (ht.below (L.out.trans (gN.mono L.out.size)))).mono ?_
              rintro e w15 ⟨rfl, hB⟩
              replace L := Lib.hid (L.out.trans ((gN.trans (hB.mono gN.size)).mono L.out.size))
              replace kA := Lib.hid (stays kA.out hB)
              replace kB := Lib.hid (stays kB.out hB)
              replace kC := Lib.hid (stays kC.out hB)
              replace kX := Lib.hid (stays kX.out hB)
              replace kU := Lib.hid (stays kU.out hB)
              replace kV := Lib.hid (stays kV.out hB)
              replace kM := Lib.hid (stays kM.out hB)
              generalize w14.heap.size = xM at *
              clear gN
              clear hB A0 A1 B0 B1 C0 C1 X0 X1 U0 U1 V0 V1 M0 M1
              have A0 := frO_0 kA.out
              have A1 := frO_1 kA.out
              have B0 := frO_0 kB.out
              have B1 := frO_1 kB.out
              have C0 := frO_0 kC.out
              have C1 := frO_1 kC.out
              have X0 := frO_0 kX.out
              have X1 := frO_1 kX.out
              have U0 := frO_0 kU.out
              have U1 := frO_1 kU.out
              have V0 := frO_0 kV.out
              have V1 := frO_1 kV.out
              have M0 := frO_0 kM.out
              have M1 := frO_1 kM.out
              go_wp2
              go_ret
              exact ⟨rfl, L.out⟩
          · have pcb : (pc != 0) = true := by rw [bne_iff_ne]; exact hpc
            have pce : (pc == 0) = false := by rw [beq_eq_false_iff_ne]; exact hpc
            clear hpc
            obtain ⟨⟨⟨dn, dd⟩, dc⟩, hd⟩ : ∃ r, mkF (pn * bd) (pd * bn) = r := ⟨_, rfl⟩
            have cd0 : ∀ W, _ := fun W => div_any pn pd bn bd W fp q1.fit
            rw [hd] at cd0
            go_wp2_with (fail)
            refine (cd0 _).mono ?_
            rintro e w11 ⟨rfl, hB⟩
            replace L := Lib.hid (L.out.trans ((gN.trans (hB.mono gN.size)).mono L.out.size))
            replace kA := Lib.hid (stays kA.out hB)
            replace kB := Lib.hid (stays kB.out hB)
            replace kC := Lib.hid (stays kC.out hB)
            replace kX := Lib.hid (stays kX.out hB)
            replace kP := Lib.hid (stays kP.out hB)
            generalize w10.heap.size = xP at *
            clear gN
            clear hB A0 A1 B0 B1 C0 C1 X0 X1 P0 P1
            simp only [mkV]
            obtain ⟨gN, kD⟩ := box_new w11 (dn) (dd)
            replace kA := Lib.hid (stays kA.out gN)
            replace kB := Lib.hid (stays kB.out gN)
            replace kC := Lib.hid (stays kC.out gN)
            replace kX := Lib.hid (stays kX.out gN)
            replace kP := Lib.hid (stays kP.out gN)
            replace kD := Lib.hid kD
            have A0 := frO_0 kA.out
            have A1 := frO_1 kA.out
            have B0 := frO_0 kB.out
            have B1 := frO_1 kB.out
            have C0 := frO_0 kC.out
            have C1 := frO_1 kC.out
            have X0 := frO_0 kX.out
            have X1 := frO_1 kX.out
            have P0 := frO_0 kP.out
            have P1 := frO_1 kP.out
            have D0 := frO_0 kD.out
            have D1 := frO_1 kD.out
            clear kP P0 P1
            obtain ⟨⟨⟨un, ud⟩, uc⟩, hu⟩ : ∃ r, mkF (xn * cn) (xd * cd) = r := ⟨_, rfl⟩
            have cu : ∀ W, _ := fun W => mul_any xn xd cn cd W fx q2.fit
            rw [hu] at cu
            obtain ⟨⟨⟨vn, vd⟩, vc⟩, hv⟩ : ∃ r, mkF (an * cn) (ad * cd) = r := ⟨_, rfl⟩
            have cv : ∀ W, _ := fun W => mul_any an ad cn cd W q0.fit q2.fit
            rw [hv] at cv
            have fv := fit_mk hv
            obtain ⟨⟨⟨zn, zd⟩, zc⟩, hz⟩ : ∃ r, mkF (bn * cn) (bd * cd) = r := ⟨_, rfl⟩
            have cz : ∀ W, _ := fun W => mul_any bn bd cn cd W q1.fit q2.fit
            rw [hz] at cz
            have fz := fit_mk hz
            go_wp2_with (fail)
            refine (cu _).mono ?_
            rintro e w12 ⟨rfl, hB⟩
            replace L := Lib.hid (L.out.trans ((gN.trans (hB.mono gN.size)).mono L.out.size))
            replace kA := Lib.hid (stays kA.out hB)
            replace kB := Lib.hid (stays kB.out hB)
            replace kC := Lib.hid (stays kC.out hB)
            replace kX := Lib.hid (stays kX.out hB)
            replace kD := Lib.hid (stays kD.out hB)
            generalize w11.heap.size = xD at *
            clear gN
            clear hB A0 A1 B0 B1 C0 C1 X0 X1 D0 D1
            simp only [mkV]
            obtain ⟨gN, kU⟩ := box_new w12 (un) (ud)
            replace kA := Lib.hid (stays kA.out gN)
            replace kB := Lib.hid (stays kB.out gN)
            replace kC := Lib.hid (stays kC.out gN)
            replace kX := Lib.hid (stays kX.out gN)
            replace kD := Lib.hid (stays kD.out gN)
            replace kU := Lib.hid kU
            have A0 := frO_0 kA.out
            have A1 := frO_1 kA.out
            have B0 := frO_0 kB.out
            have B1 := frO_1 kB.out
            have C0 := frO_0 kC.out
            have C1 := frO_1 kC.out
            have X0 := frO_0 kX.out
            have X1 := frO_1 kX.out
            have D0 := frO_0 kD.out
            have D1 := frO_1 kD.out
            have U0 := frO_0 kU.out
            have U1 := frO_1 kU.out
            clear kD D0 D1
            go_wp2_with (fail)
            refine (cv _).mono ?_
            rintro e w13 ⟨rfl, hB⟩
            replace L := Lib.hid (L.out.trans ((gN.trans (hB.mono gN.size)).mono L.out.size))
            replace kA := Lib.hid (stays kA.out hB)
            replace kB := Lib.hid (stays kB.out hB)
            replace kC := Lib.hid (stays kC.out hB)
            replace kX := Lib.hid (stays kX.out hB)
            replace kU := Lib.hid (stays kU.out hB)
            generalize w12.heap.size = xU at *
            clear gN
            clear hB A0 A1 B0 B1 C0 C1 X0 X1 U0 U1
            simp only [mkV]
            obtain ⟨gN, kV⟩ := box_new w13 (vn) (vd)
            replace kA := Lib.hid (stays kA.out gN)
            replace kB := Lib.hid (stays kB.out gN)
            replace kC := Lib.hid (stays kC.out gN)
            replace kX := Lib.hid (stays kX.out gN)
            replace kU := Lib.hid (stays kU.out gN)
            replace kV := Lib.hid kV
            have A0 := frO_0 kA.out
            have A1 := frO_1 kA.out
            have B0 := frO_0 kB.out
            have B1 := frO_1 kB.out
            have C0 := frO_0 kC.out
            have C1 := frO_1 kC.out
            have X0 := frO_0 kX.out
            have X1 := frO_1 kX.out
            have U0 := frO_0 kU.out
            have U1 := frO_1 kU.out
            have V0 := frO_0 kV.out
            have V1 := frO_1 kV.out
            go_wp2_with (fail)
            refine (cz _).mono ?_
            rintro e w14 ⟨rfl, hB⟩
            replace L := Lib.hid (L.out.trans ((gN.trans (hB.mono gN.size)).mono L.out.size))
            replace kA := Lib.hid (stays kA.out hB)
            replace kB := Lib.hid (stays kB.out hB)
            replace kC := Lib.hid (stays kC.out hB)
            replace kX := Lib.hid (stays kX.out hB)
            replace kU := Lib.hid (stays kU.out hB)
            replace kV := Lib.hid (stays kV.out hB)
            generalize w13.heap.size = xV at *
            clear gN
            clear hB A0 A1 B0 B1 C0 C1 X0 X1 U0 U1 V0 V1
            simp only [mkV]
            obtain ⟨gN, kM⟩ := box_new w14 (zn) (zd)
            replace kA := Lib.hid (stays kA.out gN)
            replace kB := Lib.hid (stays kB.out gN)
            replace kC := Lib.hid (stays kC.out gN)
            replace kX := Lib.hid (stays kX.out gN)
            replace kU := Lib.hid (stays kU.out gN)
            replace kV := Lib.hid (stays kV.out gN)
            replace kM := Lib.hid kM
            have A0 := frO_0 kA.out
            have A1 := frO_1 kA.out
            have B0 := frO_0 kB.out
            have B1 := frO_1 kB.out
            have C0 := frO_0 kC.out
            have C1 := frO_1 kC.out
            have X0 := frO_0 kX.out
            have X1 := frO_1 kX.out
            have U0 := frO_0 kU.out
            have U1 := frO_1 kU.out
            have V0 := frO_0 kV.out
            have V1 := frO_1 kV.out
            have M0 := frO_0 kM.out
            have M1 := frO_1 kM.out
            go_wp2_with (fail)
            refine (awake_any _ (ht.below (L.out.trans (gN.mono L.out.size)))).mono ?_
            rintro e w15 ⟨rfl, hB⟩
            replace L := Lib.hid (L.out.trans ((gN.trans (hB.mono gN.size)).mono L.out.size))
            replace kA := Lib.hid (stays kA.out hB)
            replace kB := Lib.hid (stays kB.out hB)
            replace kC := Lib.hid (stays kC.out hB)
            replace kX := Lib.hid (stays kX.out hB)
            replace kU := Lib.hid (stays kU.out hB)
            replace kV := Lib.hid (stays kV.out hB)
            replace kM := Lib.hid (stays kM.out hB)
            generalize w14.heap.size = xM at *
            clear gN
            clear hB A0 A1 B0 B1 C0 C1 X0 X1 U0 U1 V0 V1 M0 M1
            have A0 := frO_0 kA.out
            have A1 := frO_1 kA.out
            have B0 := frO_0 kB.out
            have B1 := frO_1 kB.out
            have C0 := frO_0 kC.out
            have C1 := frO_1 kC.out
            have X0 := frO_0 kX.out
            have X1 := frO_1 kX.out
            have U0 := frO_0 kU.out
            have U1 := frO_1 kU.out
            have V0 := frO_0 kV.out
            have V1 := frO_1 kV.out
            have M0 := frO_0 kM.out
            have M1 := frO_1 kM.out
            go_wp2
            go_ret
            exact ⟨rfl, L.out⟩
      · have e2 : valB cn cd = false := by rw [valB, decide_eq_false_iff_not]; exact q2
        rw [e2] at v2
        clear e2
        obtain ⟨g0, kA, kB, kC⟩ := enter3 w an ad bn bd cn cd
        have L := Lib.hid g0
        replace kA := Lib.hid kA
        replace kB := Lib.hid kB
        replace kC := Lib.hid kC
        clear g0
        have A0 := frO_0 kA.out
        have A1 := frO_1 kA.out
        have B0 := frO_0 kB.out
        have B1 := frO_1 kB.out
        have C0 := frO_0 kC.out
        have C1 := frO_1 kC.out
        go_enter Tryd.func9, Tryd.ntmps9
        go_wp2_with (fail)
        refine (v0 _).mono ?_
        rintro e w1 ⟨rfl, hB⟩
        replace L := Lib.hid (L.out.trans (hB.mono L.out.size))
        replace kA := Lib.hid (stays kA.out hB)
        replace kB := Lib.hid (stays kB.out hB)
        replace kC := Lib.hid (stays kC.out hB)
        clear hB A0 A1 B0 B1 C0 C1
        have A0 := frO_0 kA.out
        have A1 := frO_1 kA.out
        have B0 := frO_0 kB.out
        have B1 := frO_1 kB.out
        have C0 := frO_0 kC.out
        have C1 := frO_1 kC.out
        go_wp2_with (fail)
        refine (v1 _).mono ?_
        rintro e w2 ⟨rfl, hB⟩
        replace L := Lib.hid (L.out.trans (hB.mono L.out.size))
        replace kA := Lib.hid (stays kA.out hB)
        replace kB := Lib.hid (stays kB.out hB)
        replace kC := Lib.hid (stays kC.out hB)
        clear hB A0 A1 B0 B1 C0 C1
        have A0 := frO_0 kA.out
        have A1 := frO_1 kA.out
        have B0 := frO_0 kB.out
        have B1 := frO_1 kB.out
        have C0 := frO_0 kC.out
        have C1 := frO_1 kC.out
        go_wp2_with (fail)
        refine (v2 _).mono ?_
        rintro e w3 ⟨rfl, hB⟩
        replace L := Lib.hid (L.out.trans (hB.mono L.out.size))
        replace kA := Lib.hid (stays kA.out hB)
        replace kB := Lib.hid (stays kB.out hB)
        replace kC := Lib.hid (stays kC.out hB)
        clear hB A0 A1 B0 B1 C0 C1
        have A0 := frO_0 kA.out
        have A1 := frO_1 kA.out
        have B0 := frO_0 kB.out
        have B1 := frO_1 kB.out
        have C0 := frO_0 kC.out
        have C1 := frO_1 kC.out
        go_wp2_with (fail)
        refine (awake_any _ (ht.below L.out)).mono ?_
        rintro e w4 ⟨rfl, hB⟩
        replace L := Lib.hid (L.out.trans (hB.mono L.out.size))
        replace kA := Lib.hid (stays kA.out hB)
        replace kB := Lib.hid (stays kB.out hB)
        replace kC := Lib.hid (stays kC.out hB)
        clear hB A0 A1 B0 B1 C0 C1
        have A0 := frO_0 kA.out
        have A1 := frO_1 kA.out
        have B0 := frO_0 kB.out
        have B1 := frO_1 kB.out
        have C0 := frO_0 kC.out
        have C1 := frO_1 kC.out
        go_wp2
        go_ret
        exact ⟨rfl, L.out⟩
    · have e1 : valB bn bd = false := by rw [valB, decide_eq_false_iff_not]; exact q1
      rw [e1] at v1
      clear e1
      obtain ⟨g0, kA, kB, kC⟩ := enter3 w an ad bn bd cn cd
      have L := Lib.hid g0
      replace kA := Lib.hid kA
      replace kB := Lib.hid kB
      replace kC := Lib.hid kC
      clear g0
      have A0 := frO_0 kA.out
      have A1 := frO_1 kA.out
      have B0 := frO_0 kB.out
      have B1 := frO_1 kB.out
      have C0 := frO_0 kC.out
      have C1 := frO_1 kC.out
      go_enter Tryd.func9, Tryd.ntmps9
      go_wp2_with (fail)
      refine (v0 _).mono ?_
      rintro e w1 ⟨rfl, hB⟩
      replace L := Lib.hid (L.out.trans (hB.mono L.out.size))
      replace kA := Lib.hid (stays kA.out hB)
      replace kB := Lib.hid (stays kB.out hB)
      replace kC := Lib.hid (stays kC.out hB)
      clear hB A0 A1 B0 B1 C0 C1
      have A0 := frO_0 kA.out
      have A1 := frO_1 kA.out
      have B0 := frO_0 kB.out
      have B1 := frO_1 kB.out
      have C0 := frO_0 kC.out
      have C1 := frO_1 kC.out
      go_wp2_with (fail)
      refine (v1 _).mono ?_
      rintro e w2 ⟨rfl, hB⟩
      replace L := Lib.hid (L.out.trans (hB.mono L.out.size))
      replace kA := Lib.hid (stays kA.out hB)
      replace kB := Lib.hid (stays kB.out hB)
      replace kC := Lib.hid (stays kC.out hB)
      clear hB A0 A1 B0 B1 C0 C1
      have A0 := frO_0 kA.out
      have A1 := frO_1 kA.out
      have B0 := frO_0 kB.out
      have B1 := frO_1 kB.out
      have C0 := frO_0 kC.out
      have C1 := frO_1 kC.out
      go_wp2_with (fail)
      refine (awake_any _ (ht.below L.out)).mono ?_
      rintro e w3 ⟨rfl, hB⟩
      replace L := Lib.hid (L.out.trans (hB.mono L.out.size))
      replace kA := Lib.hid (stays kA.out hB)
      replace kB := Lib.hid (stays kB.out hB)
      replace kC := Lib.hid (stays kC.out hB)
      clear hB A0 A1 B0 B1 C0 C1
      have A0 := frO_0 kA.out
      have A1 := frO_1 kA.out
      have B0 := frO_0 kB.out
      have B1 := frO_1 kB.out
      have C0 := frO_0 kC.out
      have C1 := frO_1 kC.out
      go_wp2
      go_ret
      exact ⟨rfl, L.out⟩
  · have e0 : valB an ad = false := by rw [valB, decide_eq_false_iff_not]; exact q0
    rw [e0] at v0
    clear e0
    obtain ⟨g0, kA, kB, kC⟩ := enter3 w an ad bn bd cn cd
    have L := Lib.hid g0
    replace kA := Lib.hid kA
    replace kB := Lib.hid kB
    replace kC := Lib.hid kC
    clear g0
    have A0 := frO_0 kA.out
    have A1 := frO_1 kA.out
    have B0 := frO_0 kB.out
    have B1 := frO_1 kB.out
    have C0 := frO_0 kC.out
    have C1 := frO_1 kC.out
    go_enter Tryd.func9, Tryd.ntmps9
    go_wp2_with (fail)
    refine (v0 _).mono ?_
    rintro e w1 ⟨rfl, hB⟩
    replace L := Lib.hid (L.out.trans (hB.mono L.out.size))
    replace kA := Lib.hid (stays kA.out hB)
    replace kB := Lib.hid (stays kB.out hB)
    replace kC := Lib.hid (stays kC.out hB)
    clear hB A0 A1 B0 B1 C0 C1
    have A0 := frO_0 kA.out
    have A1 := frO_1 kA.out
    have B0 := frO_0 kB.out
    have B1 := frO_1 kB.out
    have C0 := frO_0 kC.out
    have C1 := frO_1 kC.out
    go_wp2_with (fail)
    refine (awake_any _ (ht.below L.out)).mono ?_
    rintro e w2 ⟨rfl, hB⟩
    replace L := Lib.hid (L.out.trans (hB.mono L.out.size))
    replace kA := Lib.hid (stays kA.out hB)
    replace kB := Lib.hid (stays kB.out hB)
    replace kC := Lib.hid (stays kC.out hB)
    clear hB A0 A1 B0 B1 C0 C1
    have A0 := frO_0 kA.out
    have A1 := frO_1 kA.out
    have B0 := frO_0 kB.out
    have B1 := frO_1 kB.out
    have C0 := frO_0 kC.out
    have C1 := frO_1 kC.out
    go_wp2
    go_ret
    exact ⟨rfl, L.out⟩

end Go.Proofs.YtckedklopgnloaaDoor
