/- FracOrder: the law, walked (by program: wip/tools/gen_fraclaws.py). -/
import Derived.Test.YtckedklopgnloaaDoorFracLaw
import Derived.Test.YtckedklopgnloaaDoorFracMath2
namespace Go.Proofs.YtckedklopgnloaaDoor
open Go.RowKit

set_option maxRecDepth 100000 in
set_option maxHeartbeats 20000000 in

theorem law_FracOrder (an ad bn bd cn cd : Int) (w : World) (han0 : -9223372036854775808 ≤ an) (han1 : an < 9223372036854775808) (had0 : -9223372036854775808 ≤ ad) (had1 : ad < 9223372036854775808) (hbn0 : -9223372036854775808 ≤ bn) (hbn1 : bn < 9223372036854775808) (hbd0 : -9223372036854775808 ≤ bd) (hbd1 : bd < 9223372036854775808) (hcn0 : -9223372036854775808 ≤ cn) (hcn1 : cn < 9223372036854775808) (hcd0 : -9223372036854775808 ≤ cd) (hcd1 : cd < 9223372036854775808) (ht : TabT w) :
    Calls Tryd.prog 6 #[frV an ad, frV bn bd, frV cn cd] w fun e w' => e = .returned (.bool true) ∧ Below w.heap.size w w' := by
  have v0 : ∀ W, _ := fun W => rvalid_any an ad W han0 han1 had0 had1
  have v1 : ∀ W, _ := fun W => rvalid_any bn bd W hbn0 hbn1 hbd0 hbd1
  have v2 : ∀ W, _ := fun W => rvalid_any cn cd W hcn0 hcn1 hcd0 hcd1
  by_cases q0 : Val an ad
  · have e0 := (valB_iff an ad).2 q0
    rw [e0] at v0
    clear e0
    by_cases q1 : Val bn bd
    · have e1 := (valB_iff bn bd).2 q1
      rw [e1] at v1
      clear e1
      by_cases q2 : Val cn cd
      · have e2 := (valB_iff cn cd).2 q2
        rw [e2] at v2
        clear e2
        obtain ⟨g0, kA, kB, kC⟩ := enter3 w an ad bn bd cn cd
        have L := Lib.hid g0
        replace kA := Lib.hid kA
        replace kB := Lib.hid kB
        replace kC := Lib.hid kC
        clear g0
        have A0 := frO_0 kA.out
        have A1 := frO_1 kA.out
        have B0 := frO_0 kB.out
        have B1 := frO_1 kB.out
        have C0 := frO_0 kC.out
        have C1 := frO_1 kC.out
        go_enter Tryd.func6, Tryd.ntmps6
        go_wp2_with (fail)
        refine (v0 _).mono ?_
        rintro e w1 ⟨rfl, hB⟩
        replace L := Lib.hid (L.out.trans (hB.mono L.out.size))
        replace kA := Lib.hid (stays kA.out hB)
        replace kB := Lib.hid (stays kB.out hB)
        replace kC := Lib.hid (stays kC.out hB)
        clear hB A0 A1 B0 B1 C0 C1
        have A0 := frO_0 kA.out
        have A1 := frO_1 kA.out
        have B0 := frO_0 kB.out
        have B1 := frO_1 kB.out
        have C0 := frO_0 kC.out
        have C1 := frO_1 kC.out
        go_wp2_with (fail)
        refine (v1 _).mono ?_
        rintro e w2 ⟨rfl, hB⟩
        replace L := Lib.hid (L.out.trans (hB.mono L.out.size))
        replace kA := Lib.hid (stays kA.out hB)
        replace kB := Lib.hid (stays kB.out hB)
        replace kC := Lib.hid (stays kC.out hB)
        clear hB A0 A1 B0 B1 C0 C1
        have A0 := frO_0 kA.out
        have A1 := frO_1 kA.out
        have B0 := frO_0 kB.out
        have B1 := frO_1 kB.out
        have C0 := frO_0 kC.out
        have C1 := frO_1 kC.out
        go_wp2_with (fail)
        refine (v2 _).mono ?_
        rintro e w3 ⟨rfl, hB⟩
        replace L := Lib.hid (L.out.trans (hB.mono L.out.size))
        replace kA := Lib.hid (stays kA.out hB)
        replace kB := Lib.hid (stays kB.out hB)
        replace kC := Lib.hid (stays kC.out hB)
        clear hB A0 A1 B0 B1 C0 C1
        have A0 := frO_0 kA.out
        have A1 := frO_1 kA.out
        have B0 := frO_0 kB.out
        have B1 := frO_1 kB.out
        have C0 := frO_0 kC.out
        have C1 := frO_1 kC.out
        have p0 : 0 < ad := by have := q0.1; omega
        have p1 : 0 < bd := by have := q1.1; omega
        have p2 : 0 < cd := by have := q2.1; omega
        rcases cmp3 an ad bn bd with ⟨l1, e1, e2⟩ | ⟨l1, e1, e2⟩ | ⟨l1, e1, e2⟩
        · skip
          by_cases hh : an = bn
          · subst hh
            have hne : ¬ ad = bd := fun h => by rw [h] at l1; omega
            have cAB : ∀ W, _ := fun W => cmp_any an ad an bd W q0.fit q1.fit
            rw [e1] at cAB
            have cBA : ∀ W, _ := fun W => cmp_any an bd an ad W q1.fit q0.fit
            rw [e2] at cBA
            go_wp2_with (fail)
            refine (cAB _).mono ?_
            rintro e w4 ⟨rfl, hB⟩
            replace L := Lib.hid (L.out.trans (hB.mono L.out.size))
            replace kA := Lib.hid (stays kA.out hB)
            replace kB := Lib.hid (stays kB.out hB)
            replace kC := Lib.hid (stays kC.out hB)
            clear hB A0 A1 B0 B1 C0 C1
            have A0 := frO_0 kA.out
            have A1 := frO_1 kA.out
            have B0 := frO_0 kB.out
            have B1 := frO_1 kB.out
            have C0 := frO_0 kC.out
            have C1 := frO_1 kC.out
            go_wp2_with (fail)
            refine (cBA _).mono ?_
            rintro e w5 ⟨rfl, hB⟩
            replace L := Lib.hid (L.out.trans (hB.mono L.out.size))
            replace kA := Lib.hid (stays kA.out hB)
            replace kB := Lib.hid (stays kB.out hB)
            replace kC := Lib.hid (stays kC.out hB)
            clear hB A0 A1 B0 B1 C0 C1
            have A0 := frO_0 kA.out
            have A1 := frO_1 kA.out
            have B0 := frO_0 kB.out
            have B1 := frO_1 kB.out
            have C0 := frO_0 kC.out
            have C1 := frO_1 kC.out
            by_cases l2 : an * cd ≤ cn * bd
            · skip
              have u1 : cmpF an bd cn cd ≤ 0 := cmp_le l2
              have u2 : cmpF an ad cn cd ≤ 0 := cmp_le (le_trans_q p0 p1 p2 (by omega) l2)
              have cBC : ∀ W, _ := fun W => cmp_any an bd cn cd W q1.fit q2.fit
              have cAC : ∀ W, _ := fun W => cmp_any an ad cn cd W q0.fit q2.fit
              generalize cmpF an bd cn cd = y1 at *
              generalize cmpF an ad cn cd = y2 at *
              go_wp2_with (fail)
              refine (cBC _).mono ?_
              rintro e w6 ⟨rfl, hB⟩
              replace L := Lib.hid (L.out.trans (hB.mono L.out.size))
              replace kA := Lib.hid (stays kA.out hB)
              replace kB := Lib.hid (stays kB.out hB)
              replace kC := Lib.hid (stays kC.out hB)
              clear hB A0 A1 B0 B1 C0 C1
              have A0 := frO_0 kA.out
              have A1 := frO_1 kA.out
              have B0 := frO_0 kB.out
              have B1 := frO_1 kB.out
              have C0 := frO_0 kC.out
              have C1 := frO_1 kC.out
              go_wp2_with (fail)
              refine (cAC _).mono ?_
              rintro e w7 ⟨rfl, hB⟩
              replace L := Lib.hid (L.out.trans (hB.mono L.out.size))
              replace kA := Lib.hid (stays kA.out hB)
              replace kB := Lib.hid (stays kB.out hB)
              replace kC := Lib.hid (stays kC.out hB)
              clear hB A0 A1 B0 B1 C0 C1
              have A0 := frO_0 kA.out
              have A1 := frO_1 kA.out
              have B0 := frO_0 kB.out
              have B1 := frO_1 kB.out
              have C0 := frO_0 kC.out
              have C1 := frO_1 kC.out
              obtain ⟨⟨⟨sn, sd⟩, sc⟩, hs⟩ : ∃ r, mkF (an * bd - an * ad) (ad * bd) = r := ⟨_, rfl⟩
              obtain ⟨⟨⟨pn, pd⟩, pc⟩, hp⟩ : ∃ r, mkF (an * cd + cn * ad) (ad * cd) = r := ⟨_, rfl⟩
              obtain ⟨⟨⟨tn, td⟩, tc⟩, htt⟩ : ∃ r, mkF (an * cd + cn * bd) (bd * cd) = r := ⟨_, rfl⟩
              have cS : ∀ W, _ := fun W => sub_any an ad an bd W q0.fit q1.fit
              rw [hs] at cS
              have cP : ∀ W, _ := fun W => add_any an ad cn cd W q0.fit q2.fit
              rw [hp] at cP
              have cT : ∀ W, _ := fun W => add_any an bd cn cd W q1.fit q2.fit
              rw [htt] at cT
              by_cases hsc : sc = 0
              · subst hsc
                have r1 : sn < 0 := (sub_sign p0 p1 hs).1.2 l1
                go_wp2_with (fail)
                refine (cS _).mono ?_
                rintro e w8 ⟨rfl, hB⟩
                replace L := Lib.hid (L.out.trans (hB.mono L.out.size))
                replace kA := Lib.hid (stays kA.out hB)
                replace kB := Lib.hid (stays kB.out hB)
                replace kC := Lib.hid (stays kC.out hB)
                clear hB A0 A1 B0 B1 C0 C1
                simp only [mkV]
                obtain ⟨gN, kS⟩ := box_new w8 (sn) (sd)
                replace kA := Lib.hid (stays kA.out gN)
                replace kB := Lib.hid (stays kB.out gN)
                replace kC := Lib.hid (stays kC.out gN)
                replace kS := Lib.hid kS
                have A0 := frO_0 kA.out
                have A1 := frO_1 kA.out
                have B0 := frO_0 kB.out
                have B1 := frO_1 kB.out
                have C0 := frO_0 kC.out
                have C1 := frO_1 kC.out
                have S0 := frO_0 kS.out
                have S1 := frO_1 kS.out
                go_wp2_with (fail)
                refine (cP _).mono ?_
                rintro e w9 ⟨rfl, hB⟩
                replace L := Lib.hid (L.out.trans ((gN.trans (hB.mono gN.size)).mono L.out.size))
                replace kA := Lib.hid (stays kA.out hB)
                replace kB := Lib.hid (stays kB.out hB)
                replace kC := Lib.hid (stays kC.out hB)
                replace kS := Lib.hid (stays kS.out hB)
                generalize w8.heap.size = xS at *
                clear gN
                clear hB A0 A1 B0 B1 C0 C1 S0 S1
                simp only [mkV]
                obtain ⟨gN, kP⟩ := box_new w9 (pn) (pd)
                replace kA := Lib.hid (stays kA.out gN)
                replace kB := Lib.hid (stays kB.out gN)
                replace kC := Lib.hid (stays kC.out gN)
                replace kS := Lib.hid (stays kS.out gN)
                replace kP := Lib.hid kP
                have A0 := frO_0 kA.out
                have A1 := frO_1 kA.out
                have B0 := frO_0 kB.out
                have B1 := frO_1 kB.out
                have C0 := frO_0 kC.out
                have C1 := frO_1 kC.out
                have S0 := frO_0 kS.out
                have S1 := frO_1 kS.out
                have P0 := frO_0 kP.out
                have P1 := frO_1 kP.out
                go_wp2_with (fail)
                refine (cT _).mono ?_
                rintro e w10 ⟨rfl, hB⟩
                replace L := Lib.hid (L.out.trans ((gN.trans (hB.mono gN.size)).mono L.out.size))
                replace kA := Lib.hid (stays kA.out hB)
                replace kB := Lib.hid (stays kB.out hB)
                replace kC := Lib.hid (stays kC.out hB)
                replace kS := Lib.hid (stays kS.out hB)
                replace kP := Lib.hid (stays kP.out hB)
                generalize w9.heap.size = xP at *
                clear gN
                clear hB A0 A1 B0 B1 C0 C1 S0 S1 P0 P1
                simp only [mkV]
                obtain ⟨gN, kT⟩ := box_new w10 (tn) (td)
                replace kA := Lib.hid (stays kA.out gN)
                replace kB := Lib.hid (stays kB.out gN)
                replace kC := Lib.hid (stays kC.out gN)
                replace kS := Lib.hid (stays kS.out gN)
                replace kP := Lib.hid (stays kP.out gN)
                replace kT := Lib.hid kT
                have A0 := frO_0 kA.out
                have A1 := frO_1 kA.out
                have B0 := frO_0 kB.out
                have B1 := frO_1 kB.out
                have C0 := frO_0 kC.out
                have C1 := frO_1 kC.out
                have S0 := frO_0 kS.out
                have S1 := frO_1 kS.out
                have P0 := frO_0 kP.out
                have P1 := frO_1 kP.out
                have T0 := frO_0 kT.out
                have T1 := frO_1 kT.out
                by_cases hpc : pc = 0
                · subst hpc
                  by_cases htc : tc = 0
                  · subst htc
                    have cC : ∀ W, _ := fun W => cmp_any pn pd tn td W (fit_mk hp) (fit_mk htt)
                    rw [add_cmp p0 p1 p2 hp htt, e1] at cC
                    go_wp2_with (fail)
                    refine (cC _).mono ?_
                    rintro e w11 ⟨rfl, hB⟩
                    replace L := Lib.hid (L.out.trans ((gN.trans (hB.mono gN.size)).mono L.out.size))
                    replace kA := Lib.hid (stays kA.out hB)
                    replace kB := Lib.hid (stays kB.out hB)
                    replace kC := Lib.hid (stays kC.out hB)
                    replace kS := Lib.hid (stays kS.out hB)
                    replace kP := Lib.hid (stays kP.out hB)
                    replace kT := Lib.hid (stays kT.out hB)
                    generalize w10.heap.size = xT at *
                    clear gN
                    clear hB A0 A1 B0 B1 C0 C1 S0 S1 P0 P1 T0 T1
                    have A0 := frO_0 kA.out
                    have A1 := frO_1 kA.out
                    have B0 := frO_0 kB.out
                    have B1 := frO_1 kB.out
                    have C0 := frO_0 kC.out
                    have C1 := frO_1 kC.out
                    have S0 := frO_0 kS.out
                    have S1 := frO_1 kS.out
                    have P0 := frO_0 kP.out
                    have P1 := frO_1 kP.out
                    have T0 := frO_0 kT.out
                    have T1 := frO_1 kT.out
                    go_wp2_with (fail)
                    refine (awake_any _ (ht.below L.out)).mono ?_
                    rintro e w12 ⟨rfl, hB⟩
                    replace L := Lib.hid (L.out.trans (hB.mono L.out.size))
                    replace kA := Lib.hid (stays kA.out hB)
                    replace kB := Lib.hid (stays kB.out hB)
                    replace kC := Lib.hid (stays kC.out hB)
                    replace kS := Lib.hid (stays kS.out hB)
                    replace kP := Lib.hid (stays kP.out hB)
                    replace kT := Lib.hid (stays kT.out hB)
                    clear hB A0 A1 B0 B1 C0 C1 S0 S1 P0 P1 T0 T1
                    have A0 := frO_0 kA.out
                    have A1 := frO_1 kA.out
                    have B0 := frO_0 kB.out
                    have B1 := frO_1 kB.out
                    have C0 := frO_0 kC.out
                    have C1 := frO_1 kC.out
                    have S0 := frO_0 kS.out
                    have S1 := frO_1 kS.out
                    have P0 := frO_0 kP.out
                    have P1 := frO_1 kP.out
                    have T0 := frO_0 kT.out
                    have T1 := frO_1 kT.out
                    go_wp2
                    go_ret
                    exact ⟨rfl, L.out⟩
                  · have htb : (tc != 0) = true := by rw [bne_iff_ne]; exact htc
                    clear htc
                    go_wp2_with (fail)
                    refine (awake_any _ (ht.below (L.out.trans (gN.mono L.out.size)))).mono ?_
                    rintro e w11 ⟨rfl, hB⟩
                    replace L := Lib.hid (L.out.trans ((gN.trans (hB.mono gN.size)).mono L.out.size))
                    replace kA := Lib.hid (stays kA.out hB)
                    replace kB := Lib.hid (stays kB.out hB)
                    replace kC := Lib.hid (stays kC.out hB)
                    replace kS := Lib.hid (stays kS.out hB)
                    replace kP := Lib.hid (stays kP.out hB)
                    replace kT := Lib.hid (stays kT.out hB)
                    generalize w10.heap.size = xT at *
                    clear gN
                    clear hB A0 A1 B0 B1 C0 C1 S0 S1 P0 P1 T0 T1
                    have A0 := frO_0 kA.out
                    have A1 := frO_1 kA.out
                    have B0 := frO_0 kB.out
                    have B1 := frO_1 kB.out
                    have C0 := frO_0 kC.out
                    have C1 := frO_1 kC.out
                    have S0 := frO_0 kS.out
                    have S1 := frO_1 kS.out
                    have P0 := frO_0 kP.out
                    have P1 := frO_1 kP.out
                    have T0 := frO_0 kT.out
                    have T1 := frO_1 kT.out
                    go_wp2
                    go_ret
                    exact ⟨rfl, L.out⟩
                · have hpb : (pc != 0) = true := by rw [bne_iff_ne]; exact hpc
                  clear hpc
                  go_wp2_with (fail)
                  refine (awake_any _ (ht.below (L.out.trans (gN.mono L.out.size)))).mono ?_
                  rintro e w11 ⟨rfl, hB⟩
                  replace L := Lib.hid (L.out.trans ((gN.trans (hB.mono gN.size)).mono L.out.size))
                  replace kA := Lib.hid (stays kA.out hB)
                  replace kB := Lib.hid (stays kB.out hB)
                  replace kC := Lib.hid (stays kC.out hB)
                  replace kS := Lib.hid (stays kS.out hB)
                  replace kP := Lib.hid (stays kP.out hB)
                  replace kT := Lib.hid (stays kT.out hB)
                  generalize w10.heap.size = xT at *
                  clear gN
                  clear hB A0 A1 B0 B1 C0 C1 S0 S1 P0 P1 T0 T1
                  have A0 := frO_0 kA.out
                  have A1 := frO_1 kA.out
                  have B0 := frO_0 kB.out
                  have B1 := frO_1 kB.out
                  have C0 := frO_0 kC.out
                  have C1 := frO_1 kC.out
                  have S0 := frO_0 kS.out
                  have S1 := frO_1 kS.out
                  have P0 := frO_0 kP.out
                  have P1 := frO_1 kP.out
                  have T0 := frO_0 kT.out
                  have T1 := frO_1 kT.out
                  go_wp2
                  go_ret
                  exact ⟨rfl, L.out⟩
              · have hsb : (sc == 0) = false := by rw [beq_eq_false_iff_ne]; exact hsc
                clear hsc
                go_wp2_with (fail)
                refine (cS _).mono ?_
                rintro e w8 ⟨rfl, hB⟩
                replace L := Lib.hid (L.out.trans (hB.mono L.out.size))
                replace kA := Lib.hid (stays kA.out hB)
                replace kB := Lib.hid (stays kB.out hB)
                replace kC := Lib.hid (stays kC.out hB)
                clear hB A0 A1 B0 B1 C0 C1
                simp only [mkV]
                obtain ⟨gN, kS⟩ := box_new w8 (sn) (sd)
                replace kA := Lib.hid (stays kA.out gN)
                replace kB := Lib.hid (stays kB.out gN)
                replace kC := Lib.hid (stays kC.out gN)
                replace kS := Lib.hid kS
                have A0 := frO_0 kA.out
                have A1 := frO_1 kA.out
                have B0 := frO_0 kB.out
                have B1 := frO_1 kB.out
                have C0 := frO_0 kC.out
                have C1 := frO_1 kC.out
                have S0 := frO_0 kS.out
                have S1 := frO_1 kS.out
                go_wp2_with (fail)
                refine (cP _).mono ?_
                rintro e w9 ⟨rfl, hB⟩
                replace L := Lib.hid (L.out.trans ((gN.trans (hB.mono gN.size)).mono L.out.size))
                replace kA := Lib.hid (stays kA.out hB)
                replace kB := Lib.hid (stays kB.out hB)
                replace kC := Lib.hid (stays kC.out hB)
                replace kS := Lib.hid (stays kS.out hB)
                generalize w8.heap.size = xS at *
                clear gN
                clear hB A0 A1 B0 B1 C0 C1 S0 S1
                simp only [mkV]
                obtain ⟨gN, kP⟩ := box_new w9 (pn) (pd)
                replace kA := Lib.hid (stays kA.out gN)
                replace kB := Lib.hid (stays kB.out gN)
                replace kC := Lib.hid (stays kC.out gN)
                replace kS := Lib.hid (stays kS.out gN)
                replace kP := Lib.hid kP
                have A0 := frO_0 kA.out
                have A1 := frO_1 kA.out
                have B0 := frO_0 kB.out
                have B1 := frO_1 kB.out
                have C0 := frO_0 kC.out
                have C1 := frO_1 kC.out
                have S0 := frO_0 kS.out
                have S1 := frO_1 kS.out
                have P0 := frO_0 kP.out
                have P1 := frO_1 kP.out
                go_wp2_with (fail)
                refine (cT _).mono ?_
                rintro e w10 ⟨rfl, hB⟩
                replace L := Lib.hid (L.out.trans ((gN.trans (hB.mono gN.size)).mono L.out.size))
                replace kA := Lib.hid (stays kA.out hB)
                replace kB := Lib.hid (stays kB.out hB)
                replace kC := Lib.hid (stays kC.out hB)
                replace kS := Lib.hid (stays kS.out hB)
                replace kP := Lib.hid (stays kP.out hB)
                generalize w9.heap.size = xP at *
                clear gN
                clear hB A0 A1 B0 B1 C0 C1 S0 S1 P0 P1
                simp only [mkV]
                obtain ⟨gN, kT⟩ := box_new w10 (tn) (td)
                replace kA := Lib.hid (stays kA.out gN)
                replace kB := Lib.hid (stays kB.out gN)
                replace kC := Lib.hid (stays kC.out gN)
                replace kS := Lib.hid (stays kS.out gN)
                replace kP := Lib.hid (stays kP.out gN)
                replace kT := Lib.hid kT
                have A0 := frO_0 kA.out
                have A1 := frO_1 kA.out
                have B0 := frO_0 kB.out
                have B1 := frO_1 kB.out
                have C0 := frO_0 kC.out
                have C1 := frO_1 kC.out
                have S0 := frO_0 kS.out
                have S1 := frO_1 kS.out
                have P0 := frO_0 kP.out
                have P1 := frO_1 kP.out
                have T0 := frO_0 kT.out
                have T1 := frO_1 kT.out
                by_cases hpc : pc = 0
                · subst hpc
                  by_cases htc : tc = 0
                  · subst htc
                    have cC : ∀ W, _ := fun W => cmp_any pn pd tn td W (fit_mk hp) (fit_mk htt)
                    rw [add_cmp p0 p1 p2 hp htt, e1] at cC
                    go_wp2_with (fail)
                    refine (cC _).mono ?_
                    rintro e w11 ⟨rfl, hB⟩
                    replace L := Lib.hid (L.out.trans ((gN.trans (hB.mono gN.size)).mono L.out.size))
                    replace kA := Lib.hid (stays kA.out hB)
                    replace kB := Lib.hid (stays kB.out hB)
                    replace kC := Lib.hid (stays kC.out hB)
                    replace kS := Lib.hid (stays kS.out hB)
                    replace kP := Lib.hid (stays kP.out hB)
                    replace kT := Lib.hid (stays kT.out hB)
                    generalize w10.heap.size = xT at *
                    clear gN
                    clear hB A0 A1 B0 B1 C0 C1 S0 S1 P0 P1 T0 T1
                    have A0 := frO_0 kA.out
                    have A1 := frO_1 kA.out
                    have B0 := frO_0 kB.out
                    have B1 := frO_1 kB.out
                    have C0 := frO_0 kC.out
                    have C1 := frO_1 kC.out
                    have S0 := frO_0 kS.out
                    have S1 := frO_1 kS.out
                    have P0 := frO_0 kP.out
                    have P1 := frO_1 kP.out
                    have T0 := frO_0 kT.out
                    have T1 := frO_1 kT.out
                    go_wp2_with (fail)
                    refine (awake_any _ (ht.below L.out)).mono ?_
                    rintro e w12 ⟨rfl, hB⟩
                    replace L := Lib.hid (L.out.trans (hB.mono L.out.size))
                    replace kA := Lib.hid (stays kA.out hB)
                    replace kB := Lib.hid (stays kB.out hB)
                    replace kC := Lib.hid (stays kC.out hB)
                    replace kS := Lib.hid (stays kS.out hB)
                    replace kP := Lib.hid (stays kP.out hB)
                    replace kT := Lib.hid (stays kT.out hB)
                    clear hB A0 A1 B0 B1 C0 C1 S0 S1 P0 P1 T0 T1
                    have A0 := frO_0 kA.out
                    have A1 := frO_1 kA.out
                    have B0 := frO_0 kB.out
                    have B1 := frO_1 kB.out
                    have C0 := frO_0 kC.out
                    have C1 := frO_1 kC.out
                    have S0 := frO_0 kS.out
                    have S1 := frO_1 kS.out
                    have P0 := frO_0 kP.out
                    have P1 := frO_1 kP.out
                    have T0 := frO_0 kT.out
                    have T1 := frO_1 kT.out
                    go_wp2
                    go_ret
                    exact ⟨rfl, L.out⟩
                  · have htb : (tc != 0) = true := by rw [bne_iff_ne]; exact htc
                    clear htc
                    go_wp2_with (fail)
                    refine (awake_any _ (ht.below (L.out.trans (gN.mono L.out.size)))).mono ?_
                    rintro e w11 ⟨rfl, hB⟩
                    replace L := Lib.hid (L.out.trans ((gN.trans (hB.mono gN.size)).mono L.out.size))
                    replace kA := Lib.hid (stays kA.out hB)
                    replace kB := Lib.hid (stays kB.out hB)
                    replace kC := Lib.hid (stays kC.out hB)
                    replace kS := Lib.hid (stays kS.out hB)
                    replace kP := Lib.hid (stays kP.out hB)
                    replace kT := Lib.hid (stays kT.out hB)
                    generalize w10.heap.size = xT at *
                    clear gN
                    clear hB A0 A1 B0 B1 C0 C1 S0 S1 P0 P1 T0 T1
                    have A0 := frO_0 kA.out
                    have A1 := frO_1 kA.out
                    have B0 := frO_0 kB.out
                    have B1 := frO_1 kB.out
                    have C0 := frO_0 kC.out
                    have C1 := frO_1 kC.out
                    have S0 := frO_0 kS.out
                    have S1 := frO_1 kS.out
                    have P0 := frO_0 kP.out
                    have P1 := frO_1 kP.out
                    have T0 := frO_0 kT.out
                    have T1 := frO_1 kT.out
                    go_wp2
                    go_ret
                    exact ⟨rfl, L.out⟩
                · have hpb : (pc != 0) = true := by rw [bne_iff_ne]; exact hpc
                  clear hpc
                  go_wp2_with (fail)
                  refine (awake_any _ (ht.below (L.out.trans (gN.mono L.out.size)))).mono ?_
                  rintro e w11 ⟨rfl, hB⟩
                  replace L := Lib.hid (L.out.trans ((gN.trans (hB.mono gN.size)).mono L.out.size))
                  replace kA := Lib.hid (stays kA.out hB)
                  replace kB := Lib.hid (stays kB.out hB)
                  replace kC := Lib.hid (stays kC.out hB)
                  replace kS := Lib.hid (stays kS.out hB)
                  replace kP := Lib.hid (stays kP.out hB)
                  replace kT := Lib.hid (stays kT.out hB)
                  generalize w10.heap.size = xT at *
                  clear gN
                  clear hB A0 A1 B0 B1 C0 C1 S0 S1 P0 P1 T0 T1
                  have A0 := frO_0 kA.out
                  have A1 := frO_1 kA.out
                  have B0 := frO_0 kB.out
                  have B1 := frO_1 kB.out
                  have C0 := frO_0 kC.out
                  have C1 := frO_1 kC.out
                  have S0 := frO_0 kS.out
                  have S1 := frO_1 kS.out
                  have P0 := frO_0 kP.out
                  have P1 := frO_1 kP.out
                  have T0 := frO_0 kT.out
                  have T1 := frO_1 kT.out
                  go_wp2
                  go_ret
                  exact ⟨rfl, L.out⟩
            · skip
              have u1 : ¬ cmpF an bd cn cd ≤ 0 := fun h => l2 (cmp_le_iff.1 h)
              have u1 : 0 < cmpF an bd cn cd := by omega
              have cBC : ∀ W, _ := fun W => cmp_any an bd cn cd W q1.fit q2.fit
              generalize cmpF an bd cn cd = y1 at *
              go_wp2_with (fail)
              refine (cBC _).mono ?_
              rintro e w6 ⟨rfl, hB⟩
              replace L := Lib.hid (L.out.trans (hB.mono L.out.size))
              replace kA := Lib.hid (stays kA.out hB)
              replace kB := Lib.hid (stays kB.out hB)
              replace kC := Lib.hid (stays kC.out hB)
              clear hB A0 A1 B0 B1 C0 C1
              have A0 := frO_0 kA.out
              have A1 := frO_1 kA.out
              have B0 := frO_0 kB.out
              have B1 := frO_1 kB.out
              have C0 := frO_0 kC.out
              have C1 := frO_1 kC.out
              obtain ⟨⟨⟨sn, sd⟩, sc⟩, hs⟩ : ∃ r, mkF (an * bd - an * ad) (ad * bd) = r := ⟨_, rfl⟩
              obtain ⟨⟨⟨pn, pd⟩, pc⟩, hp⟩ : ∃ r, mkF (an * cd + cn * ad) (ad * cd) = r := ⟨_, rfl⟩
              obtain ⟨⟨⟨tn, td⟩, tc⟩, htt⟩ : ∃ r, mkF (an * cd + cn * bd) (bd * cd) = r := ⟨_, rfl⟩
              have cS : ∀ W, _ := fun W => sub_any an ad an bd W q0.fit q1.fit
              rw [hs] at cS
              have cP : ∀ W, _ := fun W => add_any an ad cn cd W q0.fit q2.fit
              rw [hp] at cP
              have cT : ∀ W, _ := fun W => add_any an bd cn cd W q1.fit q2.fit
              rw [htt] at cT
              by_cases hsc : sc = 0
              · subst hsc
                have r1 : sn < 0 := (sub_sign p0 p1 hs).1.2 l1
                go_wp2_with (fail)
                refine (cS _).mono ?_
                rintro e w7 ⟨rfl, hB⟩
                replace L := Lib.hid (L.out.trans (hB.mono L.out.size))
                replace kA := Lib.hid (stays kA.out hB)
                replace kB := Lib.hid (stays kB.out hB)
                replace kC := Lib.hid (stays kC.out hB)
                clear hB A0 A1 B0 B1 C0 C1
                simp only [mkV]
                obtain ⟨gN, kS⟩ := box_new w7 (sn) (sd)
                replace kA := Lib.hid (stays kA.out gN)
                replace kB := Lib.hid (stays kB.out gN)
                replace kC := Lib.hid (stays kC.out gN)
                replace kS := Lib.hid kS
                have A0 := frO_0 kA.out
                have A1 := frO_1 kA.out
                have B0 := frO_0 kB.out
                have B1 := frO_1 kB.out
                have C0 := frO_0 kC.out
                have C1 := frO_1 kC.out
                have S0 := frO_0 kS.out
                have S1 := frO_1 kS.out
                go_wp2_with (fail)
                refine (cP _).mono ?_
                rintro e w8 ⟨rfl, hB⟩
                replace L := Lib.hid (L.out.trans ((gN.trans (hB.mono gN.size)).mono L.out.size))
                replace kA := Lib.hid (stays kA.out hB)
                replace kB := Lib.hid (stays kB.out hB)
                replace kC := Lib.hid (stays kC.out hB)
                replace kS := Lib.hid (stays kS.out hB)
                generalize w7.heap.size = xS at *
                clear gN
                clear hB A0 A1 B0 B1 C0 C1 S0 S1
                simp only [mkV]
                obtain ⟨gN, kP⟩ := box_new w8 (pn) (pd)
                replace kA := Lib.hid (stays kA.out gN)
                replace kB := Lib.hid (stays kB.out gN)
                replace kC := Lib.hid (stays kC.out gN)
                replace kS := Lib.hid (stays kS.out gN)
                replace kP := Lib.hid kP
                have A0 := frO_0 kA.out
                have A1 := frO_1 kA.out
                have B0 := frO_0 kB.out
                have B1 := frO_1 kB.out
                have C0 := frO_0 kC.out
                have C1 := frO_1 kC.out
                have S0 := frO_0 kS.out
                have S1 := frO_1 kS.out
                have P0 := frO_0 kP.out
                have P1 := frO_1 kP.out
                go_wp2_with (fail)
                refine (cT _).mono ?_
                rintro e w9 ⟨rfl, hB⟩
                replace L := Lib.hid (L.out.trans ((gN.trans (hB.mono gN.size)).mono L.out.size))
                replace kA := Lib.hid (stays kA.out hB)
                replace kB := Lib.hid (stays kB.out hB)
                replace kC := Lib.hid (stays kC.out hB)
                replace kS := Lib.hid (stays kS.out hB)
                replace kP := Lib.hid (stays kP.out hB)
                generalize w8.heap.size = xP at *
                clear gN
                clear hB A0 A1 B0 B1 C0 C1 S0 S1 P0 P1
                simp only [mkV]
                obtain ⟨gN, kT⟩ := box_new w9 (tn) (td)
                replace kA := Lib.hid (stays kA.out gN)
                replace kB := Lib.hid (stays kB.out gN)
                replace kC := Lib.hid (stays kC.out gN)
                replace kS := Lib.hid (stays kS.out gN)
                replace kP := Lib.hid (stays kP.out gN)
                replace kT := Lib.hid kT
                have A0 := frO_0 kA.out
                have A1 := frO_1 kA.out
                have B0 := frO_0 kB.out
                have B1 := frO_1 kB.out
                have C0 := frO_0 kC.out
                have C1 := frO_1 kC.out
                have S0 := frO_0 kS.out
                have S1 := frO_1 kS.out
                have P0 := frO_0 kP.out
                have P1 := frO_1 kP.out
                have T0 := frO_0 kT.out
                have T1 := frO_1 kT.out
                by_cases hpc : pc = 0
                · subst hpc
                  by_cases htc : tc = 0
                  · subst htc
                    have cC : ∀ W, _ := fun W => cmp_any pn pd tn td W (fit_mk hp) (fit_mk htt)
                    rw [add_cmp p0 p1 p2 hp htt, e1] at cC
                    go_wp2_with (fail)
                    refine (cC _).mono ?_
                    rintro e w10 ⟨rfl, hB⟩
                    replace L := Lib.hid (L.out.trans ((gN.trans (hB.mono gN.size)).mono L.out.size))
                    replace kA := Lib.hid (stays kA.out hB)
                    replace kB := Lib.hid (stays kB.out hB)
                    replace kC := Lib.hid (stays kC.out hB)
                    replace kS := Lib.hid (stays kS.out hB)
                    replace kP := Lib.hid (stays kP.out hB)
                    replace kT := Lib.hid (stays kT.out hB)
                    generalize w9.heap.size = xT at *
                    clear gN
                    clear hB A0 A1 B0 B1 C0 C1 S0 S1 P0 P1 T0 T1
                    have A0 := frO_0 kA.out
                    have A1 := frO_1 kA.out
                    have B0 := frO_0 kB.out
                    have B1 := frO_1 kB.out
                    have C0 := frO_0 kC.out
                    have C1 := frO_1 kC.out
                    have S0 := frO_0 kS.out
                    have S1 := frO_1 kS.out
                    have P0 := frO_0 kP.out
                    have P1 := frO_1 kP.out
                    have T0 := frO_0 kT.out
                    have T1 := frO_1 kT.out
                    go_wp2_with (fail)
                    refine (awake_any _ (ht.below L.out)).mono ?_
                    rintro e w11 ⟨rfl, hB⟩
                    replace L := Lib.hid (L.out.trans (hB.mono L.out.size))
                    replace kA := Lib.hid (stays kA.out hB)
                    replace kB := Lib.hid (stays kB.out hB)
                    replace kC := Lib.hid (stays kC.out hB)
                    replace kS := Lib.hid (stays kS.out hB)
                    replace kP := Lib.hid (stays kP.out hB)
                    replace kT := Lib.hid (stays kT.out hB)
                    clear hB A0 A1 B0 B1 C0 C1 S0 S1 P0 P1 T0 T1
                    have A0 := frO_0 kA.out
                    have A1 := frO_1 kA.out
                    have B0 := frO_0 kB.out
                    have B1 := frO_1 kB.out
                    have C0 := frO_0 kC.out
                    have C1 := frO_1 kC.out
                    have S0 := frO_0 kS.out
                    have S1 := frO_1 kS.out
                    have P0 := frO_0 kP.out
                    have P1 := frO_1 kP.out
                    have T0 := frO_0 kT.out
                    have T1 := frO_1 kT.out
                    go_wp2
                    go_ret
                    exact ⟨rfl, L.out⟩
                  · have htb : (tc != 0) = true := by rw [bne_iff_ne]; exact htc
                    clear htc
                    go_wp2_with (fail)
                    refine (awake_any _ (ht.below (L.out.trans (gN.mono L.out.size)))).mono ?_
                    rintro e w10 ⟨rfl, hB⟩
                    replace L := Lib.hid (L.out.trans ((gN.trans (hB.mono gN.size)).mono L.out.size))
                    replace kA := Lib.hid (stays kA.out hB)
                    replace kB := Lib.hid (stays kB.out hB)
                    replace kC := Lib.hid (stays kC.out hB)
                    replace kS := Lib.hid (stays kS.out hB)
                    replace kP := Lib.hid (stays kP.out hB)
                    replace kT := Lib.hid (stays kT.out hB)
                    generalize w9.heap.size = xT at *
                    clear gN
                    clear hB A0 A1 B0 B1 C0 C1 S0 S1 P0 P1 T0 T1
                    have A0 := frO_0 kA.out
                    have A1 := frO_1 kA.out
                    have B0 := frO_0 kB.out
                    have B1 := frO_1 kB.out
                    have C0 := frO_0 kC.out
                    have C1 := frO_1 kC.out
                    have S0 := frO_0 kS.out
                    have S1 := frO_1 kS.out
                    have P0 := frO_0 kP.out
                    have P1 := frO_1 kP.out
                    have T0 := frO_0 kT.out
                    have T1 := frO_1 kT.out
                    go_wp2
                    go_ret
                    exact ⟨rfl, L.out⟩
                · have hpb : (pc != 0) = true := by rw [bne_iff_ne]; exact hpc
                  clear hpc
                  go_wp2_with (fail)
                  refine (awake_any _ (ht.below (L.out.trans (gN.mono L.out.size)))).mono ?_
                  rintro e w10 ⟨rfl, hB⟩
                  replace L := Lib.hid (L.out.trans ((gN.trans (hB.mono gN.size)).mono L.out.size))
                  replace kA := Lib.hid (stays kA.out hB)
                  replace kB := Lib.hid (stays kB.out hB)
                  replace kC := Lib.hid (stays kC.out hB)
                  replace kS := Lib.hid (stays kS.out hB)
                  replace kP := Lib.hid (stays kP.out hB)
                  replace kT := Lib.hid (stays kT.out hB)
                  generalize w9.heap.size = xT at *
                  clear gN
                  clear hB A0 A1 B0 B1 C0 C1 S0 S1 P0 P1 T0 T1
                  have A0 := frO_0 kA.out
                  have A1 := frO_1 kA.out
                  have B0 := frO_0 kB.out
                  have B1 := frO_1 kB.out
                  have C0 := frO_0 kC.out
                  have C1 := frO_1 kC.out
                  have S0 := frO_0 kS.out
                  have S1 := frO_1 kS.out
                  have P0 := frO_0 kP.out
                  have P1 := frO_1 kP.out
                  have T0 := frO_0 kT.out
                  have T1 := frO_1 kT.out
                  go_wp2
                  go_ret
                  exact ⟨rfl, L.out⟩
              · have hsb : (sc == 0) = false := by rw [beq_eq_false_iff_ne]; exact hsc
                clear hsc
                go_wp2_with (fail)
                refine (cS _).mono ?_
                rintro e w7 ⟨rfl, hB⟩
                replace L := Lib.hid (L.out.trans (hB.mono L.out.size))
                replace kA := Lib.hid (stays kA.out hB)
                replace kB := Lib.hid (stays kB.out hB)
                replace kC := Lib.hid (stays kC.out hB)
                clear hB A0 A1 B0 B1 C0 C1
                simp only [mkV]
                obtain ⟨gN, kS⟩ := box_new w7 (sn) (sd)
                replace kA := Lib.hid (stays kA.out gN)
                replace kB := Lib.hid (stays kB.out gN)
                replace kC := Lib.hid (stays kC.out gN)
                replace kS := Lib.hid kS
                have A0 := frO_0 kA.out
                have A1 := frO_1 kA.out
                have B0 := frO_0 kB.out
                have B1 := frO_1 kB.out
                have C0 := frO_0 kC.out
                have C1 := frO_1 kC.out
                have S0 := frO_0 kS.out
                have S1 := frO_1 kS.out
                go_wp2_with (fail)
                refine (cP _).mono ?_
                rintro e w8 ⟨rfl, hB⟩
                replace L := Lib.hid (L.out.trans ((gN.trans (hB.mono gN.size)).mono L.out.size))
                replace kA := Lib.hid (stays kA.out hB)
                replace kB := Lib.hid (stays kB.out hB)
                replace kC := Lib.hid (stays kC.out hB)
                replace kS := Lib.hid (stays kS.out hB)
                generalize w7.heap.size = xS at *
                clear gN
                clear hB A0 A1 B0 B1 C0 C1 S0 S1
                simp only [mkV]
                obtain ⟨gN, kP⟩ := box_new w8 (pn) (pd)
                replace kA := Lib.hid (stays kA.out gN)
                replace kB := Lib.hid (stays kB.out gN)
                replace kC := Lib.hid (stays kC.out gN)
                replace kS := Lib.hid (stays kS.out gN)
                replace kP := Lib.hid kP
                have A0 := frO_0 kA.out
                have A1 := frO_1 kA.out
                have B0 := frO_0 kB.out
                have B1 := frO_1 kB.out
                have C0 := frO_0 kC.out
                have C1 := frO_1 kC.out
                have S0 := frO_0 kS.out
                have S1 := frO_1 kS.out
                have P0 := frO_0 kP.out
                have P1 := frO_1 kP.out
                go_wp2_with (fail)
                refine (cT _).mono ?_
                rintro e w9 ⟨rfl, hB⟩
                replace L := Lib.hid (L.out.trans ((gN.trans (hB.mono gN.size)).mono L.out.size))
                replace kA := Lib.hid (stays kA.out hB)
                replace kB := Lib.hid (stays kB.out hB)
                replace kC := Lib.hid (stays kC.out hB)
                replace kS := Lib.hid (stays kS.out hB)
                replace kP := Lib.hid (stays kP.out hB)
                generalize w8.heap.size = xP at *
                clear gN
                clear hB A0 A1 B0 B1 C0 C1 S0 S1 P0 P1
                simp only [mkV]
                obtain ⟨gN, kT⟩ := box_new w9 (tn) (td)
                replace kA := Lib.hid (stays kA.out gN)
                replace kB := Lib.hid (stays kB.out gN)
                replace kC := Lib.hid (stays kC.out gN)
                replace kS := Lib.hid (stays kS.out gN)
                replace kP := Lib.hid (stays kP.out gN)
                replace kT := Lib.hid kT
                have A0 := frO_0 kA.out
                have A1 := frO_1 kA.out
                have B0 := frO_0 kB.out
                have B1 := frO_1 kB.out
                have C0 := frO_0 kC.out
                have C1 := frO_1 kC.out
                have S0 := frO_0 kS.out
                have S1 := frO_1 kS.out
                have P0 := frO_0 kP.out
                have P1 := frO_1 kP.out
                have T0 := frO_0 kT.out
                have T1 := frO_1 kT.out
                by_cases hpc : pc = 0
                · subst hpc
                  by_cases htc : tc = 0
                  · subst htc
                    have cC : ∀ W, _ := fun W => cmp_any pn pd tn td W (fit_mk hp) (fit_mk htt)
                    rw [add_cmp p0 p1 p2 hp htt, e1] at cC
                    go_wp2_with (fail)
                    refine (cC _).mono ?_
                    rintro e w10 ⟨rfl, hB⟩
                    replace L := Lib.hid (L.out.trans ((gN.trans (hB.mono gN.size)).mono L.out.size))
                    replace kA := Lib.hid (stays kA.out hB)
                    replace kB := Lib.hid (stays kB.out hB)
                    replace kC := Lib.hid (stays kC.out hB)
                    replace kS := Lib.hid (stays kS.out hB)
                    replace kP := Lib.hid (stays kP.out hB)
                    replace kT := Lib.hid (stays kT.out hB)
                    generalize w9.heap.size = xT at *
                    clear gN
                    clear hB A0 A1 B0 B1 C0 C1 S0 S1 P0 P1 T0 T1
                    have A0 := frO_0 kA.out
                    have A1 := frO_1 kA.out
                    have B0 := frO_0 kB.out
                    have B1 := frO_1 kB.out
                    have C0 := frO_0 kC.out
                    have C1 := frO_1 kC.out
                    have S0 := frO_0 kS.out
                    have S1 := frO_1 kS.out
                    have P0 := frO_0 kP.out
                    have P1 := frO_1 kP.out
                    have T0 := frO_0 kT.out
                    have T1 := frO_1 kT.out
                    go_wp2_with (fail)
                    refine (awake_any _ (ht.below L.out)).mono ?_
                    rintro e w11 ⟨rfl, hB⟩
                    replace L := Lib.hid (L.out.trans (hB.mono L.out.size))
                    replace kA := Lib.hid (stays kA.out hB)
                    replace kB := Lib.hid (stays kB.out hB)
                    replace kC := Lib.hid (stays kC.out hB)
                    replace kS := Lib.hid (stays kS.out hB)
                    replace kP := Lib.hid (stays kP.out hB)
                    replace kT := Lib.hid (stays kT.out hB)
                    clear hB A0 A1 B0 B1 C0 C1 S0 S1 P0 P1 T0 T1
                    have A0 := frO_0 kA.out
                    have A1 := frO_1 kA.out
                    have B0 := frO_0 kB.out
                    have B1 := frO_1 kB.out
                    have C0 := frO_0 kC.out
                    have C1 := frO_1 kC.out
                    have S0 := frO_0 kS.out
                    have S1 := frO_1 kS.out
                    have P0 := frO_0 kP.out
                    have P1 := frO_1 kP.out
                    have T0 := frO_0 kT.out
                    have T1 := frO_1 kT.out
                    go_wp2
                    go_ret
                    exact ⟨rfl, L.out⟩
                  · have htb : (tc != 0) = true := by rw [bne_iff_ne]; exact htc
                    clear htc
                    go_wp2_with (fail)
                    refine (awake_any _ (ht.below (L.out.trans (gN.mono L.out.size)))).mono ?_
                    rintro e w10 ⟨rfl, hB⟩
                    replace L := Lib.hid (L.out.trans ((gN.trans (hB.mono gN.size)).mono L.out.size))
                    replace kA := Lib.hid (stays kA.out hB)
                    replace kB := Lib.hid (stays kB.out hB)
                    replace kC := Lib.hid (stays kC.out hB)
                    replace kS := Lib.hid (stays kS.out hB)
                    replace kP := Lib.hid (stays kP.out hB)
                    replace kT := Lib.hid (stays kT.out hB)
                    generalize w9.heap.size = xT at *
                    clear gN
                    clear hB A0 A1 B0 B1 C0 C1 S0 S1 P0 P1 T0 T1
                    have A0 := frO_0 kA.out
                    have A1 := frO_1 kA.out
                    have B0 := frO_0 kB.out
                    have B1 := frO_1 kB.out
                    have C0 := frO_0 kC.out
                    have C1 := frO_1 kC.out
                    have S0 := frO_0 kS.out
                    have S1 := frO_1 kS.out
                    have P0 := frO_0 kP.out
                    have P1 := frO_1 kP.out
                    have T0 := frO_0 kT.out
                    have T1 := frO_1 kT.out
                    go_wp2
                    go_ret
                    exact ⟨rfl, L.out⟩
                · have hpb : (pc != 0) = true := by rw [bne_iff_ne]; exact hpc
                  clear hpc
                  go_wp2_with (fail)
                  refine (awake_any _ (ht.below (L.out.trans (gN.mono L.out.size)))).mono ?_
                  rintro e w10 ⟨rfl, hB⟩
                  replace L := Lib.hid (L.out.trans ((gN.trans (hB.mono gN.size)).mono L.out.size))
                  replace kA := Lib.hid (stays kA.out hB)
                  replace kB := Lib.hid (stays kB.out hB)
                  replace kC := Lib.hid (stays kC.out hB)
                  replace kS := Lib.hid (stays kS.out hB)
                  replace kP := Lib.hid (stays kP.out hB)
                  replace kT := Lib.hid (stays kT.out hB)
                  generalize w9.heap.size = xT at *
                  clear gN
                  clear hB A0 A1 B0 B1 C0 C1 S0 S1 P0 P1 T0 T1
                  have A0 := frO_0 kA.out
                  have A1 := frO_1 kA.out
                  have B0 := frO_0 kB.out
                  have B1 := frO_1 kB.out
                  have C0 := frO_0 kC.out
                  have C1 := frO_1 kC.out
                  have S0 := frO_0 kS.out
                  have S1 := frO_1 kS.out
                  have P0 := frO_0 kP.out
                  have P1 := frO_1 kP.out
                  have T0 := frO_0 kT.out
                  have T1 := frO_1 kT.out
                  go_wp2
                  go_ret
                  exact ⟨rfl, L.out⟩
          · skip
            have cAB : ∀ W, _ := fun W => cmp_any an ad bn bd W q0.fit q1.fit
            rw [e1] at cAB
            have cBA : ∀ W, _ := fun W => cmp_any bn bd an ad W q1.fit q0.fit
            rw [e2] at cBA
            go_wp2_with (fail)
            refine (cAB _).mono ?_
            rintro e w4 ⟨rfl, hB⟩
            replace L := Lib.hid (L.out.trans (hB.mono L.out.size))
            replace kA := Lib.hid (stays kA.out hB)
            replace kB := Lib.hid (stays kB.out hB)
            replace kC := Lib.hid (stays kC.out hB)
            clear hB A0 A1 B0 B1 C0 C1
            have A0 := frO_0 kA.out
            have A1 := frO_1 kA.out
            have B0 := frO_0 kB.out
            have B1 := frO_1 kB.out
            have C0 := frO_0 kC.out
            have C1 := frO_1 kC.out
            go_wp2_with (fail)
            refine (cBA _).mono ?_
            rintro e w5 ⟨rfl, hB⟩
            replace L := Lib.hid (L.out.trans (hB.mono L.out.size))
            replace kA := Lib.hid (stays kA.out hB)
            replace kB := Lib.hid (stays kB.out hB)
            replace kC := Lib.hid (stays kC.out hB)
            clear hB A0 A1 B0 B1 C0 C1
            have A0 := frO_0 kA.out
            have A1 := frO_1 kA.out
            have B0 := frO_0 kB.out
            have B1 := frO_1 kB.out
            have C0 := frO_0 kC.out
            have C1 := frO_1 kC.out
            by_cases l2 : bn * cd ≤ cn * bd
            · skip
              have u1 : cmpF bn bd cn cd ≤ 0 := cmp_le l2
              have u2 : cmpF an ad cn cd ≤ 0 := cmp_le (le_trans_q p0 p1 p2 (by omega) l2)
              have cBC : ∀ W, _ := fun W => cmp_any bn bd cn cd W q1.fit q2.fit
              have cAC : ∀ W, _ := fun W => cmp_any an ad cn cd W q0.fit q2.fit
              generalize cmpF bn bd cn cd = y1 at *
              generalize cmpF an ad cn cd = y2 at *
              go_wp2_with (fail)
              refine (cBC _).mono ?_
              rintro e w6 ⟨rfl, hB⟩
              replace L := Lib.hid (L.out.trans (hB.mono L.out.size))
              replace kA := Lib.hid (stays kA.out hB)
              replace kB := Lib.hid (stays kB.out hB)
              replace kC := Lib.hid (stays kC.out hB)
              clear hB A0 A1 B0 B1 C0 C1
              have A0 := frO_0 kA.out
              have A1 := frO_1 kA.out
              have B0 := frO_0 kB.out
              have B1 := frO_1 kB.out
              have C0 := frO_0 kC.out
              have C1 := frO_1 kC.out
              go_wp2_with (fail)
              refine (cAC _).mono ?_
              rintro e w7 ⟨rfl, hB⟩
              replace L := Lib.hid (L.out.trans (hB.mono L.out.size))
              replace kA := Lib.hid (stays kA.out hB)
              replace kB := Lib.hid (stays kB.out hB)
              replace kC := Lib.hid (stays kC.out hB)
              clear hB A0 A1 B0 B1 C0 C1
              have A0 := frO_0 kA.out
              have A1 := frO_1 kA.out
              have B0 := frO_0 kB.out
              have B1 := frO_1 kB.out
              have C0 := frO_0 kC.out
              have C1 := frO_1 kC.out
              obtain ⟨⟨⟨sn, sd⟩, sc⟩, hs⟩ : ∃ r, mkF (an * bd - bn * ad) (ad * bd) = r := ⟨_, rfl⟩
              obtain ⟨⟨⟨pn, pd⟩, pc⟩, hp⟩ : ∃ r, mkF (an * cd + cn * ad) (ad * cd) = r := ⟨_, rfl⟩
              obtain ⟨⟨⟨tn, td⟩, tc⟩, htt⟩ : ∃ r, mkF (bn * cd + cn * bd) (bd * cd) = r := ⟨_, rfl⟩
              have cS : ∀ W, _ := fun W => sub_any an ad bn bd W q0.fit q1.fit
              rw [hs] at cS
              have cP : ∀ W, _ := fun W => add_any an ad cn cd W q0.fit q2.fit
              rw [hp] at cP
              have cT : ∀ W, _ := fun W => add_any bn bd cn cd W q1.fit q2.fit
              rw [htt] at cT
              by_cases hsc : sc = 0
              · subst hsc
                have r1 : sn < 0 := (sub_sign p0 p1 hs).1.2 l1
                go_wp2_with (fail)
                refine (cS _).mono ?_
                rintro e w8 ⟨rfl, hB⟩
                replace L := Lib.hid (L.out.trans (hB.mono L.out.size))
                replace kA := Lib.hid (stays kA.out hB)
                replace kB := Lib.hid (stays kB.out hB)
                replace kC := Lib.hid (stays kC.out hB)
                clear hB A0 A1 B0 B1 C0 C1
                simp only [mkV]
                obtain ⟨gN, kS⟩ := box_new w8 (sn) (sd)
                replace kA := Lib.hid (stays kA.out gN)
                replace kB := Lib.hid (stays kB.out gN)
                replace kC := Lib.hid (stays kC.out gN)
                replace kS := Lib.hid kS
                have A0 := frO_0 kA.out
                have A1 := frO_1 kA.out
                have B0 := frO_0 kB.out
                have B1 := frO_1 kB.out
                have C0 := frO_0 kC.out
                have C1 := frO_1 kC.out
                have S0 := frO_0 kS.out
                have S1 := frO_1 kS.out
                go_wp2_with (fail)
                refine (cP _).mono ?_
                rintro e w9 ⟨rfl, hB⟩
                replace L := Lib.hid (L.out.trans ((gN.trans (hB.mono gN.size)).mono L.out.size))
                replace kA := Lib.hid (stays kA.out hB)
                replace kB := Lib.hid (stays kB.out hB)
                replace kC := Lib.hid (stays kC.out hB)
                replace kS := Lib.hid (stays kS.out hB)
                generalize w8.heap.size = xS at *
                clear gN
                clear hB A0 A1 B0 B1 C0 C1 S0 S1
                simp only [mkV]
                obtain ⟨gN, kP⟩ := box_new w9 (pn) (pd)
                replace kA := Lib.hid (stays kA.out gN)
                replace kB := Lib.hid (stays kB.out gN)
                replace kC := Lib.hid (stays kC.out gN)
                replace kS := Lib.hid (stays kS.out gN)
                replace kP := Lib.hid kP
                have A0 := frO_0 kA.out
                have A1 := frO_1 kA.out
                have B0 := frO_0 kB.out
                have B1 := frO_1 kB.out
                have C0 := frO_0 kC.out
                have C1 := frO_1 kC.out
                have S0 := frO_0 kS.out
                have S1 := frO_1 kS.out
                have P0 := frO_0 kP.out
                have P1 := frO_1 kP.out
                go_wp2_with (fail)
                refine (cT _).mono ?_
                rintro e w10 ⟨rfl, hB⟩
                replace L := Lib.hid (L.out.trans ((gN.trans (hB.mono gN.size)).mono L.out.size))
                replace kA := Lib.hid (stays kA.out hB)
                replace kB := Lib.hid (stays kB.out hB)
                replace kC := Lib.hid (stays kC.out hB)
                replace kS := Lib.hid (stays kS.out hB)
                replace kP := Lib.hid (stays kP.out hB)
                generalize w9.heap.size = xP at *
                clear gN
                clear hB A0 A1 B0 B1 C0 C1 S0 S1 P0 P1
                simp only [mkV]
                obtain ⟨gN, kT⟩ := box_new w10 (tn) (td)
                replace kA := Lib.hid (stays kA.out gN)
                replace kB := Lib.hid (stays kB.out gN)
                replace kC := Lib.hid (stays kC.out gN)
                replace kS := Lib.hid (stays kS.out gN)
                replace kP := Lib.hid (stays kP.out gN)
                replace kT := Lib.hid kT
                have A0 := frO_0 kA.out
                have A1 := frO_1 kA.out
                have B0 := frO_0 kB.out
                have B1 := frO_1 kB.out
                have C0 := frO_0 kC.out
                have C1 := frO_1 kC.out
                have S0 := frO_0 kS.out
                have S1 := frO_1 kS.out
                have P0 := frO_0 kP.out
                have P1 := frO_1 kP.out
                have T0 := frO_0 kT.out
                have T1 := frO_1 kT.out
                by_cases hpc : pc = 0
                · subst hpc
                  by_cases htc : tc = 0
                  · subst htc
                    have cC : ∀ W, _ := fun W => cmp_any pn pd tn td W (fit_mk hp) (fit_mk htt)
                    rw [add_cmp p0 p1 p2 hp htt, e1] at cC
                    go_wp2_with (fail)
                    refine (cC _).mono ?_
                    rintro e w11 ⟨rfl, hB⟩
                    replace L := Lib.hid (L.out.trans ((gN.trans (hB.mono gN.size)).mono L.out.size))
                    replace kA := Lib.hid (stays kA.out hB)
                    replace kB := Lib.hid (stays kB.out hB)
                    replace kC := Lib.hid (stays kC.out hB)
                    replace kS := Lib.hid (stays kS.out hB)
                    replace kP := Lib.hid (stays kP.out hB)
                    replace kT := Lib.hid (stays kT.out hB)
                    generalize w10.heap.size = xT at *
                    clear gN
                    clear hB A0 A1 B0 B1 C0 C1 S0 S1 P0 P1 T0 T1
                    have A0 := frO_0 kA.out
                    have A1 := frO_1 kA.out
                    have B0 := frO_0 kB.out
                    have B1 := frO_1 kB.out
                    have C0 := frO_0 kC.out
                    have C1 := frO_1 kC.out
                    have S0 := frO_0 kS.out
                    have S1 := frO_1 kS.out
                    have P0 := frO_0 kP.out
                    have P1 := frO_1 kP.out
                    have T0 := frO_0 kT.out
                    have T1 := frO_1 kT.out
                    go_wp2_with (fail)
                    refine (awake_any _ (ht.below L.out)).mono ?_
                    rintro e w12 ⟨rfl, hB⟩
                    replace L := Lib.hid (L.out.trans (hB.mono L.out.size))
                    replace kA := Lib.hid (stays kA.out hB)
                    replace kB := Lib.hid (stays kB.out hB)
                    replace kC := Lib.hid (stays kC.out hB)
                    replace kS := Lib.hid (stays kS.out hB)
                    replace kP := Lib.hid (stays kP.out hB)
                    replace kT := Lib.hid (stays kT.out hB)
                    clear hB A0 A1 B0 B1 C0 C1 S0 S1 P0 P1 T0 T1
                    have A0 := frO_0 kA.out
                    have A1 := frO_1 kA.out
                    have B0 := frO_0 kB.out
                    have B1 := frO_1 kB.out
                    have C0 := frO_0 kC.out
                    have C1 := frO_1 kC.out
                    have S0 := frO_0 kS.out
                    have S1 := frO_1 kS.out
                    have P0 := frO_0 kP.out
                    have P1 := frO_1 kP.out
                    have T0 := frO_0 kT.out
                    have T1 := frO_1 kT.out
                    go_wp2
                    go_ret
                    exact ⟨rfl, L.out⟩
                  · have htb : (tc != 0) = true := by rw [bne_iff_ne]; exact htc
                    clear htc
                    go_wp2_with (fail)
                    refine (awake_any _ (ht.below (L.out.trans (gN.mono L.out.size)))).mono ?_
                    rintro e w11 ⟨rfl, hB⟩
                    replace L := Lib.hid (L.out.trans ((gN.trans (hB.mono gN.size)).mono L.out.size))
                    replace kA := Lib.hid (stays kA.out hB)
                    replace kB := Lib.hid (stays kB.out hB)
                    replace kC := Lib.hid (stays kC.out hB)
                    replace kS := Lib.hid (stays kS.out hB)
                    replace kP := Lib.hid (stays kP.out hB)
                    replace kT := Lib.hid (stays kT.out hB)
                    generalize w10.heap.size = xT at *
                    clear gN
                    clear hB A0 A1 B0 B1 C0 C1 S0 S1 P0 P1 T0 T1
                    have A0 := frO_0 kA.out
                    have A1 := frO_1 kA.out
                    have B0 := frO_0 kB.out
                    have B1 := frO_1 kB.out
                    have C0 := frO_0 kC.out
                    have C1 := frO_1 kC.out
                    have S0 := frO_0 kS.out
                    have S1 := frO_1 kS.out
                    have P0 := frO_0 kP.out
                    have P1 := frO_1 kP.out
                    have T0 := frO_0 kT.out
                    have T1 := frO_1 kT.out
                    go_wp2
                    go_ret
                    exact ⟨rfl, L.out⟩
                · have hpb : (pc != 0) = true := by rw [bne_iff_ne]; exact hpc
                  clear hpc
                  go_wp2_with (fail)
                  refine (awake_any _ (ht.below (L.out.trans (gN.mono L.out.size)))).mono ?_
                  rintro e w11 ⟨rfl, hB⟩
                  replace L := Lib.hid (L.out.trans ((gN.trans (hB.mono gN.size)).mono L.out.size))
                  replace kA := Lib.hid (stays kA.out hB)
                  replace kB := Lib.hid (stays kB.out hB)
                  replace kC := Lib.hid (stays kC.out hB)
                  replace kS := Lib.hid (stays kS.out hB)
                  replace kP := Lib.hid (stays kP.out hB)
                  replace kT := Lib.hid (stays kT.out hB)
                  generalize w10.heap.size = xT at *
                  clear gN
                  clear hB A0 A1 B0 B1 C0 C1 S0 S1 P0 P1 T0 T1
                  have A0 := frO_0 kA.out
                  have A1 := frO_1 kA.out
                  have B0 := frO_0 kB.out
                  have B1 := frO_1 kB.out
                  have C0 := frO_0 kC.out
                  have C1 := frO_1 kC.out
                  have S0 := frO_0 kS.out
                  have S1 := frO_1 kS.out
                  have P0 := frO_0 kP.out
                  have P1 := frO_1 kP.out
                  have T0 := frO_0 kT.out
                  have T1 := frO_1 kT.out
                  go_wp2
                  go_ret
                  exact ⟨rfl, L.out⟩
              · have hsb : (sc == 0) = false := by rw [beq_eq_false_iff_ne]; exact hsc
                clear hsc
                go_wp2_with (fail)
                refine (cS _).mono ?_
                rintro e w8 ⟨rfl, hB⟩
                replace L := Lib.hid (L.out.trans (hB.mono L.out.size))
                replace kA := Lib.hid (stays kA.out hB)
                replace kB := Lib.hid (stays kB.out hB)
                replace kC := Lib.hid (stays kC.out hB)
                clear hB A0 A1 B0 B1 C0 C1
                simp only [mkV]
                obtain ⟨gN, kS⟩ := box_new w8 (sn) (sd)
                replace kA := Lib.hid (stays kA.out gN)
                replace kB := Lib.hid (stays kB.out gN)
                replace kC := Lib.hid (stays kC.out gN)
                replace kS := Lib.hid kS
                have A0 := frO_0 kA.out
                have A1 := frO_1 kA.out
                have B0 := frO_0 kB.out
                have B1 := frO_1 kB.out
                have C0 := frO_0 kC.out
                have C1 := frO_1 kC.out
                have S0 := frO_0 kS.out
                have S1 := frO_1 kS.out
                go_wp2_with (fail)
                refine (cP _).mono ?_
                rintro e w9 ⟨rfl, hB⟩
                replace L := Lib.hid (L.out.trans ((gN.trans (hB.mono gN.size)).mono L.out.size))
                replace kA := Lib.hid (stays kA.out hB)
                replace kB := Lib.hid (stays kB.out hB)
                replace kC := Lib.hid (stays kC.out hB)
                replace kS := Lib.hid (stays kS.out hB)
                generalize w8.heap.size = xS at *
                clear gN
                clear hB A0 A1 B0 B1 C0 C1 S0 S1
                simp only [mkV]
                obtain ⟨gN, kP⟩ := box_new w9 (pn) (pd)
                replace kA := Lib.hid (stays kA.out gN)
                replace kB := Lib.hid (stays kB.out gN)
                replace kC := Lib.hid (stays kC.out gN)
                replace kS := Lib.hid (stays kS.out gN)
                replace kP := Lib.hid kP
                have A0 := frO_0 kA.out
                have A1 := frO_1 kA.out
                have B0 := frO_0 kB.out
                have B1 := frO_1 kB.out
                have C0 := frO_0 kC.out
                have C1 := frO_1 kC.out
                have S0 := frO_0 kS.out
                have S1 := frO_1 kS.out
                have P0 := frO_0 kP.out
                have P1 := frO_1 kP.out
                go_wp2_with (fail)
                refine (cT _).mono ?_
                rintro e w10 ⟨rfl, hB⟩
                replace L := Lib.hid (L.out.trans ((gN.trans (hB.mono gN.size)).mono L.out.size))
                replace kA := Lib.hid (stays kA.out hB)
                replace kB := Lib.hid (stays kB.out hB)
                replace kC := Lib.hid (stays kC.out hB)
                replace kS := Lib.hid (stays kS.out hB)
                replace kP := Lib.hid (stays kP.out hB)
                generalize w9.heap.size = xP at *
                clear gN
                clear hB A0 A1 B0 B1 C0 C1 S0 S1 P0 P1
                simp only [mkV]
                obtain ⟨gN, kT⟩ := box_new w10 (tn) (td)
                replace kA := Lib.hid (stays kA.out gN)
                replace kB := Lib.hid (stays kB.out gN)
                replace kC := Lib.hid (stays kC.out gN)
                replace kS := Lib.hid (stays kS.out gN)
                replace kP := Lib.hid (stays kP.out gN)
                replace kT := Lib.hid kT
                have A0 := frO_0 kA.out
                have A1 := frO_1 kA.out
                have B0 := frO_0 kB.out
                have B1 := frO_1 kB.out
                have C0 := frO_0 kC.out
                have C1 := frO_1 kC.out
                have S0 := frO_0 kS.out
                have S1 := frO_1 kS.out
                have P0 := frO_0 kP.out
                have P1 := frO_1 kP.out
                have T0 := frO_0 kT.out
                have T1 := frO_1 kT.out
                by_cases hpc : pc = 0
                · subst hpc
                  by_cases htc : tc = 0
                  · subst htc
                    have cC : ∀ W, _ := fun W => cmp_any pn pd tn td W (fit_mk hp) (fit_mk htt)
                    rw [add_cmp p0 p1 p2 hp htt, e1] at cC
                    go_wp2_with (fail)
                    refine (cC _).mono ?_
                    rintro e w11 ⟨rfl, hB⟩
                    replace L := Lib.hid (L.out.trans ((gN.trans (hB.mono gN.size)).mono L.out.size))
                    replace kA := Lib.hid (stays kA.out hB)
                    replace kB := Lib.hid (stays kB.out hB)
                    replace kC := Lib.hid (stays kC.out hB)
                    replace kS := Lib.hid (stays kS.out hB)
                    replace kP := Lib.hid (stays kP.out hB)
                    replace kT := Lib.hid (stays kT.out hB)
                    generalize w10.heap.size = xT at *
                    clear gN
                    clear hB A0 A1 B0 B1 C0 C1 S0 S1 P0 P1 T0 T1
                    have A0 := frO_0 kA.out
                    have A1 := frO_1 kA.out
                    have B0 := frO_0 kB.out
                    have B1 := frO_1 kB.out
                    have C0 := frO_0 kC.out
                    have C1 := frO_1 kC.out
                    have S0 := frO_0 kS.out
                    have S1 := frO_1 kS.out
                    have P0 := frO_0 kP.out
                    have P1 := frO_1 kP.out
                    have T0 := frO_0 kT.out
                    have T1 := frO_1 kT.out
                    go_wp2_with (fail)
                    refine (awake_any _ (ht.below L.out)).mono ?_
                    rintro e w12 ⟨rfl, hB⟩
                    replace L := Lib.hid (L.out.trans (hB.mono L.out.size))
                    replace kA := Lib.hid (stays kA.out hB)
                    replace kB := Lib.hid (stays kB.out hB)
                    replace kC := Lib.hid (stays kC.out hB)
                    replace kS := Lib.hid (stays kS.out hB)
                    replace kP := Lib.hid (stays kP.out hB)
                    replace kT := Lib.hid (stays kT.out hB)
                    clear hB A0 A1 B0 B1 C0 C1 S0 S1 P0 P1 T0 T1
                    have A0 := frO_0 kA.out
                    have A1 := frO_1 kA.out
                    have B0 := frO_0 kB.out
                    have B1 := frO_1 kB.out
                    have C0 := frO_0 kC.out
                    have C1 := frO_1 kC.out
                    have S0 := frO_0 kS.out
                    have S1 := frO_1 kS.out
                    have P0 := frO_0 kP.out
                    have P1 := frO_1 kP.out
                    have T0 := frO_0 kT.out
                    have T1 := frO_1 kT.out
                    go_wp2
                    go_ret
                    exact ⟨rfl, L.out⟩
                  · have htb : (tc != 0) = true := by rw [bne_iff_ne]; exact htc
                    clear htc
                    go_wp2_with (fail)
                    refine (awake_any _ (ht.below (L.out.trans (gN.mono L.out.size)))).mono ?_
                    rintro e w11 ⟨rfl, hB⟩
                    replace L := Lib.hid (L.out.trans ((gN.trans (hB.mono gN.size)).mono L.out.size))
                    replace kA := Lib.hid (stays kA.out hB)
                    replace kB := Lib.hid (stays kB.out hB)
                    replace kC := Lib.hid (stays kC.out hB)
                    replace kS := Lib.hid (stays kS.out hB)
                    replace kP := Lib.hid (stays kP.out hB)
                    replace kT := Lib.hid (stays kT.out hB)
                    generalize w10.heap.size = xT at *
                    clear gN
                    clear hB A0 A1 B0 B1 C0 C1 S0 S1 P0 P1 T0 T1
                    have A0 := frO_0 kA.out
                    have A1 := frO_1 kA.out
                    have B0 := frO_0 kB.out
                    have B1 := frO_1 kB.out
                    have C0 := frO_0 kC.out
                    have C1 := frO_1 kC.out
                    have S0 := frO_0 kS.out
                    have S1 := frO_1 kS.out
                    have P0 := frO_0 kP.out
                    have P1 := frO_1 kP.out
                    have T0 := frO_0 kT.out
                    have T1 := frO_1 kT.out
                    go_wp2
                    go_ret
                    exact ⟨rfl, L.out⟩
                · have hpb : (pc != 0) = true := by rw [bne_iff_ne]; exact hpc
                  clear hpc
                  go_wp2_with (fail)
                  refine (awake_any _ (ht.below (L.out.trans (gN.mono L.out.size)))).mono ?_
                  rintro e w11 ⟨rfl, hB⟩
                  replace L := Lib.hid (L.out.trans ((gN.trans (hB.mono gN.size)).mono L.out.size))
                  replace kA := Lib.hid (stays kA.out hB)
                  replace kB := Lib.hid (stays kB.out hB)
                  replace kC := Lib.hid (stays kC.out hB)
                  replace kS := Lib.hid (stays kS.out hB)
                  replace kP := Lib.hid (stays kP.out hB)
                  replace kT := Lib.hid (stays kT.out hB)
                  generalize w10.heap.size = xT at *
                  clear gN
                  clear hB A0 A1 B0 B1 C0 C1 S0 S1 P0 P1 T0 T1
                  have A0 := frO_0 kA.out
                  have A1 := frO_1 kA.out
                  have B0 := frO_0 kB.out
                  have B1 := frO_1 kB.out
                  have C0 := frO_0 kC.out
                  have C1 := frO_1 kC.out
                  have S0 := frO_0 kS.out
                  have S1 := frO_1 kS.out
                  have P0 := frO_0 kP.out
                  have P1 := frO_1 kP.out
                  have T0 := frO_0 kT.out
                  have T1 := frO_1 kT.out
                  go_wp2
                  go_ret
                  exact ⟨rfl, L.out⟩
            · skip
              have u1 : ¬ cmpF bn bd cn cd ≤ 0 := fun h => l2 (cmp_le_iff.1 h)
              have u1 : 0 < cmpF bn bd cn cd := by omega
              have cBC : ∀ W, _ := fun W => cmp_any bn bd cn cd W q1.fit q2.fit
              generalize cmpF bn bd cn cd = y1 at *
              go_wp2_with (fail)
              refine (cBC _).mono ?_
              rintro e w6 ⟨rfl, hB⟩
              replace L := Lib.hid (L.out.trans (hB.mono L.out.size))
              replace kA := Lib.hid (stays kA.out hB)
              replace kB := Lib.hid (stays kB.out hB)
              replace kC := Lib.hid (stays kC.out hB)
              clear hB A0 A1 B0 B1 C0 C1
              have A0 := frO_0 kA.out
              have A1 := frO_1 kA.out
              have B0 := frO_0 kB.out
              have B1 := frO_1 kB.out
              have C0 := frO_0 kC.out
              have C1 := frO_1 kC.out
              obtain ⟨⟨⟨sn, sd⟩, sc⟩, hs⟩ : ∃ r, mkF (an * bd - bn * ad) (ad * bd) = r := ⟨_, rfl⟩
              obtain ⟨⟨⟨pn, pd⟩, pc⟩, hp⟩ : ∃ r, mkF (an * cd + cn * ad) (ad * cd) = r := ⟨_, rfl⟩
              obtain ⟨⟨⟨tn, td⟩, tc⟩, htt⟩ : ∃ r, mkF (bn * cd + cn * bd) (bd * cd) = r := ⟨_, rfl⟩
              have cS : ∀ W, _ := fun W => sub_any an ad bn bd W q0.fit q1.fit
              rw [hs] at cS
              have cP : ∀ W, _ := fun W => add_any an ad cn cd W q0.fit q2.fit
              rw [hp] at cP
              have cT : ∀ W, _ := fun W => add_any bn bd cn cd W q1.fit q2.fit
              rw [htt] at cT
              by_cases hsc : sc = 0
              · subst hsc
                have r1 : sn < 0 := (sub_sign p0 p1 hs).1.2 l1
                go_wp2_with (fail)
                refine (cS _).mono ?_
                rintro e w7 ⟨rfl, hB⟩
                replace L := Lib.hid (L.out.trans (hB.mono L.out.size))
                replace kA := Lib.hid (stays kA.out hB)
                replace kB := Lib.hid (stays kB.out hB)
                replace kC := Lib.hid (stays kC.out hB)
                clear hB A0 A1 B0 B1 C0 C1
                simp only [mkV]
                obtain ⟨gN, kS⟩ := box_new w7 (sn) (sd)
                replace kA := Lib.hid (stays kA.out gN)
                replace kB := Lib.hid (stays kB.out gN)
                replace kC := Lib.hid (stays kC.out gN)
                replace kS := Lib.hid kS
                have A0 := frO_0 kA.out
                have A1 := frO_1 kA.out
                have B0 := frO_0 kB.out
                have B1 := frO_1 kB.out
                have C0 := frO_0 kC.out
                have C1 := frO_1 kC.out
                have S0 := frO_0 kS.out
                have S1 := frO_1 kS.out
                go_wp2_with (fail)
                refine (cP _).mono ?_
                rintro e w8 ⟨rfl, hB⟩
                replace L := Lib.hid (L.out.trans ((gN.trans (hB.mono gN.size)).mono L.out.size))
                replace kA := Lib.hid (stays kA.out hB)
                replace kB := Lib.hid (stays kB.out hB)
                replace kC := Lib.hid (stays kC.out hB)
                replace kS := Lib.hid (stays kS.out hB)
                generalize w7.heap.size = xS at *
                clear gN
                clear hB A0 A1 B0 B1 C0 C1 S0 S1
                simp only [mkV]
                obtain ⟨gN, kP⟩ := box_new w8 (pn) (pd)
                replace kA := Lib.hid (stays kA.out gN)
                replace kB := Lib.hid (stays kB.out gN)
                replace kC := Lib.hid (stays kC.out gN)
                replace kS := Lib.hid (stays kS.out gN)
                replace kP := Lib.hid kP
                have A0 := frO_0 kA.out
                have A1 := frO_1 kA.out
                have B0 := frO_0 kB.out
                have B1 := frO_1 kB.out
                have C0 := frO_0 kC.out
                have C1 := frO_1 kC.out
                have S0 := frO_0 kS.out
                have S1 := frO_1 kS.out
                have P0 := frO_0 kP.out
                have P1 := frO_1 kP.out
                go_wp2_with (fail)
                refine (cT _).mono ?_
                rintro e w9 ⟨rfl, hB⟩
                replace L := Lib.hid (L.out.trans ((gN.trans (hB.mono gN.size)).mono L.out.size))
                replace kA := Lib.hid (stays kA.out hB)
                replace kB := Lib.hid (stays kB.out hB)
                replace kC := Lib.hid (stays kC.out hB)
                replace kS := Lib.hid (stays kS.out hB)
                replace kP := Lib.hid (stays kP.out hB)
                generalize w8.heap.size = xP at *
                clear gN
                clear hB A0 A1 B0 B1 C0 C1 S0 S1 P0 P1
                simp only [mkV]
                obtain ⟨gN, kT⟩ := box_new w9 (tn) (td)
                replace kA := Lib.hid (stays kA.out gN)
                replace kB := Lib.hid (stays kB.out gN)
                replace kC := Lib.hid (stays kC.out gN)
                replace kS := Lib.hid (stays kS.out gN)
                replace kP := Lib.hid (stays kP.out gN)
                replace kT := Lib.hid kT
                have A0 := frO_0 kA.out
                have A1 := frO_1 kA.out
                have B0 := frO_0 kB.out
                have B1 := frO_1 kB.out
                have C0 := frO_0 kC.out
                have C1 := frO_1 kC.out
                have S0 := frO_0 kS.out
                have S1 := frO_1 kS.out
                have P0 := frO_0 kP.out
                have P1 := frO_1 kP.out
                have T0 := frO_0 kT.out
                have T1 := frO_1 kT.out
                by_cases hpc : pc = 0
                · subst hpc
                  by_cases htc : tc = 0
                  · subst htc
                    have cC : ∀ W, _ := fun W => cmp_any pn pd tn td W (fit_mk hp) (fit_mk htt)
                    rw [add_cmp p0 p1 p2 hp htt, e1] at cC
                    go_wp2_with (fail)
                    refine (cC _).mono ?_
                    rintro e w10 ⟨rfl, hB⟩
                    replace L := Lib.hid (L.out.trans ((gN.trans (hB.mono gN.size)).mono L.out.size))
                    replace kA := Lib.hid (stays kA.out hB)
                    replace kB := Lib.hid (stays kB.out hB)
                    replace kC := Lib.hid (stays kC.out hB)
                    replace kS := Lib.hid (stays kS.out hB)
                    replace kP := Lib.hid (stays kP.out hB)
                    replace kT := Lib.hid (stays kT.out hB)
                    generalize w9.heap.size = xT at *
                    clear gN
                    clear hB A0 A1 B0 B1 C0 C1 S0 S1 P0 P1 T0 T1
                    have A0 := frO_0 kA.out
                    have A1 := frO_1 kA.out
                    have B0 := frO_0 kB.out
                    have B1 := frO_1 kB.out
                    have C0 := frO_0 kC.out
                    have C1 := frO_1 kC.out
                    have S0 := frO_0 kS.out
                    have S1 := frO_1 kS.out
                    have P0 := frO_0 kP.out
                    have P1 := frO_1 kP.out
                    have T0 := frO_0 kT.out
                    have T1 := frO_1 kT.out
                    go_wp2_with (fail)
                    refine (awake_any _ (ht.below L.out)).mono ?_
                    rintro e w11 ⟨rfl, hB⟩
                    replace L := Lib.hid (L.out.trans (hB.mono L.out.size))
                    replace kA := Lib.hid (stays kA.out hB)
                    replace kB := Lib.hid (stays kB.out hB)
                    replace kC := Lib.hid (stays kC.out hB)
                    replace kS := Lib.hid (stays kS.out hB)
                    replace kP := Lib.hid (stays kP.out hB)
                    replace kT := Lib.hid (stays kT.out hB)
                    clear hB A0 A1 B0 B1 C0 C1 S0 S1 P0 P1 T0 T1
                    have A0 := frO_0 kA.out
                    have A1 := frO_1 kA.out
                    have B0 := frO_0 kB.out
                    have B1 := frO_1 kB.out
                    have C0 := frO_0 kC.out
                    have C1 := frO_1 kC.out
                    have S0 := frO_0 kS.out
                    have S1 := frO_1 kS.out
                    have P0 := frO_0 kP.out
                    have P1 := frO_1 kP.out
                    have T0 := frO_0 kT.out
                    have T1 := frO_1 kT.out
                    go_wp2
                    go_ret
                    exact ⟨rfl, L.out⟩
                  · have htb : (tc != 0) = true := by rw [bne_iff_ne]; exact htc
                    clear htc
                    go_wp2_with (fail)
                    refine (awake_any _ (ht.below (L.out.trans (gN.mono L.out.size)))).mono ?_
                    rintro e w10 ⟨rfl, hB⟩
                    replace L := Lib.hid (L.out.trans ((gN.trans (hB.mono gN.size)).mono L.out.size))
                    replace kA := Lib.hid (stays kA.out hB)
                    replace kB := Lib.hid (stays kB.out hB)
                    replace kC := Lib.hid (stays kC.out hB)
                    replace kS := Lib.hid (stays kS.out hB)
                    replace kP := Lib.hid (stays kP.out hB)
                    replace kT := Lib.hid (stays kT.out hB)
                    generalize w9.heap.size = xT at *
                    clear gN
                    clear hB A0 A1 B0 B1 C0 C1 S0 S1 P0 P1 T0 T1
                    have A0 := frO_0 kA.out
                    have A1 := frO_1 kA.out
                    have B0 := frO_0 kB.out
                    have B1 := frO_1 kB.out
                    have C0 := frO_0 kC.out
                    have C1 := frO_1 kC.out
                    have S0 := frO_0 kS.out
                    have S1 := frO_1 kS.out
                    have P0 := frO_0 kP.out
                    have P1 := frO_1 kP.out
                    have T0 := frO_0 kT.out
                    have T1 := frO_1 kT.out
                    go_wp2
                    go_ret
                    exact ⟨rfl, L.out⟩
                · have hpb : (pc != 0) = true := by rw [bne_iff_ne]; exact hpc
                  clear hpc
                  go_wp2_with (fail)
                  refine (awake_any _ (ht.below (L.out.trans (gN.mono L.out.size)))).mono ?_
                  rintro e w10 ⟨rfl, hB⟩
                  replace L := Lib.hid (L.out.trans ((gN.trans (hB.mono gN.size)).mono L.out.size))
                  replace kA := Lib.hid (stays kA.out hB)
                  replace kB := Lib.hid (stays kB.out hB)
                  replace kC := Lib.hid (stays kC.out hB)
                  replace kS := Lib.hid (stays kS.out hB)
                  replace kP := Lib.hid (stays kP.out hB)
                  replace kT := Lib.hid (stays kT.out hB)
                  generalize w9.heap.size = xT at *
                  clear gN
                  clear hB A0 A1 B0 B1 C0 C1 S0 S1 P0 P1 T0 T1
                  have A0 := frO_0 kA.out
                  have A1 := frO_1 kA.out
                  have B0 := frO_0 kB.out
                  have B1 := frO_1 kB.out
                  have C0 := frO_0 kC.out
                  have C1 := frO_1 kC.out
                  have S0 := frO_0 kS.out
                  have S1 := frO_1 kS.out
                  have P0 := frO_0 kP.out
                  have P1 := frO_1 kP.out
                  have T0 := frO_0 kT.out
                  have T1 := frO_1 kT.out
                  go_wp2
                  go_ret
                  exact ⟨rfl, L.out⟩
              · have hsb : (sc == 0) = false := by rw [beq_eq_false_iff_ne]; exact hsc
                clear hsc
                go_wp2_with (fail)
                refine (cS _).mono ?_
                rintro e w7 ⟨rfl, hB⟩
                replace L := Lib.hid (L.out.trans (hB.mono L.out.size))
                replace kA := Lib.hid (stays kA.out hB)
                replace kB := Lib.hid (stays kB.out hB)
                replace kC := Lib.hid (stays kC.out hB)
                clear hB A0 A1 B0 B1 C0 C1
                simp only [mkV]
                obtain ⟨gN, kS⟩ := box_new w7 (sn) (sd)
                replace kA := Lib.hid (stays kA.out gN)
                replace kB := Lib.hid (stays kB.out gN)
                replace kC := Lib.hid (stays kC.out gN)
                replace kS := Lib.hid kS
                have A0 := frO_0 kA.out
                have A1 := frO_1 kA.out
                have B0 := frO_0 kB.out
                have B1 := frO_1 kB.out
                have C0 := frO_0 kC.out
                have C1 := frO_1 kC.out
                have S0 := frO_0 kS.out
                have S1 := frO_1 kS.out
                go_wp2_with (fail)
                refine (cP _).mono ?_
                rintro e w8 ⟨rfl, hB⟩
                replace L := Lib.hid (L.out.trans ((gN.trans (hB.mono gN.size)).mono L.out.size))
                replace kA := Lib.hid (stays kA.out hB)
                replace kB := Lib.hid (stays kB.out hB)
                replace kC := Lib.hid (stays kC.out hB)
                replace kS := Lib.hid (stays kS.out hB)
                generalize w7.heap.size = xS at *
                clear gN
                clear hB A0 A1 B0 B1 C0 C1 S0 S1
                simp only [mkV]
                obtain ⟨gN, kP⟩ := box_new w8 (pn) (pd)
                replace kA := Lib.hid (stays kA.out gN)
                replace kB := Lib.hid (stays kB.out gN)
                replace kC := Lib.hid (stays kC.out gN)
                replace kS := Lib.hid (stays kS.out gN)
                replace kP := Lib.hid kP
                have A0 := frO_0 kA.out
                have A1 := frO_1 kA.out
                have B0 := frO_0 kB.out
                have B1 := frO_1 kB.out
                have C0 := frO_0 kC.out
                have C1 := frO_1 kC.out
                have S0 := frO_0 kS.out
                have S1 := frO_1 kS.out
                have P0 := frO_0 kP.out
                have P1 := frO_1 kP.out
                go_wp2_with (fail)
                refine (cT _).mono ?_
                rintro e w9 ⟨rfl, hB⟩
                replace L := Lib.hid (L.out.trans ((gN.trans (hB.mono gN.size)).mono L.out.size))
                replace kA := Lib.hid (stays kA.out hB)
                replace kB := Lib.hid (stays kB.out hB)
                replace kC := Lib.hid (stays kC.out hB)
                replace kS := Lib.hid (stays kS.out hB)
                replace kP := Lib.hid (stays kP.out hB)
                generalize w8.heap.size = xP at *
                clear gN
                clear hB A0 A1 B0 B1 C0 C1 S0 S1 P0 P1
                simp only [mkV]
                obtain ⟨gN, kT⟩ := box_new w9 (tn) (td)
                replace kA := Lib.hid (stays kA.out gN)
                replace kB := Lib.hid (stays kB.out gN)
                replace kC := Lib.hid (stays kC.out gN)
                replace kS := Lib.hid (stays kS.out gN)
                replace kP := Lib.hid (stays kP.out gN)
                replace kT := Lib.hid kT
                have A0 := frO_0 kA.out
                have A1 := frO_1 kA.out
                have B0 := frO_0 kB.out
                have B1 := frO_1 kB.out
                have C0 := frO_0 kC.out
                have C1 := frO_1 kC.out
                have S0 := frO_0 kS.out
                have S1 := frO_1 kS.out
                have P0 := frO_0 kP.out
                have P1 := frO_1 kP.out
                have T0 := frO_0 kT.out
                have T1 := frO_1 kT.out
                by_cases hpc : pc = 0
                · subst hpc
                  by_cases htc : tc = 0
                  · subst htc
                    have cC : ∀ W, _ := fun W => cmp_any pn pd tn td W (fit_mk hp) (fit_mk htt)
                    rw [add_cmp p0 p1 p2 hp htt, e1] at cC
                    go_wp2_with (fail)
                    refine (cC _).mono ?_
                    rintro e w10 ⟨rfl, hB⟩
                    replace L := Lib.hid (L.out.trans ((gN.trans (hB.mono gN.size)).mono L.out.size))
                    replace kA := Lib.hid (stays kA.out hB)
                    replace kB := Lib.hid (stays kB.out hB)
                    replace kC := Lib.hid (stays kC.out hB)
                    replace kS := Lib.hid (stays kS.out hB)
                    replace kP := Lib.hid (stays kP.out hB)
                    replace kT := Lib.hid (stays kT.out hB)
                    generalize w9.heap.size = xT at *
                    clear gN
                    clear hB A0 A1 B0 B1 C0 C1 S0 S1 P0 P1 T0 T1
                    have A0 := frO_0 kA.out
                    have A1 := frO_1 kA.out
                    have B0 := frO_0 kB.out
                    have B1 := frO_1 kB.out
                    have C0 := frO_0 kC.out
                    have C1 := frO_1 kC.out
                    have S0 := frO_0 kS.out
                    have S1 := frO_1 kS.out
                    have P0 := frO_0 kP.out
                    have P1 := frO_1 kP.out
                    have T0 := frO_0 kT.out
                    have T1 := frO_1 kT.out
                    go_wp2_with (fail)
                    refine (awake_any _ (ht.below L.out)).mono ?_
                    rintro e w11 ⟨rfl, hB⟩
                    replace L := Lib.hid (L.out.trans (hB.mono L.out.size))
                    replace kA := Lib.hid (stays kA.out hB)
                    replace kB := Lib.hid (stays kB.out hB)
                    replace kC := Lib.hid (stays kC.out hB)
                    replace kS := Lib.hid (stays kS.out hB)
                    replace kP := Lib.hid (stays kP.out hB)
                    replace kT := Lib.hid (stays kT.out hB)
                    clear hB A0 A1 B0 B1 C0 C1 S0 S1 P0 P1 T0 T1
                    have A0 := frO_0 kA.out
                    have A1 := frO_1 kA.out
                    have B0 := frO_0 kB.out
                    have B1 := frO_1 kB.out
                    have C0 := frO_0 kC.out
                    have C1 := frO_1 kC.out
                    have S0 := frO_0 kS.out
                    have S1 := frO_1 kS.out
                    have P0 := frO_0 kP.out
                    have P1 := frO_1 kP.out
                    have T0 := frO_0 kT.out
                    have T1 := frO_1 kT.out
                    go_wp2
                    go_ret
                    exact ⟨rfl, L.out⟩
                  · have htb : (tc != 0) = true := by rw [bne_iff_ne]; exact htc
                    clear htc
                    go_wp2_with (fail)
                    refine (awake_any _ (ht.below (L.out.trans (gN.mono L.out.size)))).mono ?_
                    rintro e w10 ⟨rfl, hB⟩
                    replace L := Lib.hid (L.out.trans ((gN.trans (hB.mono gN.size)).mono L.out.size))
                    replace kA := Lib.hid (stays kA.out hB)
                    replace kB := Lib.hid (stays kB.out hB)
                    replace kC := Lib.hid (stays kC.out hB)
                    replace kS := Lib.hid (stays kS.out hB)
                    replace kP := Lib.hid (stays kP.out hB)
                    replace kT := Lib.hid (stays kT.out hB)
                    generalize w9.heap.size = xT at *
                    clear gN
                    clear hB A0 A1 B0 B1 C0 C1 S0 S1 P0 P1 T0 T1
                    have A0 := frO_0 kA.out
                    have A1 := frO_1 kA.out
                    have B0 := frO_0 kB.out
                    have B1 := frO_1 kB.out
                    have C0 := frO_0 kC.out
                    have C1 := frO_1 kC.out
                    have S0 := frO_0 kS.out
                    have S1 := frO_1 kS.out
                    have P0 := frO_0 kP.out
                    have P1 := frO_1 kP.out
                    have T0 := frO_0 kT.out
                    have T1 := frO_1 kT.out
                    go_wp2
                    go_ret
                    exact ⟨rfl, L.out⟩
                · have hpb : (pc != 0) = true := by rw [bne_iff_ne]; exact hpc
                  clear hpc
                  go_wp2_with (fail)
                  refine (awake_any _ (ht.below (L.out.trans (gN.mono L.out.size)))).mono ?_
                  rintro e w10 ⟨rfl, hB⟩
                  replace L := Lib.hid (L.out.trans ((gN.trans (hB.mono gN.size)).mono L.out.size))
                  replace kA := Lib.hid (stays kA.out hB)
                  replace kB := Lib.hid (stays kB.out hB)
                  replace kC := Lib.hid (stays kC.out hB)
                  replace kS := Lib.hid (stays kS.out hB)
                  replace kP := Lib.hid (stays kP.out hB)
                  replace kT := Lib.hid (stays kT.out hB)
                  generalize w9.heap.size = xT at *
                  clear gN
                  clear hB A0 A1 B0 B1 C0 C1 S0 S1 P0 P1 T0 T1
                  have A0 := frO_0 kA.out
                  have A1 := frO_1 kA.out
                  have B0 := frO_0 kB.out
                  have B1 := frO_1 kB.out
                  have C0 := frO_0 kC.out
                  have C1 := frO_1 kC.out
                  have S0 := frO_0 kS.out
                  have S1 := frO_1 kS.out
                  have P0 := frO_0 kP.out
                  have P1 := frO_1 kP.out
                  have T0 := frO_0 kT.out
                  have T1 := frO_1 kT.out
                  go_wp2
                  go_ret
                  exact ⟨rfl, L.out⟩
        · obtain ⟨rfl, rfl⟩ := val_eq q0 q1 l1
          have cAB : ∀ W, _ := fun W => cmp_any an ad an ad W q0.fit q1.fit
          rw [e1] at cAB
          have cBA : ∀ W, _ := fun W => cmp_any an ad an ad W q1.fit q0.fit
          rw [e2] at cBA
          go_wp2_with (fail)
          refine (cAB _).mono ?_
          rintro e w4 ⟨rfl, hB⟩
          replace L := Lib.hid (L.out.trans (hB.mono L.out.size))
          replace kA := Lib.hid (stays kA.out hB)
          replace kB := Lib.hid (stays kB.out hB)
          replace kC := Lib.hid (stays kC.out hB)
          clear hB A0 A1 B0 B1 C0 C1
          have A0 := frO_0 kA.out
          have A1 := frO_1 kA.out
          have B0 := frO_0 kB.out
          have B1 := frO_1 kB.out
          have C0 := frO_0 kC.out
          have C1 := frO_1 kC.out
          go_wp2_with (fail)
          refine (cBA _).mono ?_
          rintro e w5 ⟨rfl, hB⟩
          replace L := Lib.hid (L.out.trans (hB.mono L.out.size))
          replace kA := Lib.hid (stays kA.out hB)
          replace kB := Lib.hid (stays kB.out hB)
          replace kC := Lib.hid (stays kC.out hB)
          clear hB A0 A1 B0 B1 C0 C1
          have A0 := frO_0 kA.out
          have A1 := frO_1 kA.out
          have B0 := frO_0 kB.out
          have B1 := frO_1 kB.out
          have C0 := frO_0 kC.out
          have C1 := frO_1 kC.out
          by_cases l2 : an * cd ≤ cn * ad
          · skip
            have u1 : cmpF an ad cn cd ≤ 0 := cmp_le l2
            have u2 : cmpF an ad cn cd ≤ 0 := cmp_le (le_trans_q p0 p1 p2 (by omega) l2)
            have cBC : ∀ W, _ := fun W => cmp_any an ad cn cd W q1.fit q2.fit
            have cAC : ∀ W, _ := fun W => cmp_any an ad cn cd W q0.fit q2.fit
            generalize cmpF an ad cn cd = y1 at *
            generalize cmpF an ad cn cd = y2 at *
            go_wp2_with (fail)
            refine (cBC _).mono ?_
            rintro e w6 ⟨rfl, hB⟩
            replace L := Lib.hid (L.out.trans (hB.mono L.out.size))
            replace kA := Lib.hid (stays kA.out hB)
            replace kB := Lib.hid (stays kB.out hB)
            replace kC := Lib.hid (stays kC.out hB)
            clear hB A0 A1 B0 B1 C0 C1
            have A0 := frO_0 kA.out
            have A1 := frO_1 kA.out
            have B0 := frO_0 kB.out
            have B1 := frO_1 kB.out
            have C0 := frO_0 kC.out
            have C1 := frO_1 kC.out
            go_wp2_with (fail)
            refine (cAC _).mono ?_
            rintro e w7 ⟨rfl, hB⟩
            replace L := Lib.hid (L.out.trans (hB.mono L.out.size))
            replace kA := Lib.hid (stays kA.out hB)
            replace kB := Lib.hid (stays kB.out hB)
            replace kC := Lib.hid (stays kC.out hB)
            clear hB A0 A1 B0 B1 C0 C1
            have A0 := frO_0 kA.out
            have A1 := frO_1 kA.out
            have B0 := frO_0 kB.out
            have B1 := frO_1 kB.out
            have C0 := frO_0 kC.out
            have C1 := frO_1 kC.out
            obtain ⟨⟨⟨sn, sd⟩, sc⟩, hs⟩ : ∃ r, mkF (an * ad - an * ad) (ad * ad) = r := ⟨_, rfl⟩
            obtain ⟨⟨⟨pn, pd⟩, pc⟩, hp⟩ : ∃ r, mkF (an * cd + cn * ad) (ad * cd) = r := ⟨_, rfl⟩
            obtain ⟨⟨⟨tn, td⟩, tc⟩, htt⟩ : ∃ r, mkF (an * cd + cn * ad) (ad * cd) = r := ⟨_, rfl⟩
            have cS : ∀ W, _ := fun W => sub_any an ad an ad W q0.fit q1.fit
            rw [hs] at cS
            have cP : ∀ W, _ := fun W => add_any an ad cn cd W q0.fit q2.fit
            rw [hp] at cP
            have cT : ∀ W, _ := fun W => add_any an ad cn cd W q1.fit q2.fit
            rw [htt] at cT
            by_cases hsc : sc = 0
            · subst hsc
              have r1 : sn = 0 := (sub_sign p0 p1 hs).2.1.2 rfl
              rw [r1] at cS hs
              clear r1
              go_wp2_with (fail)
              refine (cS _).mono ?_
              rintro e w8 ⟨rfl, hB⟩
              replace L := Lib.hid (L.out.trans (hB.mono L.out.size))
              replace kA := Lib.hid (stays kA.out hB)
              replace kB := Lib.hid (stays kB.out hB)
              replace kC := Lib.hid (stays kC.out hB)
              clear hB A0 A1 B0 B1 C0 C1
              simp only [mkV]
              obtain ⟨gN, kS⟩ := box_new w8 (0) (sd)
              replace kA := Lib.hid (stays kA.out gN)
              replace kB := Lib.hid (stays kB.out gN)
              replace kC := Lib.hid (stays kC.out gN)
              replace kS := Lib.hid kS
              have A0 := frO_0 kA.out
              have A1 := frO_1 kA.out
              have B0 := frO_0 kB.out
              have B1 := frO_1 kB.out
              have C0 := frO_0 kC.out
              have C1 := frO_1 kC.out
              have S0 := frO_0 kS.out
              have S1 := frO_1 kS.out
              go_wp2_with (fail)
              refine (cP _).mono ?_
              rintro e w9 ⟨rfl, hB⟩
              replace L := Lib.hid (L.out.trans ((gN.trans (hB.mono gN.size)).mono L.out.size))
              replace kA := Lib.hid (stays kA.out hB)
              replace kB := Lib.hid (stays kB.out hB)
              replace kC := Lib.hid (stays kC.out hB)
              replace kS := Lib.hid (stays kS.out hB)
              generalize w8.heap.size = xS at *
              clear gN
              clear hB A0 A1 B0 B1 C0 C1 S0 S1
              simp only [mkV]
              obtain ⟨gN, kP⟩ := box_new w9 (pn) (pd)
              replace kA := Lib.hid (stays kA.out gN)
              replace kB := Lib.hid (stays kB.out gN)
              replace kC := Lib.hid (stays kC.out gN)
              replace kS := Lib.hid (stays kS.out gN)
              replace kP := Lib.hid kP
              have A0 := frO_0 kA.out
              have A1 := frO_1 kA.out
              have B0 := frO_0 kB.out
              have B1 := frO_1 kB.out
              have C0 := frO_0 kC.out
              have C1 := frO_1 kC.out
              have S0 := frO_0 kS.out
              have S1 := frO_1 kS.out
              have P0 := frO_0 kP.out
              have P1 := frO_1 kP.out
              go_wp2_with (fail)
              refine (cT _).mono ?_
              rintro e w10 ⟨rfl, hB⟩
              replace L := Lib.hid (L.out.trans ((gN.trans (hB.mono gN.size)).mono L.out.size))
              replace kA := Lib.hid (stays kA.out hB)
              replace kB := Lib.hid (stays kB.out hB)
              replace kC := Lib.hid (stays kC.out hB)
              replace kS := Lib.hid (stays kS.out hB)
              replace kP := Lib.hid (stays kP.out hB)
              generalize w9.heap.size = xP at *
              clear gN
              clear hB A0 A1 B0 B1 C0 C1 S0 S1 P0 P1
              simp only [mkV]
              obtain ⟨gN, kT⟩ := box_new w10 (tn) (td)
              replace kA := Lib.hid (stays kA.out gN)
              replace kB := Lib.hid (stays kB.out gN)
              replace kC := Lib.hid (stays kC.out gN)
              replace kS := Lib.hid (stays kS.out gN)
              replace kP := Lib.hid (stays kP.out gN)
              replace kT := Lib.hid kT
              have A0 := frO_0 kA.out
              have A1 := frO_1 kA.out
              have B0 := frO_0 kB.out
              have B1 := frO_1 kB.out
              have C0 := frO_0 kC.out
              have C1 := frO_1 kC.out
              have S0 := frO_0 kS.out
              have S1 := frO_1 kS.out
              have P0 := frO_0 kP.out
              have P1 := frO_1 kP.out
              have T0 := frO_0 kT.out
              have T1 := frO_1 kT.out
              by_cases hpc : pc = 0
              · subst hpc
                by_cases htc : tc = 0
                · subst htc
                  have cC : ∀ W, _ := fun W => cmp_any pn pd tn td W (fit_mk hp) (fit_mk htt)
                  rw [add_cmp p0 p1 p2 hp htt, e1] at cC
                  go_wp2_with (fail)
                  refine (cC _).mono ?_
                  rintro e w11 ⟨rfl, hB⟩
                  replace L := Lib.hid (L.out.trans ((gN.trans (hB.mono gN.size)).mono L.out.size))
                  replace kA := Lib.hid (stays kA.out hB)
                  replace kB := Lib.hid (stays kB.out hB)
                  replace kC := Lib.hid (stays kC.out hB)
                  replace kS := Lib.hid (stays kS.out hB)
                  replace kP := Lib.hid (stays kP.out hB)
                  replace kT := Lib.hid (stays kT.out hB)
                  generalize w10.heap.size = xT at *
                  clear gN
                  clear hB A0 A1 B0 B1 C0 C1 S0 S1 P0 P1 T0 T1
                  have A0 := frO_0 kA.out
                  have A1 := frO_1 kA.out
                  have B0 := frO_0 kB.out
                  have B1 := frO_1 kB.out
                  have C0 := frO_0 kC.out
                  have C1 := frO_1 kC.out
                  have S0 := frO_0 kS.out
                  have S1 := frO_1 kS.out
                  have P0 := frO_0 kP.out
                  have P1 := frO_1 kP.out
                  have T0 := frO_0 kT.out
                  have T1 := frO_1 kT.out
                  go_wp2_with (fail)
                  refine (awake_any _ (ht.below L.out)).mono ?_
                  rintro e w12 ⟨rfl, hB⟩
                  replace L := Lib.hid (L.out.trans (hB.mono L.out.size))
                  replace kA := Lib.hid (stays kA.out hB)
                  replace kB := Lib.hid (stays kB.out hB)
                  replace kC := Lib.hid (stays kC.out hB)
                  replace kS := Lib.hid (stays kS.out hB)
                  replace kP := Lib.hid (stays kP.out hB)
                  replace kT := Lib.hid (stays kT.out hB)
                  clear hB A0 A1 B0 B1 C0 C1 S0 S1 P0 P1 T0 T1
                  have A0 := frO_0 kA.out
                  have A1 := frO_1 kA.out
                  have B0 := frO_0 kB.out
                  have B1 := frO_1 kB.out
                  have C0 := frO_0 kC.out
                  have C1 := frO_1 kC.out
                  have S0 := frO_0 kS.out
                  have S1 := frO_1 kS.out
                  have P0 := frO_0 kP.out
                  have P1 := frO_1 kP.out
                  have T0 := frO_0 kT.out
                  have T1 := frO_1 kT.out
                  go_wp2
                  go_ret
                  exact ⟨rfl, L.out⟩
                · have htb : (tc != 0) = true := by rw [bne_iff_ne]; exact htc
                  clear htc
                  go_wp2_with (fail)
                  refine (awake_any _ (ht.below (L.out.trans (gN.mono L.out.size)))).mono ?_
                  rintro e w11 ⟨rfl, hB⟩
                  replace L := Lib.hid (L.out.trans ((gN.trans (hB.mono gN.size)).mono L.out.size))
                  replace kA := Lib.hid (stays kA.out hB)
                  replace kB := Lib.hid (stays kB.out hB)
                  replace kC := Lib.hid (stays kC.out hB)
                  replace kS := Lib.hid (stays kS.out hB)
                  replace kP := Lib.hid (stays kP.out hB)
                  replace kT := Lib.hid (stays kT.out hB)
                  generalize w10.heap.size = xT at *
                  clear gN
                  clear hB A0 A1 B0 B1 C0 C1 S0 S1 P0 P1 T0 T1
                  have A0 := frO_0 kA.out
                  have A1 := frO_1 kA.out
                  have B0 := frO_0 kB.out
                  have B1 := frO_1 kB.out
                  have C0 := frO_0 kC.out
                  have C1 := frO_1 kC.out
                  have S0 := frO_0 kS.out
                  have S1 := frO_1 kS.out
                  have P0 := frO_0 kP.out
                  have P1 := frO_1 kP.out
                  have T0 := frO_0 kT.out
                  have T1 := frO_1 kT.out
                  go_wp2
                  go_ret
                  exact ⟨rfl, L.out⟩
              · have hpb : (pc != 0) = true := by rw [bne_iff_ne]; exact hpc
                clear hpc
                go_wp2_with (fail)
                refine (awake_any _ (ht.below (L.out.trans (gN.mono L.out.size)))).mono ?_
                rintro e w11 ⟨rfl, hB⟩
                replace L := Lib.hid (L.out.trans ((gN.trans (hB.mono gN.size)).mono L.out.size))
                replace kA := Lib.hid (stays kA.out hB)
                replace kB := Lib.hid (stays kB.out hB)
                replace kC := Lib.hid (stays kC.out hB)
                replace kS := Lib.hid (stays kS.out hB)
                replace kP := Lib.hid (stays kP.out hB)
                replace kT := Lib.hid (stays kT.out hB)
                generalize w10.heap.size = xT at *
                clear gN
                clear hB A0 A1 B0 B1 C0 C1 S0 S1 P0 P1 T0 T1
                have A0 := frO_0 kA.out
                have A1 := frO_1 kA.out
                have B0 := frO_0 kB.out
                have B1 := frO_1 kB.out
                have C0 := frO_0 kC.out
                have C1 := frO_1 kC.out
                have S0 := frO_0 kS.out
                have S1 := frO_1 kS.out
                have P0 := frO_0 kP.out
                have P1 := frO_1 kP.out
                have T0 := frO_0 kT.out
                have T1 := frO_1 kT.out
                go_wp2
                go_ret
                exact ⟨rfl, L.out⟩
            · have hsb : (sc == 0) = false := by rw [beq_eq_false_iff_ne]; exact hsc
              clear hsc
              go_wp2_with (fail)
              refine (cS _).mono ?_
              rintro e w8 ⟨rfl, hB⟩
              replace L := Lib.hid (L.out.trans (hB.mono L.out.size))
              replace kA := Lib.hid (stays kA.out hB)
              replace kB := Lib.hid (stays kB.out hB)
              replace kC := Lib.hid (stays kC.out hB)
              clear hB A0 A1 B0 B1 C0 C1
              simp only [mkV]
              obtain ⟨gN, kS⟩ := box_new w8 (sn) (sd)
              replace kA := Lib.hid (stays kA.out gN)
              replace kB := Lib.hid (stays kB.out gN)
              replace kC := Lib.hid (stays kC.out gN)
              replace kS := Lib.hid kS
              have A0 := frO_0 kA.out
              have A1 := frO_1 kA.out
              have B0 := frO_0 kB.out
              have B1 := frO_1 kB.out
              have C0 := frO_0 kC.out
              have C1 := frO_1 kC.out
              have S0 := frO_0 kS.out
              have S1 := frO_1 kS.out
              go_wp2_with (fail)
              refine (cP _).mono ?_
              rintro e w9 ⟨rfl, hB⟩
              replace L := Lib.hid (L.out.trans ((gN.trans (hB.mono gN.size)).mono L.out.size))
              replace kA := Lib.hid (stays kA.out hB)
              replace kB := Lib.hid (stays kB.out hB)
              replace kC := Lib.hid (stays kC.out hB)
              replace kS := Lib.hid (stays kS.out hB)
              generalize w8.heap.size = xS at *
              clear gN
              clear hB A0 A1 B0 B1 C0 C1 S0 S1
              simp only [mkV]
              obtain ⟨gN, kP⟩ := box_new w9 (pn) (pd)
              replace kA := Lib.hid (stays kA.out gN)
              replace kB := Lib.hid (stays kB.out gN)
              replace kC := Lib.hid (stays kC.out gN)
              replace kS := Lib.hid (stays kS.out gN)
              replace kP := Lib.hid kP
              have A0 := frO_0 kA.out
              have A1 := frO_1 kA.out
              have B0 := frO_0 kB.out
              have B1 := frO_1 kB.out
              have C0 := frO_0 kC.out
              have C1 := frO_1 kC.out
              have S0 := frO_0 kS.out
              have S1 := frO_1 kS.out
              have P0 := frO_0 kP.out
              have P1 := frO_1 kP.out
              go_wp2_with (fail)
              refine (cT _).mono ?_
              rintro e w10 ⟨rfl, hB⟩
              replace L := Lib.hid (L.out.trans ((gN.trans (hB.mono gN.size)).mono L.out.size))
              replace kA := Lib.hid (stays kA.out hB)
              replace kB := Lib.hid (stays kB.out hB)
              replace kC := Lib.hid (stays kC.out hB)
              replace kS := Lib.hid (stays kS.out hB)
              replace kP := Lib.hid (stays kP.out hB)
              generalize w9.heap.size = xP at *
              clear gN
              clear hB A0 A1 B0 B1 C0 C1 S0 S1 P0 P1
              simp only [mkV]
              obtain ⟨gN, kT⟩ := box_new w10 (tn) (td)
              replace kA := Lib.hid (stays kA.out gN)
              replace kB := Lib.hid (stays kB.out gN)
              replace kC := Lib.hid (stays kC.out gN)
              replace kS := Lib.hid (stays kS.out gN)
              replace kP := Lib.hid (stays kP.out gN)
              replace kT := Lib.hid kT
              have A0 := frO_0 kA.out
              have A1 := frO_1 kA.out
              have B0 := frO_0 kB.out
              have B1 := frO_1 kB.out
              have C0 := frO_0 kC.out
              have C1 := frO_1 kC.out
              have S0 := frO_0 kS.out
              have S1 := frO_1 kS.out
              have P0 := frO_0 kP.out
              have P1 := frO_1 kP.out
              have T0 := frO_0 kT.out
              have T1 := frO_1 kT.out
              by_cases hpc : pc = 0
              · subst hpc
                by_cases htc : tc = 0
                · subst htc
                  have cC : ∀ W, _ := fun W => cmp_any pn pd tn td W (fit_mk hp) (fit_mk htt)
                  rw [add_cmp p0 p1 p2 hp htt, e1] at cC
                  go_wp2_with (fail)
                  refine (cC _).mono ?_
                  rintro e w11 ⟨rfl, hB⟩
                  replace L := Lib.hid (L.out.trans ((gN.trans (hB.mono gN.size)).mono L.out.size))
                  replace kA := Lib.hid (stays kA.out hB)
                  replace kB := Lib.hid (stays kB.out hB)
                  replace kC := Lib.hid (stays kC.out hB)
                  replace kS := Lib.hid (stays kS.out hB)
                  replace kP := Lib.hid (stays kP.out hB)
                  replace kT := Lib.hid (stays kT.out hB)
                  generalize w10.heap.size = xT at *
                  clear gN
                  clear hB A0 A1 B0 B1 C0 C1 S0 S1 P0 P1 T0 T1
                  have A0 := frO_0 kA.out
                  have A1 := frO_1 kA.out
                  have B0 := frO_0 kB.out
                  have B1 := frO_1 kB.out
                  have C0 := frO_0 kC.out
                  have C1 := frO_1 kC.out
                  have S0 := frO_0 kS.out
                  have S1 := frO_1 kS.out
                  have P0 := frO_0 kP.out
                  have P1 := frO_1 kP.out
                  have T0 := frO_0 kT.out
                  have T1 := frO_1 kT.out
                  go_wp2_with (fail)
                  refine (awake_any _ (ht.below L.out)).mono ?_
                  rintro e w12 ⟨rfl, hB⟩
                  replace L := Lib.hid (L.out.trans (hB.mono L.out.size))
                  replace kA := Lib.hid (stays kA.out hB)
                  replace kB := Lib.hid (stays kB.out hB)
                  replace kC := Lib.hid (stays kC.out hB)
                  replace kS := Lib.hid (stays kS.out hB)
                  replace kP := Lib.hid (stays kP.out hB)
                  replace kT := Lib.hid (stays kT.out hB)
                  clear hB A0 A1 B0 B1 C0 C1 S0 S1 P0 P1 T0 T1
                  have A0 := frO_0 kA.out
                  have A1 := frO_1 kA.out
                  have B0 := frO_0 kB.out
                  have B1 := frO_1 kB.out
                  have C0 := frO_0 kC.out
                  have C1 := frO_1 kC.out
                  have S0 := frO_0 kS.out
                  have S1 := frO_1 kS.out
                  have P0 := frO_0 kP.out
                  have P1 := frO_1 kP.out
                  have T0 := frO_0 kT.out
                  have T1 := frO_1 kT.out
                  go_wp2
                  go_ret
                  exact ⟨rfl, L.out⟩
                · have htb : (tc != 0) = true := by rw [bne_iff_ne]; exact htc
                  clear htc
                  go_wp2_with (fail)
                  refine (awake_any _ (ht.below (L.out.trans (gN.mono L.out.size)))).mono ?_
                  rintro e w11 ⟨rfl, hB⟩
                  replace L := Lib.hid (L.out.trans ((gN.trans (hB.mono gN.size)).mono L.out.size))
                  replace kA := Lib.hid (stays kA.out hB)
                  replace kB := Lib.hid (stays kB.out hB)
                  replace kC := Lib.hid (stays kC.out hB)
                  replace kS := Lib.hid (stays kS.out hB)
                  replace kP := Lib.hid (stays kP.out hB)
                  replace kT := Lib.hid (stays kT.out hB)
                  generalize w10.heap.size = xT at *
                  clear gN
                  clear hB A0 A1 B0 B1 C0 C1 S0 S1 P0 P1 T0 T1
                  have A0 := frO_0 kA.out
                  have A1 := frO_1 kA.out
                  have B0 := frO_0 kB.out
                  have B1 := frO_1 kB.out
                  have C0 := frO_0 kC.out
                  have C1 := frO_1 kC.out
                  have S0 := frO_0 kS.out
                  have S1 := frO_1 kS.out
                  have P0 := frO_0 kP.out
                  have P1 := frO_1 kP.out
                  have T0 := frO_0 kT.out
                  have T1 := frO_1 kT.out
                  go_wp2
                  go_ret
                  exact ⟨rfl, L.out⟩
              · have hpb : (pc != 0) = true := by rw [bne_iff_ne]; exact hpc
                clear hpc
                go_wp2_with (fail)
                refine (awake_any _ (ht.below (L.out.trans (gN.mono L.out.size)))).mono ?_
                rintro e w11 ⟨rfl, hB⟩
                replace L := Lib.hid (L.out.trans ((gN.trans (hB.mono gN.size)).mono L.out.size))
                replace kA := Lib.hid (stays kA.out hB)
                replace kB := Lib.hid (stays kB.out hB)
                replace kC := Lib.hid (stays kC.out hB)
                replace kS := Lib.hid (stays kS.out hB)
                replace kP := Lib.hid (stays kP.out hB)
                replace kT := Lib.hid (stays kT.out hB)
                generalize w10.heap.size = xT at *
                clear gN
                clear hB A0 A1 B0 B1 C0 C1 S0 S1 P0 P1 T0 T1
                have A0 := frO_0 kA.out
                have A1 := frO_1 kA.out
                have B0 := frO_0 kB.out
                have B1 := frO_1 kB.out
                have C0 := frO_0 kC.out
                have C1 := frO_1 kC.out
                have S0 := frO_0 kS.out
                have S1 := frO_1 kS.out
                have P0 := frO_0 kP.out
                have P1 := frO_1 kP.out
                have T0 := frO_0 kT.out
                have T1 := frO_1 kT.out
                go_wp2
                go_ret
                exact ⟨rfl, L.out⟩
          · skip
            have u1 : ¬ cmpF an ad cn cd ≤ 0 := fun h => l2 (cmp_le_iff.1 h)
            have u1 : 0 < cmpF an ad cn cd := by omega
            have cBC : ∀ W, _ := fun W => cmp_any an ad cn cd W q1.fit q2.fit
            generalize cmpF an ad cn cd = y1 at *
            go_wp2_with (fail)
            refine (cBC _).mono ?_
            rintro e w6 ⟨rfl, hB⟩
            replace L := Lib.hid (L.out.trans (hB.mono L.out.size))
            replace kA := Lib.hid (stays kA.out hB)
            replace kB := Lib.hid (stays kB.out hB)
            replace kC := Lib.hid (stays kC.out hB)
            clear hB A0 A1 B0 B1 C0 C1
            have A0 := frO_0 kA.out
            have A1 := frO_1 kA.out
            have B0 := frO_0 kB.out
            have B1 := frO_1 kB.out
            have C0 := frO_0 kC.out
            have C1 := frO_1 kC.out
            obtain ⟨⟨⟨sn, sd⟩, sc⟩, hs⟩ : ∃ r, mkF (an * ad - an * ad) (ad * ad) = r := ⟨_, rfl⟩
            obtain ⟨⟨⟨pn, pd⟩, pc⟩, hp⟩ : ∃ r, mkF (an * cd + cn * ad) (ad * cd) = r := ⟨_, rfl⟩
            obtain ⟨⟨⟨tn, td⟩, tc⟩, htt⟩ : ∃ r, mkF (an * cd + cn * ad) (ad * cd) = r := ⟨_, rfl⟩
            have cS : ∀ W, _ := fun W => sub_any an ad an ad W q0.fit q1.fit
            rw [hs] at cS
            have cP : ∀ W, _ := fun W => add_any an ad cn cd W q0.fit q2.fit
            rw [hp] at cP
            have cT : ∀ W, _ := fun W => add_any an ad cn cd W q1.fit q2.fit
            rw [htt] at cT
            by_cases hsc : sc = 0
            · subst hsc
              have r1 : sn = 0 := (sub_sign p0 p1 hs).2.1.2 rfl
              rw [r1] at cS hs
              clear r1
              go_wp2_with (fail)
              refine (cS _).mono ?_
              rintro e w7 ⟨rfl, hB⟩
              replace L := Lib.hid (L.out.trans (hB.mono L.out.size))
              replace kA := Lib.hid (stays kA.out hB)
              replace kB := Lib.hid (stays kB.out hB)
              replace kC := Lib.hid (stays kC.out hB)
              clear hB A0 A1 B0 B1 C0 C1
              simp only [mkV]
              obtain ⟨gN, kS⟩ := box_new w7 (0) (sd)
              replace kA := Lib.hid (stays kA.out gN)
              replace kB := Lib.hid (stays kB.out gN)
              replace kC := Lib.hid (stays kC.out gN)
              replace kS := Lib.hid kS
              have A0 := frO_0 kA.out
              have A1 := frO_1 kA.out
              have B0 := frO_0 kB.out
              have B1 := frO_1 kB.out
              have C0 := frO_0 kC.out
              have C1 := frO_1 kC.out
              have S0 := frO_0 kS.out
              have S1 := frO_1 kS.out
              go_wp2_with (fail)
              refine (cP _).mono ?_
              rintro e w8 ⟨rfl, hB⟩
              replace L := Lib.hid (L.out.trans ((gN.trans (hB.mono gN.size)).mono L.out.size))
              replace kA := Lib.hid (stays kA.out hB)
              replace kB := Lib.hid (stays kB.out hB)
              replace kC := Lib.hid (stays kC.out hB)
              replace kS := Lib.hid (stays kS.out hB)
              generalize w7.heap.size = xS at *
              clear gN
              clear hB A0 A1 B0 B1 C0 C1 S0 S1
              simp only [mkV]
              obtain ⟨gN, kP⟩ := box_new w8 (pn) (pd)
              replace kA := Lib.hid (stays kA.out gN)
              replace kB := Lib.hid (stays kB.out gN)
              replace kC := Lib.hid (stays kC.out gN)
              replace kS := Lib.hid (stays kS.out gN)
              replace kP := Lib.hid kP
              have A0 := frO_0 kA.out
              have A1 := frO_1 kA.out
              have B0 := frO_0 kB.out
              have B1 := frO_1 kB.out
              have C0 := frO_0 kC.out
              have C1 := frO_1 kC.out
              have S0 := frO_0 kS.out
              have S1 := frO_1 kS.out
              have P0 := frO_0 kP.out
              have P1 := frO_1 kP.out
              go_wp2_with (fail)
              refine (cT _).mono ?_
              rintro e w9 ⟨rfl, hB⟩
              replace L := Lib.hid (L.out.trans ((gN.trans (hB.mono gN.size)).mono L.out.size))
              replace kA := Lib.hid (stays kA.out hB)
              replace kB := Lib.hid (stays kB.out hB)
              replace kC := Lib.hid (stays kC.out hB)
              replace kS := Lib.hid (stays kS.out hB)
              replace kP := Lib.hid (stays kP.out hB)
              generalize w8.heap.size = xP at *
              clear gN
              clear hB A0 A1 B0 B1 C0 C1 S0 S1 P0 P1
              simp only [mkV]
              obtain ⟨gN, kT⟩ := box_new w9 (tn) (td)
              replace kA := Lib.hid (stays kA.out gN)
              replace kB := Lib.hid (stays kB.out gN)
              replace kC := Lib.hid (stays kC.out gN)
              replace kS := Lib.hid (stays kS.out gN)
              replace kP := Lib.hid (stays kP.out gN)
              replace kT := Lib.hid kT
              have A0 := frO_0 kA.out
              have A1 := frO_1 kA.out
              have B0 := frO_0 kB.out
              have B1 := frO_1 kB.out
              have C0 := frO_0 kC.out
              have C1 := frO_1 kC.out
              have S0 := frO_0 kS.out
              have S1 := frO_1 kS.out
              have P0 := frO_0 kP.out
              have P1 := frO_1 kP.out
              have T0 := frO_0 kT.out
              have T1 := frO_1 kT.out
              by_cases hpc : pc = 0
              · subst hpc
                by_cases htc : tc = 0
                · subst htc
                  have cC : ∀ W, _ := fun W => cmp_any pn pd tn td W (fit_mk hp) (fit_mk htt)
                  rw [add_cmp p0 p1 p2 hp htt, e1] at cC
                  go_wp2_with (fail)
                  refine (cC _).mono ?_
                  rintro e w10 ⟨rfl, hB⟩
                  replace L := Lib.hid (L.out.trans ((gN.trans (hB.mono gN.size)).mono L.out.size))
                  replace kA := Lib.hid (stays kA.out hB)
                  replace kB := Lib.hid (stays kB.out hB)
                  replace kC := Lib.hid (stays kC.out hB)
                  replace kS := Lib.hid (stays kS.out hB)
                  replace kP := Lib.hid (stays kP.out hB)
                  replace kT := Lib.hid (stays kT.out hB)
                  generalize w9.heap.size = xT at *
                  clear gN
                  clear hB A0 A1 B0 B1 C0 C1 S0 S1 P0 P1 T0 T1
                  have A0 := frO_0 kA.out
                  have A1 := frO_1 kA.out
                  have B0 := frO_0 kB.out
                  have B1 := frO_1 kB.out
                  have C0 := frO_0 kC.out
                  have C1 := frO_1 kC.out
                  have S0 := frO_0 kS.out
                  have S1 := frO_1 kS.out
                  have P0 := frO_0 kP.out
                  have P1 := frO_1 kP.out
                  have T0 := frO_0 kT.out
                  have T1 := frO_1 kT.out
                  go_wp2_with (fail)
                  refine (awake_any _ (ht.below L.out)).mono ?_
                  rintro e w11 ⟨rfl, hB⟩
                  replace L := Lib.hid (L.out.trans (hB.mono L.out.size))
                  replace kA := Lib.hid (stays kA.out hB)
                  replace kB := Lib.hid (stays kB.out hB)
                  replace kC := Lib.hid (stays kC.out hB)
                  replace kS := Lib.hid (stays kS.out hB)
                  replace kP := Lib.hid (stays kP.out hB)
                  replace kT := Lib.hid (stays kT.out hB)
                  clear hB A0 A1 B0 B1 C0 C1 S0 S1 P0 P1 T0 T1
                  have A0 := frO_0 kA.out
                  have A1 := frO_1 kA.out
                  have B0 := frO_0 kB.out
                  have B1 := frO_1 kB.out
                  have C0 := frO_0 kC.out
                  have C1 := frO_1 kC.out
                  have S0 := frO_0 kS.out
                  have S1 := frO_1 kS.out
                  have P0 := frO_0 kP.out
                  have P1 := frO_1 kP.out
                  have T0 := frO_0 kT.out
                  have T1 := frO_1 kT.out
                  go_wp2
                  go_ret
                  exact ⟨rfl, L.out⟩
                · have htb : (tc != 0) = true := by rw [bne_iff_ne]; exact htc
                  clear htc
                  go_wp2_with (fail)
                  refine (awake_any _ (ht.below (L.out.trans (gN.mono L.out.size)))).mono ?_
                  rintro e w10 ⟨rfl, hB⟩
                  replace L := Lib.hid (L.out.trans ((gN.trans (hB.mono gN.size)).mono L.out.size))
                  replace kA := Lib.hid (stays kA.out hB)
                  replace kB := Lib.hid (stays kB.out hB)
                  replace kC := Lib.hid (stays kC.out hB)
                  replace kS := Lib.hid (stays kS.out hB)
                  replace kP := Lib.hid (stays kP.out hB)
                  replace kT := Lib.hid (stays kT.out hB)
                  generalize w9.heap.size = xT at *
                  clear gN
                  clear hB A0 A1 B0 B1 C0 C1 S0 S1 P0 P1 T0 T1
                  have A0 := frO_0 kA.out
                  have A1 := frO_1 kA.out
                  have B0 := frO_0 kB.out
                  have B1 := frO_1 kB.out
                  have C0 := frO_0 kC.out
                  have C1 := frO_1 kC.out
                  have S0 := frO_0 kS.out
                  have S1 := frO_1 kS.out
                  have P0 := frO_0 kP.out
                  have P1 := frO_1 kP.out
                  have T0 := frO_0 kT.out
                  have T1 := frO_1 kT.out
                  go_wp2
                  go_ret
                  exact ⟨rfl, L.out⟩
              · have hpb : (pc != 0) = true := by rw [bne_iff_ne]; exact hpc
                clear hpc
                go_wp2_with (fail)
                refine (awake_any _ (ht.below (L.out.trans (gN.mono L.out.size)))).mono ?_
                rintro e w10 ⟨rfl, hB⟩
                replace L := Lib.hid (L.out.trans ((gN.trans (hB.mono gN.size)).mono L.out.size))
                replace kA := Lib.hid (stays kA.out hB)
                replace kB := Lib.hid (stays kB.out hB)
                replace kC := Lib.hid (stays kC.out hB)
                replace kS := Lib.hid (stays kS.out hB)
                replace kP := Lib.hid (stays kP.out hB)
                replace kT := Lib.hid (stays kT.out hB)
                generalize w9.heap.size = xT at *
                clear gN
                clear hB A0 A1 B0 B1 C0 C1 S0 S1 P0 P1 T0 T1
                have A0 := frO_0 kA.out
                have A1 := frO_1 kA.out
                have B0 := frO_0 kB.out
                have B1 := frO_1 kB.out
                have C0 := frO_0 kC.out
                have C1 := frO_1 kC.out
                have S0 := frO_0 kS.out
                have S1 := frO_1 kS.out
                have P0 := frO_0 kP.out
                have P1 := frO_1 kP.out
                have T0 := frO_0 kT.out
                have T1 := frO_1 kT.out
                go_wp2
                go_ret
                exact ⟨rfl, L.out⟩
            · have hsb : (sc == 0) = false := by rw [beq_eq_false_iff_ne]; exact hsc
              clear hsc
              go_wp2_with (fail)
              refine (cS _).mono ?_
              rintro e w7 ⟨rfl, hB⟩
              replace L := Lib.hid (L.out.trans (hB.mono L.out.size))
              replace kA := Lib.hid (stays kA.out hB)
              replace kB := Lib.hid (stays kB.out hB)
              replace kC := Lib.hid (stays kC.out hB)
              clear hB A0 A1 B0 B1 C0 C1
              simp only [mkV]
              obtain ⟨gN, kS⟩ := box_new w7 (sn) (sd)
              replace kA := Lib.hid (stays kA.out gN)
              replace kB := Lib.hid (stays kB.out gN)
              replace kC := Lib.hid (stays kC.out gN)
              replace kS := Lib.hid kS
              have A0 := frO_0 kA.out
              have A1 := frO_1 kA.out
              have B0 := frO_0 kB.out
              have B1 := frO_1 kB.out
              have C0 := frO_0 kC.out
              have C1 := frO_1 kC.out
              have S0 := frO_0 kS.out
              have S1 := frO_1 kS.out
              go_wp2_with (fail)
              refine (cP _).mono ?_
              rintro e w8 ⟨rfl, hB⟩
              replace L := Lib.hid (L.out.trans ((gN.trans (hB.mono gN.size)).mono L.out.size))
              replace kA := Lib.hid (stays kA.out hB)
              replace kB := Lib.hid (stays kB.out hB)
              replace kC := Lib.hid (stays kC.out hB)
              replace kS := Lib.hid (stays kS.out hB)
              generalize w7.heap.size = xS at *
              clear gN
              clear hB A0 A1 B0 B1 C0 C1 S0 S1
              simp only [mkV]
              obtain ⟨gN, kP⟩ := box_new w8 (pn) (pd)
              replace kA := Lib.hid (stays kA.out gN)
              replace kB := Lib.hid (stays kB.out gN)
              replace kC := Lib.hid (stays kC.out gN)
              replace kS := Lib.hid (stays kS.out gN)
              replace kP := Lib.hid kP
              have A0 := frO_0 kA.out
              have A1 := frO_1 kA.out
              have B0 := frO_0 kB.out
              have B1 := frO_1 kB.out
              have C0 := frO_0 kC.out
              have C1 := frO_1 kC.out
              have S0 := frO_0 kS.out
              have S1 := frO_1 kS.out
              have P0 := frO_0 kP.out
              have P1 := frO_1 kP.out
              go_wp2_with (fail)
              refine (cT _).mono ?_
              rintro e w9 ⟨rfl, hB⟩
              replace L := Lib.hid (L.out.trans ((gN.trans (hB.mono gN.size)).mono L.out.size))
              replace kA := Lib.hid (stays kA.out hB)
              replace kB := Lib.hid (stays kB.out hB)
              replace kC := Lib.hid (stays kC.out hB)
              replace kS := Lib.hid (stays kS.out hB)
              replace kP := Lib.hid (stays kP.out hB)
              generalize w8.heap.size = xP at *
              clear gN
              clear hB A0 A1 B0 B1 C0 C1 S0 S1 P0 P1
              simp only [mkV]
              obtain ⟨gN, kT⟩ := box_new w9 (tn) (td)
              replace kA := Lib.hid (stays kA.out gN)
              replace kB := Lib.hid (stays kB.out gN)
              replace kC := Lib.hid (stays kC.out gN)
              replace kS := Lib.hid (stays kS.out gN)
              replace kP := Lib.hid (stays kP.out gN)
              replace kT := Lib.hid kT
              have A0 := frO_0 kA.out
              have A1 := frO_1 kA.out
              have B0 := frO_0 kB.out
              have B1 := frO_1 kB.out
              have C0 := frO_0 kC.out
              have C1 := frO_1 kC.out
              have S0 := frO_0 kS.out
              have S1 := frO_1 kS.out
              have P0 := frO_0 kP.out
              have P1 := frO_1 kP.out
              have T0 := frO_0 kT.out
              have T1 := frO_1 kT.out
              by_cases hpc : pc = 0
              · subst hpc
                by_cases htc : tc = 0
                · subst htc
                  have cC : ∀ W, _ := fun W => cmp_any pn pd tn td W (fit_mk hp) (fit_mk htt)
                  rw [add_cmp p0 p1 p2 hp htt, e1] at cC
                  go_wp2_with (fail)
                  refine (cC _).mono ?_
                  rintro e w10 ⟨rfl, hB⟩
                  replace L := Lib.hid (L.out.trans ((gN.trans (hB.mono gN.size)).mono L.out.size))
                  replace kA := Lib.hid (stays kA.out hB)
                  replace kB := Lib.hid (stays kB.out hB)
                  replace kC := Lib.hid (stays kC.out hB)
                  replace kS := Lib.hid (stays kS.out hB)
                  replace kP := Lib.hid (stays kP.out hB)
                  replace kT := Lib.hid (stays kT.out hB)
                  generalize w9.heap.size = xT at *
                  clear gN
                  clear hB A0 A1 B0 B1 C0 C1 S0 S1 P0 P1 T0 T1
                  have A0 := frO_0 kA.out
                  have A1 := frO_1 kA.out
                  have B0 := frO_0 kB.out
                  have B1 := frO_1 kB.out
                  have C0 := frO_0 kC.out
                  have C1 := frO_1 kC.out
                  have S0 := frO_0 kS.out
                  have S1 := frO_1 kS.out
                  have P0 := frO_0 kP.out
                  have P1 := frO_1 kP.out
                  have T0 := frO_0 kT.out
                  have T1 := frO_1 kT.out
                  go_wp2_with (fail)
                  refine (awake_any _ (ht.below L.out)).mono ?_
                  rintro e w11 ⟨rfl, hB⟩
                  replace L := Lib.hid (L.out.trans (hB.mono L.out.size))
                  replace kA := Lib.hid (stays kA.out hB)
                  replace kB := Lib.hid (stays kB.out hB)
                  replace kC := Lib.hid (stays kC.out hB)
                  replace kS := Lib.hid (stays kS.out hB)
                  replace kP := Lib.hid (stays kP.out hB)
                  replace kT := Lib.hid (stays kT.out hB)
                  clear hB A0 A1 B0 B1 C0 C1 S0 S1 P0 P1 T0 T1
                  have A0 := frO_0 kA.out
                  have A1 := frO_1 kA.out
                  have B0 := frO_0 kB.out
                  have B1 := frO_1 kB.out
                  have C0 := frO_0 kC.out
                  have C1 := frO_1 kC.out
                  have S0 := frO_0 kS.out
                  have S1 := frO_1 kS.out
                  have P0 := frO_0 kP.out
                  have P1 := frO_1 kP.out
                  have T0 := frO_0 kT.out
                  have T1 := frO_1 kT.out
                  go_wp2
                  go_ret
                  exact ⟨rfl, L.out⟩
                · have htb : (tc != 0) = true := by rw [bne_iff_ne]; exact htc
                  clear htc
                  go_wp2_with (fail)
                  refine (awake_any _ (ht.below (L.out.trans (gN.mono L.out.size)))).mono ?_
                  rintro e w10 ⟨rfl, hB⟩
                  replace L := Lib.hid (L.out.trans ((gN.trans (hB.mono gN.size)).mono L.out.size))
                  replace kA := Lib.hid (stays kA.out hB)
                  replace kB := Lib.hid (stays kB.out hB)
                  replace kC := Lib.hid (stays kC.out hB)
                  replace kS := Lib.hid (stays kS.out hB)
                  replace kP := Lib.hid (stays kP.out hB)
                  replace kT := Lib.hid (stays kT.out hB)
                  generalize w9.heap.size = xT at *
                  clear gN
                  clear hB A0 A1 B0 B1 C0 C1 S0 S1 P0 P1 T0 T1
                  have A0 := frO_0 kA.out
                  have A1 := frO_1 kA.out
                  have B0 := frO_0 kB.out
                  have B1 := frO_1 kB.out
                  have C0 := frO_0 kC.out
                  have C1 := frO_1 kC.out
                  have S0 := frO_0 kS.out
                  have S1 := frO_1 kS.out
                  have P0 := frO_0 kP.out
                  have P1 := frO_1 kP.out
                  have T0 := frO_0 kT.out
                  have T1 := frO_1 kT.out
                  go_wp2
                  go_ret
                  exact ⟨rfl, L.out⟩
              · have hpb : (pc != 0) = true := by rw [bne_iff_ne]; exact hpc
                clear hpc
                go_wp2_with (fail)
                refine (awake_any _ (ht.below (L.out.trans (gN.mono L.out.size)))).mono ?_
                rintro e w10 ⟨rfl, hB⟩
                replace L := Lib.hid (L.out.trans ((gN.trans (hB.mono gN.size)).mono L.out.size))
                replace kA := Lib.hid (stays kA.out hB)
                replace kB := Lib.hid (stays kB.out hB)
                replace kC := Lib.hid (stays kC.out hB)
                replace kS := Lib.hid (stays kS.out hB)
                replace kP := Lib.hid (stays kP.out hB)
                replace kT := Lib.hid (stays kT.out hB)
                generalize w9.heap.size = xT at *
                clear gN
                clear hB A0 A1 B0 B1 C0 C1 S0 S1 P0 P1 T0 T1
                have A0 := frO_0 kA.out
                have A1 := frO_1 kA.out
                have B0 := frO_0 kB.out
                have B1 := frO_1 kB.out
                have C0 := frO_0 kC.out
                have C1 := frO_1 kC.out
                have S0 := frO_0 kS.out
                have S1 := frO_1 kS.out
                have P0 := frO_0 kP.out
                have P1 := frO_1 kP.out
                have T0 := frO_0 kT.out
                have T1 := frO_1 kT.out
                go_wp2
                go_ret
                exact ⟨rfl, L.out⟩
        · skip
          by_cases hh : an = bn
          · subst hh
            have hne : ¬ ad = bd := fun h => by rw [h] at l1; omega
            have cAB : ∀ W, _ := fun W => cmp_any an ad an bd W q0.fit q1.fit
            rw [e1] at cAB
            have cBA : ∀ W, _ := fun W => cmp_any an bd an ad W q1.fit q0.fit
            rw [e2] at cBA
            go_wp2_with (fail)
            refine (cAB _).mono ?_
            rintro e w4 ⟨rfl, hB⟩
            replace L := Lib.hid (L.out.trans (hB.mono L.out.size))
            replace kA := Lib.hid (stays kA.out hB)
            replace kB := Lib.hid (stays kB.out hB)
            replace kC := Lib.hid (stays kC.out hB)
            clear hB A0 A1 B0 B1 C0 C1
            have A0 := frO_0 kA.out
            have A1 := frO_1 kA.out
            have B0 := frO_0 kB.out
            have B1 := frO_1 kB.out
            have C0 := frO_0 kC.out
            have C1 := frO_1 kC.out
            go_wp2_with (fail)
            refine (cBA _).mono ?_
            rintro e w5 ⟨rfl, hB⟩
            replace L := Lib.hid (L.out.trans (hB.mono L.out.size))
            replace kA := Lib.hid (stays kA.out hB)
            replace kB := Lib.hid (stays kB.out hB)
            replace kC := Lib.hid (stays kC.out hB)
            clear hB A0 A1 B0 B1 C0 C1
            have A0 := frO_0 kA.out
            have A1 := frO_1 kA.out
            have B0 := frO_0 kB.out
            have B1 := frO_1 kB.out
            have C0 := frO_0 kC.out
            have C1 := frO_1 kC.out
            obtain ⟨⟨⟨sn, sd⟩, sc⟩, hs⟩ : ∃ r, mkF (an * bd - an * ad) (ad * bd) = r := ⟨_, rfl⟩
            obtain ⟨⟨⟨pn, pd⟩, pc⟩, hp⟩ : ∃ r, mkF (an * cd + cn * ad) (ad * cd) = r := ⟨_, rfl⟩
            obtain ⟨⟨⟨tn, td⟩, tc⟩, htt⟩ : ∃ r, mkF (an * cd + cn * bd) (bd * cd) = r := ⟨_, rfl⟩
            have cS : ∀ W, _ := fun W => sub_any an ad an bd W q0.fit q1.fit
            rw [hs] at cS
            have cP : ∀ W, _ := fun W => add_any an ad cn cd W q0.fit q2.fit
            rw [hp] at cP
            have cT : ∀ W, _ := fun W => add_any an bd cn cd W q1.fit q2.fit
            rw [htt] at cT
            by_cases hsc : sc = 0
            · subst hsc
              have r1 : 0 < sn := (sub_sign p0 p1 hs).2.2.2 l1
              go_wp2_with (fail)
              refine (cS _).mono ?_
              rintro e w6 ⟨rfl, hB⟩
              replace L := Lib.hid (L.out.trans (hB.mono L.out.size))
              replace kA := Lib.hid (stays kA.out hB)
              replace kB := Lib.hid (stays kB.out hB)
              replace kC := Lib.hid (stays kC.out hB)
              clear hB A0 A1 B0 B1 C0 C1
              simp only [mkV]
              obtain ⟨gN, kS⟩ := box_new w6 (sn) (sd)
              replace kA := Lib.hid (stays kA.out gN)
              replace kB := Lib.hid (stays kB.out gN)
              replace kC := Lib.hid (stays kC.out gN)
              replace kS := Lib.hid kS
              have A0 := frO_0 kA.out
              have A1 := frO_1 kA.out
              have B0 := frO_0 kB.out
              have B1 := frO_1 kB.out
              have C0 := frO_0 kC.out
              have C1 := frO_1 kC.out
              have S0 := frO_0 kS.out
              have S1 := frO_1 kS.out
              go_wp2_with (fail)
              refine (cP _).mono ?_
              rintro e w7 ⟨rfl, hB⟩
              replace L := Lib.hid (L.out.trans ((gN.trans (hB.mono gN.size)).mono L.out.size))
              replace kA := Lib.hid (stays kA.out hB)
              replace kB := Lib.hid (stays kB.out hB)
              replace kC := Lib.hid (stays kC.out hB)
              replace kS := Lib.hid (stays kS.out hB)
              generalize w6.heap.size = xS at *
              clear gN
              clear hB A0 A1 B0 B1 C0 C1 S0 S1
              simp only [mkV]
              obtain ⟨gN, kP⟩ := box_new w7 (pn) (pd)
              replace kA := Lib.hid (stays kA.out gN)
              replace kB := Lib.hid (stays kB.out gN)
              replace kC := Lib.hid (stays kC.out gN)
              replace kS := Lib.hid (stays kS.out gN)
              replace kP := Lib.hid kP
              have A0 := frO_0 kA.out
              have A1 := frO_1 kA.out
              have B0 := frO_0 kB.out
              have B1 := frO_1 kB.out
              have C0 := frO_0 kC.out
              have C1 := frO_1 kC.out
              have S0 := frO_0 kS.out
              have S1 := frO_1 kS.out
              have P0 := frO_0 kP.out
              have P1 := frO_1 kP.out
              go_wp2_with (fail)
              refine (cT _).mono ?_
              rintro e w8 ⟨rfl, hB⟩
              replace L := Lib.hid (L.out.trans ((gN.trans (hB.mono gN.size)).mono L.out.size))
              replace kA := Lib.hid (stays kA.out hB)
              replace kB := Lib.hid (stays kB.out hB)
              replace kC := Lib.hid (stays kC.out hB)
              replace kS := Lib.hid (stays kS.out hB)
              replace kP := Lib.hid (stays kP.out hB)
              generalize w7.heap.size = xP at *
              clear gN
              clear hB A0 A1 B0 B1 C0 C1 S0 S1 P0 P1
              simp only [mkV]
              obtain ⟨gN, kT⟩ := box_new w8 (tn) (td)
              replace kA := Lib.hid (stays kA.out gN)
              replace kB := Lib.hid (stays kB.out gN)
              replace kC := Lib.hid (stays kC.out gN)
              replace kS := Lib.hid (stays kS.out gN)
              replace kP := Lib.hid (stays kP.out gN)
              replace kT := Lib.hid kT
              have A0 := frO_0 kA.out
              have A1 := frO_1 kA.out
              have B0 := frO_0 kB.out
              have B1 := frO_1 kB.out
              have C0 := frO_0 kC.out
              have C1 := frO_1 kC.out
              have S0 := frO_0 kS.out
              have S1 := frO_1 kS.out
              have P0 := frO_0 kP.out
              have P1 := frO_1 kP.out
              have T0 := frO_0 kT.out
              have T1 := frO_1 kT.out
              by_cases hpc : pc = 0
              · subst hpc
                by_cases htc : tc = 0
                · subst htc
                  have cC : ∀ W, _ := fun W => cmp_any pn pd tn td W (fit_mk hp) (fit_mk htt)
                  rw [add_cmp p0 p1 p2 hp htt, e1] at cC
                  go_wp2_with (fail)
                  refine (cC _).mono ?_
                  rintro e w9 ⟨rfl, hB⟩
                  replace L := Lib.hid (L.out.trans ((gN.trans (hB.mono gN.size)).mono L.out.size))
                  replace kA := Lib.hid (stays kA.out hB)
                  replace kB := Lib.hid (stays kB.out hB)
                  replace kC := Lib.hid (stays kC.out hB)
                  replace kS := Lib.hid (stays kS.out hB)
                  replace kP := Lib.hid (stays kP.out hB)
                  replace kT := Lib.hid (stays kT.out hB)
                  generalize w8.heap.size = xT at *
                  clear gN
                  clear hB A0 A1 B0 B1 C0 C1 S0 S1 P0 P1 T0 T1
                  have A0 := frO_0 kA.out
                  have A1 := frO_1 kA.out
                  have B0 := frO_0 kB.out
                  have B1 := frO_1 kB.out
                  have C0 := frO_0 kC.out
                  have C1 := frO_1 kC.out
                  have S0 := frO_0 kS.out
                  have S1 := frO_1 kS.out
                  have P0 := frO_0 kP.out
                  have P1 := frO_1 kP.out
                  have T0 := frO_0 kT.out
                  have T1 := frO_1 kT.out
                  go_wp2_with (fail)
                  refine (awake_any _ (ht.below L.out)).mono ?_
                  rintro e w10 ⟨rfl, hB⟩
                  replace L := Lib.hid (L.out.trans (hB.mono L.out.size))
                  replace kA := Lib.hid (stays kA.out hB)
                  replace kB := Lib.hid (stays kB.out hB)
                  replace kC := Lib.hid (stays kC.out hB)
                  replace kS := Lib.hid (stays kS.out hB)
                  replace kP := Lib.hid (stays kP.out hB)
                  replace kT := Lib.hid (stays kT.out hB)
                  clear hB A0 A1 B0 B1 C0 C1 S0 S1 P0 P1 T0 T1
                  have A0 := frO_0 kA.out
                  have A1 := frO_1 kA.out
                  have B0 := frO_0 kB.out
                  have B1 := frO_1 kB.out
                  have C0 := frO_0 kC.out
                  have C1 := frO_1 kC.out
                  have S0 := frO_0 kS.out
                  have S1 := frO_1 kS.out
                  have P0 := frO_0 kP.out
                  have P1 := frO_1 kP.out
                  have T0 := frO_0 kT.out
                  have T1 := frO_1 kT.out
                  go_wp2
                  go_ret
                  exact ⟨rfl, L.out⟩
                · have htb : (tc != 0) = true := by rw [bne_iff_ne]; exact htc
                  clear htc
                  go_wp2_with (fail)
                  refine (awake_any _ (ht.below (L.out.trans (gN.mono L.out.size)))).mono ?_
                  rintro e w9 ⟨rfl, hB⟩
                  replace L := Lib.hid (L.out.trans ((gN.trans (hB.mono gN.size)).mono L.out.size))
                  replace kA := Lib.hid (stays kA.out hB)
                  replace kB := Lib.hid (stays kB.out hB)
                  replace kC := Lib.hid (stays kC.out hB)
                  replace kS := Lib.hid (stays kS.out hB)
                  replace kP := Lib.hid (stays kP.out hB)
                  replace kT := Lib.hid (stays kT.out hB)
                  generalize w8.heap.size = xT at *
                  clear gN
                  clear hB A0 A1 B0 B1 C0 C1 S0 S1 P0 P1 T0 T1
                  have A0 := frO_0 kA.out
                  have A1 := frO_1 kA.out
                  have B0 := frO_0 kB.out
                  have B1 := frO_1 kB.out
                  have C0 := frO_0 kC.out
                  have C1 := frO_1 kC.out
                  have S0 := frO_0 kS.out
                  have S1 := frO_1 kS.out
                  have P0 := frO_0 kP.out
                  have P1 := frO_1 kP.out
                  have T0 := frO_0 kT.out
                  have T1 := frO_1 kT.out
                  go_wp2
                  go_ret
                  exact ⟨rfl, L.out⟩
              · have hpb : (pc != 0) = true := by rw [bne_iff_ne]; exact hpc
                clear hpc
                go_wp2_with (fail)
                refine (awake_any _ (ht.below (L.out.trans (gN.mono L.out.size)))).mono ?_
                rintro e w9 ⟨rfl, hB⟩
                replace L := Lib.hid (L.out.trans ((gN.trans (hB.mono gN.size)).mono L.out.size))
                replace kA := Lib.hid (stays kA.out hB)
                replace kB := Lib.hid (stays kB.out hB)
                replace kC := Lib.hid (stays kC.out hB)
                replace kS := Lib.hid (stays kS.out hB)
                replace kP := Lib.hid (stays kP.out hB)
                replace kT := Lib.hid (stays kT.out hB)
                generalize w8.heap.size = xT at *
                clear gN
                clear hB A0 A1 B0 B1 C0 C1 S0 S1 P0 P1 T0 T1
                have A0 := frO_0 kA.out
                have A1 := frO_1 kA.out
                have B0 := frO_0 kB.out
                have B1 := frO_1 kB.out
                have C0 := frO_0 kC.out
                have C1 := frO_1 kC.out
                have S0 := frO_0 kS.out
                have S1 := frO_1 kS.out
                have P0 := frO_0 kP.out
                have P1 := frO_1 kP.out
                have T0 := frO_0 kT.out
                have T1 := frO_1 kT.out
                go_wp2
                go_ret
                exact ⟨rfl, L.out⟩
            · have hsb : (sc == 0) = false := by rw [beq_eq_false_iff_ne]; exact hsc
              clear hsc
              go_wp2_with (fail)
              refine (cS _).mono ?_
              rintro e w6 ⟨rfl, hB⟩
              replace L := Lib.hid (L.out.trans (hB.mono L.out.size))
              replace kA := Lib.hid (stays kA.out hB)
              replace kB := Lib.hid (stays kB.out hB)
              replace kC := Lib.hid (stays kC.out hB)
              clear hB A0 A1 B0 B1 C0 C1
              simp only [mkV]
              obtain ⟨gN, kS⟩ := box_new w6 (sn) (sd)
              replace kA := Lib.hid (stays kA.out gN)
              replace kB := Lib.hid (stays kB.out gN)
              replace kC := Lib.hid (stays kC.out gN)
              replace kS := Lib.hid kS
              have A0 := frO_0 kA.out
              have A1 := frO_1 kA.out
              have B0 := frO_0 kB.out
              have B1 := frO_1 kB.out
              have C0 := frO_0 kC.out
              have C1 := frO_1 kC.out
              have S0 := frO_0 kS.out
              have S1 := frO_1 kS.out
              go_wp2_with (fail)
              refine (cP _).mono ?_
              rintro e w7 ⟨rfl, hB⟩
              replace L := Lib.hid (L.out.trans ((gN.trans (hB.mono gN.size)).mono L.out.size))
              replace kA := Lib.hid (stays kA.out hB)
              replace kB := Lib.hid (stays kB.out hB)
              replace kC := Lib.hid (stays kC.out hB)
              replace kS := Lib.hid (stays kS.out hB)
              generalize w6.heap.size = xS at *
              clear gN
              clear hB A0 A1 B0 B1 C0 C1 S0 S1
              simp only [mkV]
              obtain ⟨gN, kP⟩ := box_new w7 (pn) (pd)
              replace kA := Lib.hid (stays kA.out gN)
              replace kB := Lib.hid (stays kB.out gN)
              replace kC := Lib.hid (stays kC.out gN)
              replace kS := Lib.hid (stays kS.out gN)
              replace kP := Lib.hid kP
              have A0 := frO_0 kA.out
              have A1 := frO_1 kA.out
              have B0 := frO_0 kB.out
              have B1 := frO_1 kB.out
              have C0 := frO_0 kC.out
              have C1 := frO_1 kC.out
              have S0 := frO_0 kS.out
              have S1 := frO_1 kS.out
              have P0 := frO_0 kP.out
              have P1 := frO_1 kP.out
              go_wp2_with (fail)
              refine (cT _).mono ?_
              rintro e w8 ⟨rfl, hB⟩
              replace L := Lib.hid (L.out.trans ((gN.trans (hB.mono gN.size)).mono L.out.size))
              replace kA := Lib.hid (stays kA.out hB)
              replace kB := Lib.hid (stays kB.out hB)
              replace kC := Lib.hid (stays kC.out hB)
              replace kS := Lib.hid (stays kS.out hB)
              replace kP := Lib.hid (stays kP.out hB)
              generalize w7.heap.size = xP at *
              clear gN
              clear hB A0 A1 B0 B1 C0 C1 S0 S1 P0 P1
              simp only [mkV]
              obtain ⟨gN, kT⟩ := box_new w8 (tn) (td)
              replace kA := Lib.hid (stays kA.out gN)
              replace kB := Lib.hid (stays kB.out gN)
              replace kC := Lib.hid (stays kC.out gN)
              replace kS := Lib.hid (stays kS.out gN)
              replace kP := Lib.hid (stays kP.out gN)
              replace kT := Lib.hid kT
              have A0 := frO_0 kA.out
              have A1 := frO_1 kA.out
              have B0 := frO_0 kB.out
              have B1 := frO_1 kB.out
              have C0 := frO_0 kC.out
              have C1 := frO_1 kC.out
              have S0 := frO_0 kS.out
              have S1 := frO_1 kS.out
              have P0 := frO_0 kP.out
              have P1 := frO_1 kP.out
              have T0 := frO_0 kT.out
              have T1 := frO_1 kT.out
              by_cases hpc : pc = 0
              · subst hpc
                by_cases htc : tc = 0
                · subst htc
                  have cC : ∀ W, _ := fun W => cmp_any pn pd tn td W (fit_mk hp) (fit_mk htt)
                  rw [add_cmp p0 p1 p2 hp htt, e1] at cC
                  go_wp2_with (fail)
                  refine (cC _).mono ?_
                  rintro e w9 ⟨rfl, hB⟩
                  replace L := Lib.hid (L.out.trans ((gN.trans (hB.mono gN.size)).mono L.out.size))
                  replace kA := Lib.hid (stays kA.out hB)
                  replace kB := Lib.hid (stays kB.out hB)
                  replace kC := Lib.hid (stays kC.out hB)
                  replace kS := Lib.hid (stays kS.out hB)
                  replace kP := Lib.hid (stays kP.out hB)
                  replace kT := Lib.hid (stays kT.out hB)
                  generalize w8.heap.size = xT at *
                  clear gN
                  clear hB A0 A1 B0 B1 C0 C1 S0 S1 P0 P1 T0 T1
                  have A0 := frO_0 kA.out
                  have A1 := frO_1 kA.out
                  have B0 := frO_0 kB.out
                  have B1 := frO_1 kB.out
                  have C0 := frO_0 kC.out
                  have C1 := frO_1 kC.out
                  have S0 := frO_0 kS.out
                  have S1 := frO_1 kS.out
                  have P0 := frO_0 kP.out
                  have P1 := frO_1 kP.out
                  have T0 := frO_0 kT.out
                  have T1 := frO_1 kT.out
                  go_wp2_with (fail)
                  refine (awake_any _ (ht.below L.out)).mono ?_
                  rintro e w10 ⟨rfl, hB⟩
                  replace L := Lib.hid (L.out.trans (hB.mono L.out.size))
                  replace kA := Lib.hid (stays kA.out hB)
                  replace kB := Lib.hid (stays kB.out hB)
                  replace kC := Lib.hid (stays kC.out hB)
                  replace kS := Lib.hid (stays kS.out hB)
                  replace kP := Lib.hid (stays kP.out hB)
                  replace kT := Lib.hid (stays kT.out hB)
                  clear hB A0 A1 B0 B1 C0 C1 S0 S1 P0 P1 T0 T1
                  have A0 := frO_0 kA.out
                  have A1 := frO_1 kA.out
                  have B0 := frO_0 kB.out
                  have B1 := frO_1 kB.out
                  have C0 := frO_0 kC.out
                  have C1 := frO_1 kC.out
                  have S0 := frO_0 kS.out
                  have S1 := frO_1 kS.out
                  have P0 := frO_0 kP.out
                  have P1 := frO_1 kP.out
                  have T0 := frO_0 kT.out
                  have T1 := frO_1 kT.out
                  go_wp2
                  go_ret
                  exact ⟨rfl, L.out⟩
                · have htb : (tc != 0) = true := by rw [bne_iff_ne]; exact htc
                  clear htc
                  go_wp2_with (fail)
                  refine (awake_any _ (ht.below (L.out.trans (gN.mono L.out.size)))).mono ?_
                  rintro e w9 ⟨rfl, hB⟩
                  replace L := Lib.hid (L.out.trans ((gN.trans (hB.mono gN.size)).mono L.out.size))
                  replace kA := Lib.hid (stays kA.out hB)
                  replace kB := Lib.hid (stays kB.out hB)
                  replace kC := Lib.hid (stays kC.out hB)
                  replace kS := Lib.hid (stays kS.out hB)
                  replace kP := Lib.hid (stays kP.out hB)
                  replace kT := Lib.hid (stays kT.out hB)
                  generalize w8.heap.size = xT at *
                  clear gN
                  clear hB A0 A1 B0 B1 C0 C1 S0 S1 P0 P1 T0 T1
                  have A0 := frO_0 kA.out
                  have A1 := frO_1 kA.out
                  have B0 := frO_0 kB.out
                  have B1 := frO_1 kB.out
                  have C0 := frO_0 kC.out
                  have C1 := frO_1 kC.out
                  have S0 := frO_0 kS.out
                  have S1 := frO_1 kS.out
                  have P0 := frO_0 kP.out
                  have P1 := frO_1 kP.out
                  have T0 := frO_0 kT.out
                  have T1 := frO_1 kT.out
                  go_wp2
                  go_ret
                  exact ⟨rfl, L.out⟩
              · have hpb : (pc != 0) = true := by rw [bne_iff_ne]; exact hpc
                clear hpc
                go_wp2_with (fail)
                refine (awake_any _ (ht.below (L.out.trans (gN.mono L.out.size)))).mono ?_
                rintro e w9 ⟨rfl, hB⟩
                replace L := Lib.hid (L.out.trans ((gN.trans (hB.mono gN.size)).mono L.out.size))
                replace kA := Lib.hid (stays kA.out hB)
                replace kB := Lib.hid (stays kB.out hB)
                replace kC := Lib.hid (stays kC.out hB)
                replace kS := Lib.hid (stays kS.out hB)
                replace kP := Lib.hid (stays kP.out hB)
                replace kT := Lib.hid (stays kT.out hB)
                generalize w8.heap.size = xT at *
                clear gN
                clear hB A0 A1 B0 B1 C0 C1 S0 S1 P0 P1 T0 T1
                have A0 := frO_0 kA.out
                have A1 := frO_1 kA.out
                have B0 := frO_0 kB.out
                have B1 := frO_1 kB.out
                have C0 := frO_0 kC.out
                have C1 := frO_1 kC.out
                have S0 := frO_0 kS.out
                have S1 := frO_1 kS.out
                have P0 := frO_0 kP.out
                have P1 := frO_1 kP.out
                have T0 := frO_0 kT.out
                have T1 := frO_1 kT.out
                go_wp2
                go_ret
                exact ⟨rfl, L.out⟩
          · skip
            have cAB : ∀ W, _ := fun W => cmp_any an ad bn bd W q0.fit q1.fit
            rw [e1] at cAB
            have cBA : ∀ W, _ := fun W => cmp_any bn bd an ad W q1.fit q0.fit
            rw [e2] at cBA
            go_wp2_with (fail)
            refine (cAB _).mono ?_
            rintro e w4 ⟨rfl, hB⟩
            replace L := Lib.hid (L.out.trans (hB.mono L.out.size))
            replace kA := Lib.hid (stays kA.out hB)
            replace kB := Lib.hid (stays kB.out hB)
            replace kC := Lib.hid (stays kC.out hB)
            clear hB A0 A1 B0 B1 C0 C1
            have A0 := frO_0 kA.out
            have A1 := frO_1 kA.out
            have B0 := frO_0 kB.out
            have B1 := frO_1 kB.out
            have C0 := frO_0 kC.out
            have C1 := frO_1 kC.out
            go_wp2_with (fail)
            refine (cBA _).mono ?_
            rintro e w5 ⟨rfl, hB⟩
            replace L := Lib.hid (L.out.trans (hB.mono L.out.size))
            replace kA := Lib.hid (stays kA.out hB)
            replace kB := Lib.hid (stays kB.out hB)
            replace kC := Lib.hid (stays kC.out hB)
            clear hB A0 A1 B0 B1 C0 C1
            have A0 := frO_0 kA.out
            have A1 := frO_1 kA.out
            have B0 := frO_0 kB.out
            have B1 := frO_1 kB.out
            have C0 := frO_0 kC.out
            have C1 := frO_1 kC.out
            obtain ⟨⟨⟨sn, sd⟩, sc⟩, hs⟩ : ∃ r, mkF (an * bd - bn * ad) (ad * bd) = r := ⟨_, rfl⟩
            obtain ⟨⟨⟨pn, pd⟩, pc⟩, hp⟩ : ∃ r, mkF (an * cd + cn * ad) (ad * cd) = r := ⟨_, rfl⟩
            obtain ⟨⟨⟨tn, td⟩, tc⟩, htt⟩ : ∃ r, mkF (bn * cd + cn * bd) (bd * cd) = r := ⟨_, rfl⟩
            have cS : ∀ W, _ := fun W => sub_any an ad bn bd W q0.fit q1.fit
            rw [hs] at cS
            have cP : ∀ W, _ := fun W => add_any an ad cn cd W q0.fit q2.fit
            rw [hp] at cP
            have cT : ∀ W, _ := fun W => add_any bn bd cn cd W q1.fit q2.fit
            rw [htt] at cT
            by_cases hsc : sc = 0
            · subst hsc
              have r1 : 0 < sn := (sub_sign p0 p1 hs).2.2.2 l1
              go_wp2_with (fail)
              refine (cS _).mono ?_
              rintro e w6 ⟨rfl, hB⟩
              replace L := Lib.hid (L.out.trans (hB.mono L.out.size))
              replace kA := Lib.hid (stays kA.out hB)
              replace kB := Lib.hid (stays kB.out hB)
              replace kC := Lib.hid (stays kC.out hB)
              clear hB A0 A1 B0 B1 C0 C1
              simp only [mkV]
              obtain ⟨gN, kS⟩ := box_new w6 (sn) (sd)
              replace kA := Lib.hid (stays kA.out gN)
              replace kB := Lib.hid (stays kB.out gN)
              replace kC := Lib.hid (stays kC.out gN)
              replace kS := Lib.hid kS
              have A0 := frO_0 kA.out
              have A1 := frO_1 kA.out
              have B0 := frO_0 kB.out
              have B1 := frO_1 kB.out
              have C0 := frO_0 kC.out
              have C1 := frO_1 kC.out
              have S0 := frO_0 kS.out
              have S1 := frO_1 kS.out
              go_wp2_with (fail)
              refine (cP _).mono ?_
              rintro e w7 ⟨rfl, hB⟩
              replace L := Lib.hid (L.out.trans ((gN.trans (hB.mono gN.size)).mono L.out.size))
              replace kA := Lib.hid (stays kA.out hB)
              replace kB := Lib.hid (stays kB.out hB)
              replace kC := Lib.hid (stays kC.out hB)
              replace kS := Lib.hid (stays kS.out hB)
              generalize w6.heap.size = xS at *
              clear gN
              clear hB A0 A1 B0 B1 C0 C1 S0 S1
              simp only [mkV]
              obtain ⟨gN, kP⟩ := box_new w7 (pn) (pd)
              replace kA := Lib.hid (stays kA.out gN)
              replace kB := Lib.hid (stays kB.out gN)
              replace kC := Lib.hid (stays kC.out gN)
              replace kS := Lib.hid (stays kS.out gN)
              replace kP := Lib.hid kP
              have A0 := frO_0 kA.out
              have A1 := frO_1 kA.out
              have B0 := frO_0 kB.out
              have B1 := frO_1 kB.out
              have C0 := frO_0 kC.out
              have C1 := frO_1 kC.out
              have S0 := frO_0 kS.out
              have S1 := frO_1 kS.out
              have P0 := frO_0 kP.out
              have P1 := frO_1 kP.out
              go_wp2_with (fail)
              refine (cT _).mono ?_
              rintro e w8 ⟨rfl, hB⟩
              replace L := Lib.hid (L.out.trans ((gN.trans (hB.mono gN.size)).mono L.out.size))
              replace kA := Lib.hid (stays kA.out hB)
              replace kB := Lib.hid (stays kB.out hB)
              replace kC := Lib.hid (stays kC.out hB)
              replace kS := Lib.hid (stays kS.out hB)
              replace kP := Lib.hid (stays kP.out hB)
              generalize w7.heap.size = xP at *
              clear gN
              clear hB A0 A1 B0 B1 C0 C1 S0 S1 P0 P1
              simp only [mkV]
              obtain ⟨gN, kT⟩ := box_new w8 (tn) (td)
              replace kA := Lib.hid (stays kA.out gN)
              replace kB := Lib.hid (stays kB.out gN)
              replace kC := Lib.hid (stays kC.out gN)
              replace kS := Lib.hid (stays kS.out gN)
              replace kP := Lib.hid (stays kP.out gN)
              replace kT := Lib.hid kT
              have A0 := frO_0 kA.out
              have A1 := frO_1 kA.out
              have B0 := frO_0 kB.out
              have B1 := frO_1 kB.out
              have C0 := frO_0 kC.out
              have C1 := frO_1 kC.out
              have S0 := frO_0 kS.out
              have S1 := frO_1 kS.out
              have P0 := frO_0 kP.out
              have P1 := frO_1 kP.out
              have T0 := frO_0 kT.out
              have T1 := frO_1 kT.out
              by_cases hpc : pc = 0
              · subst hpc
                by_cases htc : tc = 0
                · subst htc
                  have cC : ∀ W, _ := fun W => cmp_any pn pd tn td W (fit_mk hp) (fit_mk htt)
                  rw [add_cmp p0 p1 p2 hp htt, e1] at cC
                  go_wp2_with (fail)
                  refine (cC _).mono ?_
                  rintro e w9 ⟨rfl, hB⟩
                  replace L := Lib.hid (L.out.trans ((gN.trans (hB.mono gN.size)).mono L.out.size))
                  replace kA := Lib.hid (stays kA.out hB)
                  replace kB := Lib.hid (stays kB.out hB)
                  replace kC := Lib.hid (stays kC.out hB)
                  replace kS := Lib.hid (stays kS.out hB)
                  replace kP := Lib.hid (stays kP.out hB)
                  replace kT := Lib.hid (stays kT.out hB)
                  generalize w8.heap.size = xT at *
                  clear gN
                  clear hB A0 A1 B0 B1 C0 C1 S0 S1 P0 P1 T0 T1
                  have A0 := frO_0 kA.out
                  have A1 := frO_1 kA.out
                  have B0 := frO_0 kB.out
                  have B1 := frO_1 kB.out
                  have C0 := frO_0 kC.out
                  have C1 := frO_1 kC.out
                  have S0 := frO_0 kS.out
                  have S1 := frO_1 kS.out
                  have P0 := frO_0 kP.out
                  have P1 := frO_1 kP.out
                  have T0 := frO_0 kT.out
                  have T1 := frO_1 kT.out
                  go_wp2_with (fail)
                  refine (awake_any _ (ht.below L.out)).mono ?_
                  rintro e w10 ⟨rfl, hB⟩
                  replace L := Lib.hid (L.out.trans (hB.mono L.out.size))
                  replace kA := Lib.hid (stays kA.out hB)
                  replace kB := Lib.hid (stays kB.out hB)
                  replace kC := Lib.hid (stays kC.out hB)
                  replace kS := Lib.hid (stays kS.out hB)
                  replace kP := Lib.hid (stays kP.out hB)
                  replace kT := Lib.hid (stays kT.out hB)
                  clear hB A0 A1 B0 B1 C0 C1 S0 S1 P0 P1 T0 T1
                  have A0 := frO_0 kA.out
                  have A1 := frO_1 kA.out
                  have B0 := frO_0 kB.out
                  have B1 := frO_1 kB.out
                  have C0 := frO_0 kC.out
                  have C1 := frO_1 kC.out
                  have S0 := frO_0 kS.out
                  have S1 := frO_1 kS.out
                  have P0 := frO_0 kP.out
                  have P1 := frO_1 kP.out
                  have T0 := frO_0 kT.out
                  have T1 := frO_1 kT.out
                  go_wp2
                  go_ret
                  exact ⟨rfl, L.out⟩
                · have htb : (tc != 0) = true := by rw [bne_iff_ne]; exact htc
                  clear htc
                  go_wp2_with (fail)
                  refine (awake_any _ (ht.below (L.out.trans (gN.mono L.out.size)))).mono ?_
                  rintro e w9 ⟨rfl, hB⟩
                  replace L := Lib.hid (L.out.trans ((gN.trans (hB.mono gN.size)).mono L.out.size))
                  replace kA := Lib.hid (stays kA.out hB)
                  replace kB := Lib.hid (stays kB.out hB)
                  replace kC := Lib.hid (stays kC.out hB)
                  replace kS := Lib.hid (stays kS.out hB)
                  replace kP := Lib.hid (stays kP.out hB)
                  replace kT := Lib.hid (stays kT.out hB)
                  generalize w8.heap.size = xT at *
                  clear gN
                  clear hB A0 A1 B0 B1 C0 C1 S0 S1 P0 P1 T0 T1
                  have A0 := frO_0 kA.out
                  have A1 := frO_1 kA.out
                  have B0 := frO_0 kB.out
                  have B1 := frO_1 kB.out
                  have C0 := frO_0 kC.out
                  have C1 := frO_1 kC.out
                  have S0 := frO_0 kS.out
                  have S1 := frO_1 kS.out
                  have P0 := frO_0 kP.out
                  have P1 := frO_1 kP.out
                  have T0 := frO_0 kT.out
                  have T1 := frO_1 kT.out
                  go_wp2
                  go_ret
                  exact ⟨rfl, L.out⟩
              · have hpb : (pc != 0) = true := by rw [bne_iff_ne]; exact hpc
                clear hpc
                go_wp2_with (fail)
                refine (awake_any _ (ht.below (L.out.trans (gN.mono L.out.size)))).mono ?_
                rintro e w9 ⟨rfl, hB⟩
                replace L := Lib.hid (L.out.trans ((gN.trans (hB.mono gN.size)).mono L.out.size))
                replace kA := Lib.hid (stays kA.out hB)
                replace kB := Lib.hid (stays kB.out hB)
                replace kC := Lib.hid (stays kC.out hB)
                replace kS := Lib.hid (stays kS.out hB)
                replace kP := Lib.hid (stays kP.out hB)
                replace kT := Lib.hid (stays kT.out hB)
                generalize w8.heap.size = xT at *
                clear gN
                clear hB A0 A1 B0 B1 C0 C1 S0 S1 P0 P1 T0 T1
                have A0 := frO_0 kA.out
                have A1 := frO_1 kA.out
                have B0 := frO_0 kB.out
                have B1 := frO_1 kB.out
                have C0 := frO_0 kC.out
                have C1 := frO_1 kC.out
                have S0 := frO_0 kS.out
                have S1 := frO_1 kS.out
                have P0 := frO_0 kP.out
                have P1 := frO_1 kP.out
                have T0 := frO_0 kT.out
                have T1 := frO_1 kT.out
                go_wp2
                go_ret
                exact ⟨rfl, L.out⟩
            · have hsb : (sc == 0) = false := by rw [beq_eq_false_iff_ne]; exact hsc
              clear hsc
              go_wp2_with (fail)
              refine (cS _).mono ?_
              rintro e w6 ⟨rfl, hB⟩
              replace L := Lib.hid (L.out.trans (hB.mono L.out.size))
              replace kA := Lib.hid (stays kA.out hB)
              replace kB := Lib.hid (stays kB.out hB)
              replace kC := Lib.hid (stays kC.out hB)
              clear hB A0 A1 B0 B1 C0 C1
              simp only [mkV]
              obtain ⟨gN, kS⟩ := box_new w6 (sn) (sd)
              replace kA := Lib.hid (stays kA.out gN)
              replace kB := Lib.hid (stays kB.out gN)
              replace kC := Lib.hid (stays kC.out gN)
              replace kS := Lib.hid kS
              have A0 := frO_0 kA.out
              have A1 := frO_1 kA.out
              have B0 := frO_0 kB.out
              have B1 := frO_1 kB.out
              have C0 := frO_0 kC.out
              have C1 := frO_1 kC.out
              have S0 := frO_0 kS.out
              have S1 := frO_1 kS.out
              go_wp2_with (fail)
              refine (cP _).mono ?_
              rintro e w7 ⟨rfl, hB⟩
              replace L := Lib.hid (L.out.trans ((gN.trans (hB.mono gN.size)).mono L.out.size))
              replace kA := Lib.hid (stays kA.out hB)
              replace kB := Lib.hid (stays kB.out hB)
              replace kC := Lib.hid (stays kC.out hB)
              replace kS := Lib.hid (stays kS.out hB)
              generalize w6.heap.size = xS at *
              clear gN
              clear hB A0 A1 B0 B1 C0 C1 S0 S1
              simp only [mkV]
              obtain ⟨gN, kP⟩ := box_new w7 (pn) (pd)
              replace kA := Lib.hid (stays kA.out gN)
              replace kB := Lib.hid (stays kB.out gN)
              replace kC := Lib.hid (stays kC.out gN)
              replace kS := Lib.hid (stays kS.out gN)
              replace kP := Lib.hid kP
              have A0 := frO_0 kA.out
              have A1 := frO_1 kA.out
              have B0 := frO_0 kB.out
              have B1 := frO_1 kB.out
              have C0 := frO_0 kC.out
              have C1 := frO_1 kC.out
              have S0 := frO_0 kS.out
              have S1 := frO_1 kS.out
              have P0 := frO_0 kP.out
              have P1 := frO_1 kP.out
              go_wp2_with (fail)
              refine (cT _).mono ?_
              rintro e w8 ⟨rfl, hB⟩
              replace L := Lib.hid (L.out.trans ((gN.trans (hB.mono gN.size)).mono L.out.size))
              replace kA := Lib.hid (stays kA.out hB)
              replace kB := Lib.hid (stays kB.out hB)
              replace kC := Lib.hid (stays kC.out hB)
              replace kS := Lib.hid (stays kS.out hB)
              replace kP := Lib.hid (stays kP.out hB)
              generalize w7.heap.size = xP at *
              clear gN
              clear hB A0 A1 B0 B1 C0 C1 S0 S1 P0 P1
              simp only [mkV]
              obtain ⟨gN, kT⟩ := box_new w8 (tn) (td)
              replace kA := Lib.hid (stays kA.out gN)
              replace kB := Lib.hid (stays kB.out gN)
              replace kC := Lib.hid (stays kC.out gN)
              replace kS := Lib.hid (stays kS.out gN)
              replace kP := Lib.hid (stays kP.out gN)
              replace kT := Lib.hid kT
              have A0 := frO_0 kA.out
              have A1 := frO_1 kA.out
              have B0 := frO_0 kB.out
              have B1 := frO_1 kB.out
              have C0 := frO_0 kC.out
              have C1 := frO_1 kC.out
              have S0 := frO_0 kS.out
              have S1 := frO_1 kS.out
              have P0 := frO_0 kP.out
              have P1 := frO_1 kP.out
              have T0 := frO_0 kT.out
              have T1 := frO_1 kT.out
              by_cases hpc : pc = 0
              · subst hpc
                by_cases htc : tc = 0
                · subst htc
                  have cC : ∀ W, _ := fun W => cmp_any pn pd tn td W (fit_mk hp) (fit_mk htt)
                  rw [add_cmp p0 p1 p2 hp htt, e1] at cC
                  go_wp2_with (fail)
                  refine (cC _).mono ?_
                  rintro e w9 ⟨rfl, hB⟩
                  replace L := Lib.hid (L.out.trans ((gN.trans (hB.mono gN.size)).mono L.out.size))
                  replace kA := Lib.hid (stays kA.out hB)
                  replace kB := Lib.hid (stays kB.out hB)
                  replace kC := Lib.hid (stays kC.out hB)
                  replace kS := Lib.hid (stays kS.out hB)
                  replace kP := Lib.hid (stays kP.out hB)
                  replace kT := Lib.hid (stays kT.out hB)
                  generalize w8.heap.size = xT at *
                  clear gN
                  clear hB A0 A1 B0 B1 C0 C1 S0 S1 P0 P1 T0 T1
                  have A0 := frO_0 kA.out
                  have A1 := frO_1 kA.out
                  have B0 := frO_0 kB.out
                  have B1 := frO_1 kB.out
                  have C0 := frO_0 kC.out
                  have C1 := frO_1 kC.out
                  have S0 := frO_0 kS.out
                  have S1 := frO_1 kS.out
                  have P0 := frO_0 kP.out
                  have P1 := frO_1 kP.out
                  have T0 := frO_0 kT.out
                  have T1 := frO_1 kT.out
                  go_wp2_with (fail)
                  refine (awake_any _ (ht.below L.out)).mono ?_
                  rintro e w10 ⟨rfl, hB⟩
                  replace L := Lib.hid (L.out.trans (hB.mono L.out.size))
                  replace kA := Lib.hid (stays kA.out hB)
                  replace kB := Lib.hid (stays kB.out hB)
                  replace kC := Lib.hid (stays kC.out hB)
                  replace kS := Lib.hid (stays kS.out hB)
                  replace kP := Lib.hid (stays kP.out hB)
                  replace kT := Lib.hid (stays kT.out hB)
                  clear hB A0 A1 B0 B1 C0 C1 S0 S1 P0 P1 T0 T1
                  have A0 := frO_0 kA.out
                  have A1 := frO_1 kA.out
                  have B0 := frO_0 kB.out
                  have B1 := frO_1 kB.out
                  have C0 := frO_0 kC.out
                  have C1 := frO_1 kC.out
                  have S0 := frO_0 kS.out
                  have S1 := frO_1 kS.out
                  have P0 := frO_0 kP.out
                  have P1 := frO_1 kP.out
                  have T0 := frO_0 kT.out
                  have T1 := frO_1 kT.out
                  go_wp2
                  go_ret
                  exact ⟨rfl, L.out⟩
                · have htb : (tc != 0) = true := by rw [bne_iff_ne]; exact htc
                  clear htc
                  go_wp2_with (fail)
                  refine (awake_any _ (ht.below (L.out.trans (gN.mono L.out.size)))).mono ?_
                  rintro e w9 ⟨rfl, hB⟩
                  replace L := Lib.hid (L.out.trans ((gN.trans (hB.mono gN.size)).mono L.out.size))
                  replace kA := Lib.hid (stays kA.out hB)
                  replace kB := Lib.hid (stays kB.out hB)
                  replace kC := Lib.hid (stays kC.out hB)
                  replace kS := Lib.hid (stays kS.out hB)
                  replace kP := Lib.hid (stays kP.out hB)
                  replace kT := Lib.hid (stays kT.out hB)
                  generalize w8.heap.size = xT at *
                  clear gN
                  clear hB A0 A1 B0 B1 C0 C1 S0 S1 P0 P1 T0 T1
                  have A0 := frO_0 kA.out
                  have A1 := frO_1 kA.out
                  have B0 := frO_0 kB.out
                  have B1 := frO_1 kB.out
                  have C0 := frO_0 kC.out
                  have C1 := frO_1 kC.out
                  have S0 := frO_0 kS.out
                  have S1 := frO_1 kS.out
                  have P0 := frO_0 kP.out
                  have P1 := frO_1 kP.out
                  have T0 := frO_0 kT.out
                  have T1 := frO_1 kT.out
                  go_wp2
                  go_ret
                  exact ⟨rfl, L.out⟩
              · have hpb : (pc != 0) = true := by rw [bne_iff_ne]; exact hpc
                clear hpc
                go_wp2_with (fail)
                refine (awake_any _ (ht.below (L.out.trans (gN.mono L.out.size)))).mono ?_
                rintro e w9 ⟨rfl, hB⟩
                replace L := Lib.hid (L.out.trans ((gN.trans (hB.mono gN.size)).mono L.out.size))
                replace kA := Lib.hid (stays kA.out hB)
                replace kB := Lib.hid (stays kB.out hB)
                replace kC := Lib.hid (stays kC.out hB)
                replace kS := Lib.hid (stays kS.out hB)
                replace kP := Lib.hid (stays kP.out hB)
                replace kT := Lib.hid (stays kT.out hB)
                generalize w8.heap.size = xT at *
                clear gN
                clear hB A0 A1 B0 B1 C0 C1 S0 S1 P0 P1 T0 T1
                have A0 := frO_0 kA.out
                have A1 := frO_1 kA.out
                have B0 := frO_0 kB.out
                have B1 := frO_1 kB.out
                have C0 := frO_0 kC.out
                have C1 := frO_1 kC.out
                have S0 := frO_0 kS.out
                have S1 := frO_1 kS.out
                have P0 := frO_0 kP.out
                have P1 := frO_1 kP.out
                have T0 := frO_0 kT.out
                have T1 := frO_1 kT.out
                go_wp2
                go_ret
                exact ⟨rfl, L.out⟩
      · have e2 : valB cn cd = false := by rw [valB, decide_eq_false_iff_not]; exact q2
        rw [e2] at v2
        clear e2
        obtain ⟨g0, kA, kB, kC⟩ := enter3 w an ad bn bd cn cd
        have L := Lib.hid g0
        replace kA := Lib.hid kA
        replace kB := Lib.hid kB
        replace kC := Lib.hid kC
        clear g0
        have A0 := frO_0 kA.out
        have A1 := frO_1 kA.out
        have B0 := frO_0 kB.out
        have B1 := frO_1 kB.out
        have C0 := frO_0 kC.out
        have C1 := frO_1 kC.out
        go_enter Tryd.func6, Tryd.ntmps6
        go_wp2_with (fail)
        refine (v0 _).mono ?_
        rintro e w1 ⟨rfl, hB⟩
        replace L := Lib.hid (L.out.trans (hB.mono L.out.size))
        replace kA := Lib.hid (stays kA.out hB)
        replace kB := Lib.hid (stays kB.out hB)
        replace kC := Lib.hid (stays kC.out hB)
        clear hB A0 A1 B0 B1 C0 C1
        have A0 := frO_0 kA.out
        have A1 := frO_1 kA.out
        have B0 := frO_0 kB.out
        have B1 := frO_1 kB.out
        have C0 := frO_0 kC.out
        have C1 := frO_1 kC.out
        go_wp2_with (fail)
        refine (v1 _).mono ?_
        rintro e w2 ⟨rfl, hB⟩
        replace L := Lib.hid (L.out.trans (hB.mono L.out.size))
        replace kA := Lib.hid (stays kA.out hB)
        replace kB := Lib.hid (stays kB.out hB)
        replace kC := Lib.hid (stays kC.out hB)
        clear hB A0 A1 B0 B1 C0 C1
        have A0 := frO_0 kA.out
        have A1 := frO_1 kA.out
        have B0 := frO_0 kB.out
        have B1 := frO_1 kB.out
        have C0 := frO_0 kC.out
        have C1 := frO_1 kC.out
        go_wp2_with (fail)
        refine (v2 _).mono ?_
        rintro e w3 ⟨rfl, hB⟩
        replace L := Lib.hid (L.out.trans (hB.mono L.out.size))
        replace kA := Lib.hid (stays kA.out hB)
        replace kB := Lib.hid (stays kB.out hB)
        replace kC := Lib.hid (stays kC.out hB)
        clear hB A0 A1 B0 B1 C0 C1
        have A0 := frO_0 kA.out
        have A1 := frO_1 kA.out
        have B0 := frO_0 kB.out
        have B1 := frO_1 kB.out
        have C0 := frO_0 kC.out
        have C1 := frO_1 kC.out
        go_wp2_with (fail)
        refine (awake_any _ (ht.below L.out)).mono ?_
        rintro e w4 ⟨rfl, hB⟩
        replace L := Lib.hid (L.out.trans (hB.mono L.out.size))
        replace kA := Lib.hid (stays kA.out hB)
        replace kB := Lib.hid (stays kB.out hB)
        replace kC := Lib.hid (stays kC.out hB)
        clear hB A0 A1 B0 B1 C0 C1
        have A0 := frO_0 kA.out
        have A1 := frO_1 kA.out
        have B0 := frO_0 kB.out
        have B1 := frO_1 kB.out
        have C0 := frO_0 kC.out
        have C1 := frO_1 kC.out
        go_wp2
        go_ret
        exact ⟨rfl, L.out⟩
    · have e1 : valB bn bd = false := by rw [valB, decide_eq_false_iff_not]; exact q1
      rw [e1] at v1
      clear e1
      obtain ⟨g0, kA, kB, kC⟩ := enter3 w an ad bn bd cn cd
      have L := Lib.hid g0
      replace kA := Lib.hid kA
      replace kB := Lib.hid kB
      replace kC := Lib.hid kC
      clear g0
      have A0 := frO_0 kA.out
      have A1 := frO_1 kA.out
      have B0 := frO_0 kB.out
      have B1 := frO_1 kB.out
      have C0 := frO_0 kC.out
      have C1 := frO_1 kC.out
      go_enter Tryd.func6, Tryd.ntmps6
      go_wp2_with (fail)
      refine (v0 _).mono ?_
      rintro e w1 ⟨rfl, hB⟩
      replace L := Lib.hid (L.out.trans (hB.mono L.out.size))
      replace kA := Lib.hid (stays kA.out hB)
      replace kB := Lib.hid (stays kB.out hB)
      replace kC := Lib.hid (stays kC.out hB)
      clear hB A0 A1 B0 B1 C0 C1
      have A0 := frO_0 kA.out
      have A1 := frO_1 kA.out
      have B0 := frO_0 kB.out
      have B1 := frO_1 kB.out
      have C0 := frO_0 kC.out
      have C1 := frO_1 kC.out
      go_wp2_with (fail)
      refine (v1 _).mono ?_
      rintro e w2 ⟨rfl, hB⟩
      replace L := Lib.hid (L.out.trans (hB.mono L.out.size))
      replace kA := Lib.hid (stays kA.out hB)
      replace kB := Lib.hid (stays kB.out hB)
      replace kC := Lib.hid (stays kC.out hB)
      clear hB A0 A1 B0 B1 C0 C1
      have A0 := frO_0 kA.out
      have A1 := frO_1 kA.out
      have B0 := frO_0 kB.out
      have B1 := frO_1 kB.out
      have C0 := frO_0 kC.out
      have C1 := frO_1 kC.out
      go_wp2_with (fail)
      refine (awake_any _ (ht.below L.out)).mono ?_
      rintro e w3 ⟨rfl, hB⟩
      replace L := Lib.hid (L.out.trans (hB.mono L.out.size))
      replace kA := Lib.hid (stays kA.out hB)
      replace kB := Lib.hid (stays kB.out hB)
      replace kC := Lib.hid (stays kC.out hB)
      clear hB A0 A1 B0 B1 C0 C1
      have A0 := frO_0 kA.out
      have A1 := frO_1 kA.out
      have B0 := frO_0 kB.out
      have B1 := frO_1 kB.out
      have C0 := frO_0 kC.out
      have C1 := frO_1 kC.out
      go_wp2
      go_ret
      exact ⟨rfl, L.out⟩
  · have e0 : valB an ad = false := by rw [valB, decide_eq_false_iff_not]; exact q0
    rw [e0] at v0
    clear e0
    obtain ⟨g0, kA, kB, kC⟩ := enter3 w an ad bn bd cn cd
    have L := Lib.hid g0
    replace kA := Lib.hid kA
    replace kB := Lib.hid kB
    replace kC := Lib.hid kC
    clear g0
    have A0 := frO_0 kA.out
    have A1 := frO_1 kA.out
    have B0 := frO_0 kB.out
    have B1 := frO_1 kB.out
    have C0 := frO_0 kC.out
    have C1 := frO_1 kC.out
    go_enter Tryd.func6, Tryd.ntmps6
    go_wp2_with (fail)
    refine (v0 _).mono ?_
    rintro e w1 ⟨rfl, hB⟩
    replace L := Lib.hid (L.out.trans (hB.mono L.out.size))
    replace kA := Lib.hid (stays kA.out hB)
    replace kB := Lib.hid (stays kB.out hB)
    replace kC := Lib.hid (stays kC.out hB)
    clear hB A0 A1 B0 B1 C0 C1
    have A0 := frO_0 kA.out
    have A1 := frO_1 kA.out
    have B0 := frO_0 kB.out
    have B1 := frO_1 kB.out
    have C0 := frO_0 kC.out
    have C1 := frO_1 kC.out
    go_wp2_with (fail)
    refine (awake_any _ (ht.below L.out)).mono ?_
    rintro e w2 ⟨rfl, hB⟩
    replace L := Lib.hid (L.out.trans (hB.mono L.out.size))
    replace kA := Lib.hid (stays kA.out hB)
    replace kB := Lib.hid (stays kB.out hB)
    replace kC := Lib.hid (stays kC.out hB)
    clear hB A0 A1 B0 B1 C0 C1
    have A0 := frO_0 kA.out
    have A1 := frO_1 kA.out
    have B0 := frO_0 kB.out
    have B1 := frO_1 kB.out
    have C0 := frO_0 kC.out
    have C1 := frO_1 kC.out
    go_wp2
    go_ret
    exact ⟨rfl, L.out⟩

end Go.Proofs.YtckedklopgnloaaDoor
