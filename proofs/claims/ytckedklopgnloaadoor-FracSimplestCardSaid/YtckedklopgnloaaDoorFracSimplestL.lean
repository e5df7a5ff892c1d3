/- FracSimplest: the law, walked (by program: wip/tools/gen_fraclaws.py). -/
import Derived.Test.YtckedklopgnloaaDoorFracLaw
import Derived.Test.YtckedklopgnloaaDoorFracMath3
namespace Go.Proofs.YtckedklopgnloaaDoor
open Go.RowKit

set_option maxRecDepth 100000 in
set_option maxHeartbeats 4000000 in

theorem law_FracSimplest (ln ld hn hd n d : Int) (w : World) (hln0 : -9223372036854775808 ≤ ln) (hln1 : ln < 9223372036854775808) (hld0 : -9223372036854775808 ≤ ld) (hld1 : ld < 9223372036854775808) (hhn0 : -9223372036854775808 ≤ hn) (hhn1 : hn < 9223372036854775808) (hhd0 : -9223372036854775808 ≤ hd) (hhd1 : hd < 9223372036854775808) (hn0 : -9223372036854775808 ≤ n) (hn1 : n < 9223372036854775808) (hd0 : -9223372036854775808 ≤ d) (hd1 : d < 9223372036854775808) (ht : TabT w) :
    Calls Tryd.prog 5 #[frV ln ld, frV hn hd, .int .i64 n, .int .i64 d] w fun e w' => e = .returned (.bool true) ∧ Below w.heap.size w w' := by
  have v0 : ∀ W, _ := fun W => rvalid_any ln ld W hln0 hln1 hld0 hld1
  have v1 : ∀ W, _ := fun W => rvalid_any hn hd W hhn0 hhn1 hhd0 hhd1
  by_cases q0 : Val ln ld
  · have e0 := (valB_iff ln ld).2 q0
    rw [e0] at v0
    clear e0
    by_cases q1 : Val hn hd
    · have e1 := (valB_iff hn hd).2 q1
      rw [e1] at v1
      clear e1
      obtain ⟨g0, kA, kB⟩ := enter2 w ln ld hn hd
      have L := Lib.hid g0
      replace kA := Lib.hid kA
      replace kB := Lib.hid kB
      clear g0
      have A0 := frO_0 kA.out
      have A1 := frO_1 kA.out
      have B0 := frO_0 kB.out
      have B1 := frO_1 kB.out
      go_enter Tryd.func5, Tryd.ntmps5
      go_wp2_with (fail)
      refine (v0 _).mono ?_
      rintro e w1 ⟨rfl, hB⟩
      replace L := Lib.hid (L.out.trans (hB.mono L.out.size))
      replace kA := Lib.hid (stays kA.out hB)
      replace kB := Lib.hid (stays kB.out hB)
      clear hB A0 A1 B0 B1
      have A0 := frO_0 kA.out
      have A1 := frO_1 kA.out
      have B0 := frO_0 kB.out
      have B1 := frO_1 kB.out
      go_wp2_with (fail)
      refine (v1 _).mono ?_
      rintro e w2 ⟨rfl, hB⟩
      replace L := Lib.hid (L.out.trans (hB.mono L.out.size))
      replace kA := Lib.hid (stays kA.out hB)
      replace kB := Lib.hid (stays kB.out hB)
      clear hB A0 A1 B0 B1
      have A0 := frO_0 kA.out
      have A1 := frO_1 kA.out
      have B0 := frO_0 kB.out
      have B1 := frO_1 kB.out
      have c0 : ∀ W, _ := fun W => cmp_any ln ld hn hd W q0.fit q1.fit
      by_cases hle : ln * hd ≤ hn * ld
      · skip
        have u0 : cmpF ln ld hn hd ≤ 0 := cmp_le hle
        generalize cmpF ln ld hn hd = y0 at *
        go_wp2_with (fail)
        refine (c0 _).mono ?_
        rintro e w3 ⟨rfl, hB⟩
        replace L := Lib.hid (L.out.trans (hB.mono L.out.size))
        replace kA := Lib.hid (stays kA.out hB)
        replace kB := Lib.hid (stays kB.out hB)
        clear hB A0 A1 B0 B1
        have A0 := frO_0 kA.out
        have A1 := frO_1 kA.out
        have B0 := frO_0 kB.out
        have B1 := frO_1 kB.out
        go_wp2_with (fail)
        refine (near_any ln ld hn hd _ q0 q1).mono ?_
        rintro e w4 ⟨fn, fd, o1, rfl, N1, hB⟩
        replace L := Lib.hid (L.out.trans (hB.mono L.out.size))
        replace kA := Lib.hid (stays kA.out hB)
        replace kB := Lib.hid (stays kB.out hB)
        clear hB A0 A1 B0 B1
        obtain ⟨rfl, vf, f1, f2, f3⟩ := near_facts q0 q1 hle N1
        clear N1
        have cv : ∀ W, _ := fun W => rvalid_any fn fd W (by have := vf.2.2.1; omega) (by have := vf.2.2.2.1; omega) (by have := vf.1; omega) (by have := vf.2.1; omega)
        rw [(valB_iff fn fd).2 vf] at cv
        have u1 : 0 ≤ cmpF fn fd ln ld := cmp_ge f1
        have u2 : cmpF fn fd hn hd ≤ 0 := cmp_le f2
        have cl : ∀ W, _ := fun W => cmp_any fn fd ln ld W vf.fit q0.fit
        have ch : ∀ W, _ := fun W => cmp_any fn fd hn hd W vf.fit q1.fit
        generalize cmpF fn fd ln ld = y1 at *
        generalize cmpF fn fd hn hd = y2 at *
        simp only [nearV]
        obtain ⟨gN, kF⟩ := box_new w4 (fn) (fd)
        replace kA := Lib.hid (stays kA.out gN)
        replace kB := Lib.hid (stays kB.out gN)
        replace kF := Lib.hid kF
        have A0 := frO_0 kA.out
        have A1 := frO_1 kA.out
        have B0 := frO_0 kB.out
        have B1 := frO_1 kB.out
        have F0 := frO_0 kF.out
        have F1 := frO_1 kF.out
        go_wp2_with (fail)
        refine (cv _).mono ?_
        rintro e w5 ⟨rfl, hB⟩
        replace L := Lib.hid (L.out.trans ((gN.trans (hB.mono gN.size)).mono L.out.size))
        replace kA := Lib.hid (stays kA.out hB)
        replace kB := Lib.hid (stays kB.out hB)
        replace kF := Lib.hid (stays kF.out hB)
        generalize w4.heap.size = xF at *
        clear gN
        clear hB A0 A1 B0 B1 F0 F1
        have A0 := frO_0 kA.out
        have A1 := frO_1 kA.out
        have B0 := frO_0 kB.out
        have B1 := frO_1 kB.out
        have F0 := frO_0 kF.out
        have F1 := frO_1 kF.out
        go_wp2_with (fail)
        refine (cl _).mono ?_
        rintro e w6 ⟨rfl, hB⟩
        replace L := Lib.hid (L.out.trans (hB.mono L.out.size))
        replace kA := Lib.hid (stays kA.out hB)
        replace kB := Lib.hid (stays kB.out hB)
        replace kF := Lib.hid (stays kF.out hB)
        clear hB A0 A1 B0 B1 F0 F1
        have A0 := frO_0 kA.out
        have A1 := frO_1 kA.out
        have B0 := frO_0 kB.out
        have B1 := frO_1 kB.out
        have F0 := frO_0 kF.out
        have F1 := frO_1 kF.out
        go_wp2_with (fail)
        refine (ch _).mono ?_
        rintro e w7 ⟨rfl, hB⟩
        replace L := Lib.hid (L.out.trans (hB.mono L.out.size))
        replace kA := Lib.hid (stays kA.out hB)
        replace kB := Lib.hid (stays kB.out hB)
        replace kF := Lib.hid (stays kF.out hB)
        clear hB A0 A1 B0 B1 F0 F1
        have A0 := frO_0 kA.out
        have A1 := frO_1 kA.out
        have B0 := frO_0 kB.out
        have B1 := frO_1 kB.out
        have F0 := frO_0 kF.out
        have F1 := frO_1 kF.out
        obtain ⟨⟨⟨gn, gd⟩, gc⟩, hm⟩ : ∃ r, mkF n d = r := ⟨_, rfl⟩
        have cm : ∀ W, _ := fun W => make_any n d W hn0 hn1 hd0 hd1
        rw [hm] at cm
        go_wp2_with (fail)
        refine (cm _).mono ?_
        rintro e w8 ⟨rfl, hB⟩
        replace L := Lib.hid (L.out.trans (hB.mono L.out.size))
        replace kA := Lib.hid (stays kA.out hB)
        replace kB := Lib.hid (stays kB.out hB)
        replace kF := Lib.hid (stays kF.out hB)
        clear hB A0 A1 B0 B1 F0 F1
        simp only [mkV]
        obtain ⟨gN, kG⟩ := box_new w8 (gn) (gd)
        replace kA := Lib.hid (stays kA.out gN)
        replace kB := Lib.hid (stays kB.out gN)
        replace kF := Lib.hid (stays kF.out gN)
        replace kG := Lib.hid kG
        have A0 := frO_0 kA.out
        have A1 := frO_1 kA.out
        have B0 := frO_0 kB.out
        have B1 := frO_1 kB.out
        have F0 := frO_0 kF.out
        have F1 := frO_1 kF.out
        have G0 := frO_0 kG.out
        have G1 := frO_1 kG.out
        by_cases hgc : gc = 0
        · subst hgc
          have vg := (mkF_ok hm).2.1
          have cgl : ∀ W, _ := fun W => cmp_any gn gd ln ld W vg.fit q0.fit
          have cgh : ∀ W, _ := fun W => cmp_any gn gd hn hd W vg.fit q1.fit
          by_cases g1 : ln * gd ≤ gn * ld
          · skip
            have u3 : 0 ≤ cmpF gn gd ln ld := cmp_ge g1
            generalize cmpF gn gd ln ld = y3 at *
            go_wp2_with (fail)
            refine (cgl _).mono ?_
            rintro e w9 ⟨rfl, hB⟩
            replace L := Lib.hid (L.out.trans ((gN.trans (hB.mono gN.size)).mono L.out.size))
            replace kA := Lib.hid (stays kA.out hB)
            replace kB := Lib.hid (stays kB.out hB)
            replace kF := Lib.hid (stays kF.out hB)
            replace kG := Lib.hid (stays kG.out hB)
            generalize w8.heap.size = xG at *
            clear gN
            clear hB A0 A1 B0 B1 F0 F1 G0 G1
            have A0 := frO_0 kA.out
            have A1 := frO_1 kA.out
            have B0 := frO_0 kB.out
            have B1 := frO_1 kB.out
            have F0 := frO_0 kF.out
            have F1 := frO_1 kF.out
            have G0 := frO_0 kG.out
            have G1 := frO_1 kG.out
            by_cases g2 : gn * hd ≤ hn * gd
            · skip
              have u4 : cmpF gn gd hn hd ≤ 0 := cmp_le g2
              generalize cmpF gn gd hn hd = y4 at *
              go_wp2_with (fail)
              refine (cgh _).mono ?_
              rintro e w10 ⟨rfl, hB⟩
              replace L := Lib.hid (L.out.trans (hB.mono L.out.size))
              replace kA := Lib.hid (stays kA.out hB)
              replace kB := Lib.hid (stays kB.out hB)
              replace kF := Lib.hid (stays kF.out hB)
              replace kG := Lib.hid (stays kG.out hB)
              clear hB A0 A1 B0 B1 F0 F1 G0 G1
              have A0 := frO_0 kA.out
              have A1 := frO_1 kA.out
              have B0 := frO_0 kB.out
              have B1 := frO_1 kB.out
              have F0 := frO_0 kF.out
              have F1 := frO_1 kF.out
              have G0 := frO_0 kG.out
              have G1 := frO_1 kG.out
              have f4 := f3 gn gd vg g1 g2
              have r1 := vg.2.2.1
              have r2 := vg.2.2.2.1
              have r3 := vf.2.2.1
              have r4 := vf.2.2.2.1
              clear f3 g1 g2 f1 f2
              by_cases hg : fd < gd
              · clear f4
                go_wp2_with (fail)
                refine (awake_any _ (ht.below L.out)).mono ?_
                rintro e w11 ⟨rfl, hB⟩
                replace L := Lib.hid (L.out.trans (hB.mono L.out.size))
                replace kA := Lib.hid (stays kA.out hB)
                replace kB := Lib.hid (stays kB.out hB)
                replace kF := Lib.hid (stays kF.out hB)
                replace kG := Lib.hid (stays kG.out hB)
                clear hB A0 A1 B0 B1 F0 F1 G0 G1
                have A0 := frO_0 kA.out
                have A1 := frO_1 kA.out
                have B0 := frO_0 kB.out
                have B1 := frO_1 kB.out
                have F0 := frO_0 kF.out
                have F1 := frO_1 kF.out
                have G0 := frO_0 kG.out
                have G1 := frO_1 kG.out
                go_wp2
                go_ret
                exact ⟨rfl, L.out⟩
              · skip
                obtain ⟨f5, f6⟩ : gd = fd ∧ fn.natAbs ≤ gn.natAbs := f4.resolve_left hg
                have hgb : (gd == fd) = true := by rw [beq_iff_eq]; exact f5
                clear f4 f5
                have hmx : max fn (-fn) ≤ max gn (-gn) := by omega
                go_wp2_with (fail)
                refine (awake_any _ (ht.below L.out)).mono ?_
                rintro e w11 ⟨rfl, hB⟩
                replace L := Lib.hid (L.out.trans (hB.mono L.out.size))
                replace kA := Lib.hid (stays kA.out hB)
                replace kB := Lib.hid (stays kB.out hB)
                replace kF := Lib.hid (stays kF.out hB)
                replace kG := Lib.hid (stays kG.out hB)
                clear hB A0 A1 B0 B1 F0 F1 G0 G1
                have A0 := frO_0 kA.out
                have A1 := frO_1 kA.out
                have B0 := frO_0 kB.out
                have B1 := frO_1 kB.out
                have F0 := frO_0 kF.out
                have F1 := frO_1 kF.out
                have G0 := frO_0 kG.out
                have G1 := frO_1 kG.out
                go_wp2
                go_ret
                exact ⟨rfl, L.out⟩
            · have u4 : ¬ cmpF gn gd hn hd ≤ 0 := fun h => g2 (cmp_le_iff.1 h)
              have u4 : 0 < cmpF gn gd hn hd := by omega
              generalize cmpF gn gd hn hd = y4 at *
              go_wp2_with (fail)
              refine (cgh _).mono ?_
              rintro e w10 ⟨rfl, hB⟩
              replace L := Lib.hid (L.out.trans (hB.mono L.out.size))
              replace kA := Lib.hid (stays kA.out hB)
              replace kB := Lib.hid (stays kB.out hB)
              replace kF := Lib.hid (stays kF.out hB)
              replace kG := Lib.hid (stays kG.out hB)
              clear hB A0 A1 B0 B1 F0 F1 G0 G1
              have A0 := frO_0 kA.out
              have A1 := frO_1 kA.out
              have B0 := frO_0 kB.out
              have B1 := frO_1 kB.out
              have F0 := frO_0 kF.out
              have F1 := frO_1 kF.out
              have G0 := frO_0 kG.out
              have G1 := frO_1 kG.out
              go_wp2_with (fail)
              refine (awake_any _ (ht.below L.out)).mono ?_
              rintro e w11 ⟨rfl, hB⟩
              replace L := Lib.hid (L.out.trans (hB.mono L.out.size))
              replace kA := Lib.hid (stays kA.out hB)
              replace kB := Lib.hid (stays kB.out hB)
              replace kF := Lib.hid (stays kF.out hB)
              replace kG := Lib.hid (stays kG.out hB)
              clear hB A0 A1 B0 B1 F0 F1 G0 G1
              have A0 := frO_0 kA.out
              have A1 := frO_1 kA.out
              have B0 := frO_0 kB.out
              have B1 := frO_1 kB.out
              have F0 := frO_0 kF.out
              have F1 := frO_1 kF.out
              have G0 := frO_0 kG.out
              have G1 := frO_1 kG.out
              go_wp2
              go_ret
              exact ⟨rfl, L.out⟩
          · have u3 : ¬ 0 ≤ cmpF gn gd ln ld := fun h => g1 (cmp_ge_iff.1 h)
            have u3 : cmpF gn gd ln ld < 0 := by omega
            generalize cmpF gn gd ln ld = y3 at *
            go_wp2_with (fail)
            refine (cgl _).mono ?_
            rintro e w9 ⟨rfl, hB⟩
            replace L := Lib.hid (L.out.trans ((gN.trans (hB.mono gN.size)).mono L.out.size))
            replace kA := Lib.hid (stays kA.out hB)
            replace kB := Lib.hid (stays kB.out hB)
            replace kF := Lib.hid (stays kF.out hB)
            replace kG := Lib.hid (stays kG.out hB)
            generalize w8.heap.size = xG at *
            clear gN
            clear hB A0 A1 B0 B1 F0 F1 G0 G1
            have A0 := frO_0 kA.out
            have A1 := frO_1 kA.out
            have B0 := frO_0 kB.out
            have B1 := frO_1 kB.out
            have F0 := frO_0 kF.out
            have F1 := frO_1 kF.out
            have G0 := frO_0 kG.out
            have G1 := frO_1 kG.out
            go_wp2_with (fail)
            refine (awake_any _ (ht.below L.out)).mono ?_
            rintro e w10 ⟨rfl, hB⟩
            replace L := Lib.hid (L.out.trans (hB.mono L.out.size))
            replace kA := Lib.hid (stays kA.out hB)
            replace kB := Lib.hid (stays kB.out hB)
            replace kF := Lib.hid (stays kF.out hB)
            replace kG := Lib.hid (stays kG.out hB)
            clear hB A0 A1 B0 B1 F0 F1 G0 G1
            have A0 := frO_0 kA.out
            have A1 := frO_1 kA.out
            have B0 := frO_0 kB.out
            have B1 := frO_1 kB.out
            have F0 := frO_0 kF.out
            have F1 := frO_1 kF.out
            have G0 := frO_0 kG.out
            have G1 := frO_1 kG.out
            go_wp2
            go_ret
            exact ⟨rfl, L.out⟩
        · have gb : (gc != 0) = true := by rw [bne_iff_ne]; exact hgc
          clear hgc
          go_wp2_with (fail)
          refine (awake_any _ (ht.below (L.out.trans (gN.mono L.out.size)))).mono ?_
          rintro e w9 ⟨rfl, hB⟩
          replace L := Lib.hid (L.out.trans ((gN.trans (hB.mono gN.size)).mono L.out.size))
          replace kA := Lib.hid (stays kA.out hB)
          replace kB := Lib.hid (stays kB.out hB)
          replace kF := Lib.hid (stays kF.out hB)
          replace kG := Lib.hid (stays kG.out hB)
          generalize w8.heap.size = xG at *
          clear gN
          clear hB A0 A1 B0 B1 F0 F1 G0 G1
          have A0 := frO_0 kA.out
          have A1 := frO_1 kA.out
          have B0 := frO_0 kB.out
          have B1 := frO_1 kB.out
          have F0 := frO_0 kF.out
          have F1 := frO_1 kF.out
          have G0 := frO_0 kG.out
          have G1 := frO_1 kG.out
          go_wp2
          go_ret
          exact ⟨rfl, L.out⟩
      · skip
        have u0 : ¬ cmpF ln ld hn hd ≤ 0 := fun h => hle (cmp_le_iff.1 h)
        have u0 : 0 < cmpF ln ld hn hd := by omega
        generalize cmpF ln ld hn hd = y0 at *
        go_wp2_with (fail)
        refine (c0 _).mono ?_
        rintro e w3 ⟨rfl, hB⟩
        replace L := Lib.hid (L.out.trans (hB.mono L.out.size))
        replace kA := Lib.hid (stays kA.out hB)
        replace kB := Lib.hid (stays kB.out hB)
        clear hB A0 A1 B0 B1
        have A0 := frO_0 kA.out
        have A1 := frO_1 kA.out
        have B0 := frO_0 kB.out
        have B1 := frO_1 kB.out
        go_wp2_with (fail)
        refine (awake_any _ (ht.below L.out)).mono ?_
        rintro e w4 ⟨rfl, hB⟩
        replace L := Lib.hid (L.out.trans (hB.mono L.out.size))
        replace kA := Lib.hid (stays kA.out hB)
        replace kB := Lib.hid (stays kB.out hB)
        clear hB A0 A1 B0 B1
        have A0 := frO_0 kA.out
        have A1 := frO_1 kA.out
        have B0 := frO_0 kB.out
        have B1 := frO_1 kB.out
        go_wp2
        go_ret
        exact ⟨rfl, L.out⟩
    · have e1 : valB hn hd = false := by rw [valB, decide_eq_false_iff_not]; exact q1
      rw [e1] at v1
      clear e1
      obtain ⟨g0, kA, kB⟩ := enter2 w ln ld hn hd
      have L := Lib.hid g0
      replace kA := Lib.hid kA
      replace kB := Lib.hid kB
      clear g0
      have A0 := frO_0 kA.out
      have A1 := frO_1 kA.out
      have B0 := frO_0 kB.out
      have B1 := frO_1 kB.out
      go_enter Tryd.func5, Tryd.ntmps5
      go_wp2_with (fail)
      refine (v0 _).mono ?_
      rintro e w1 ⟨rfl, hB⟩
      replace L := Lib.hid (L.out.trans (hB.mono L.out.size))
      replace kA := Lib.hid (stays kA.out hB)
      replace kB := Lib.hid (stays kB.out hB)
      clear hB A0 A1 B0 B1
      have A0 := frO_0 kA.out
      have A1 := frO_1 kA.out
      have B0 := frO_0 kB.out
      have B1 := frO_1 kB.out
      go_wp2_with (fail)
      refine (v1 _).mono ?_
      rintro e w2 ⟨rfl, hB⟩
      replace L := Lib.hid (L.out.trans (hB.mono L.out.size))
      replace kA := Lib.hid (stays kA.out hB)
      replace kB := Lib.hid (stays kB.out hB)
      clear hB A0 A1 B0 B1
      have A0 := frO_0 kA.out
      have A1 := frO_1 kA.out
      have B0 := frO_0 kB.out
      have B1 := frO_1 kB.out
      go_wp2_with (fail)
      refine (awake_any _ (ht.below L.out)).mono ?_
      rintro e w3 ⟨rfl, hB⟩
      replace L := Lib.hid (L.out.trans (hB.mono L.out.size))
      replace kA := Lib.hid (stays kA.out hB)
      replace kB := Lib.hid (stays kB.out hB)
      clear hB A0 A1 B0 B1
      have A0 := frO_0 kA.out
      have A1 := frO_1 kA.out
      have B0 := frO_0 kB.out
      have B1 := frO_1 kB.out
      go_wp2
      go_ret
      exact ⟨rfl, L.out⟩
  · have e0 : valB ln ld = false := by rw [valB, decide_eq_false_iff_not]; exact q0
    rw [e0] at v0
    clear e0
    obtain ⟨g0, kA, kB⟩ := enter2 w ln ld hn hd
    have L := Lib.hid g0
    replace kA := Lib.hid kA
    replace kB := Lib.hid kB
    clear g0
    have A0 := frO_0 kA.out
    have A1 := frO_1 kA.out
    have B0 := frO_0 kB.out
    have B1 := frO_1 kB.out
    go_enter Tryd.func5, Tryd.ntmps5
    go_wp2_with (fail)
    refine (v0 _).mono ?_
    rintro e w1 ⟨rfl, hB⟩
    replace L := Lib.hid (L.out.trans (hB.mono L.out.size))
    replace kA := Lib.hid (stays kA.out hB)
    replace kB := Lib.hid (stays kB.out hB)
    clear hB A0 A1 B0 B1
    have A0 := frO_0 kA.out
    have A1 := frO_1 kA.out
    have B0 := frO_0 kB.out
    have B1 := frO_1 kB.out
    go_wp2_with (fail)
    refine (awake_any _ (ht.below L.out)).mono ?_
    rintro e w2 ⟨rfl, hB⟩
    replace L := Lib.hid (L.out.trans (hB.mono L.out.size))
    replace kA := Lib.hid (stays kA.out hB)
    replace kB := Lib.hid (stays kB.out hB)
    clear hB A0 A1 B0 B1
    have A0 := frO_0 kA.out
    have A1 := frO_1 kA.out
    have B0 := frO_0 kB.out
    have B1 := frO_1 kB.out
    go_wp2
    go_ret
    exact ⟨rfl, L.out⟩

end Go.Proofs.YtckedklopgnloaaDoor
