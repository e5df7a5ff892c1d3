/- DeriveMeans: the law, walked (by program: wip/tools/gen_derivelaws.py). -/
import Derived.Test.YtahfapeggijfkaaDoorDerive4
namespace Go.Proofs.YtahfapeggijfkaaDoor
open Go.RowKit

theorem val_one {x : Int} (h1 : -2147483647 ≤ x) (h2 : x ≤ 2147483647) : Val x 1 := ⟨by omega, by omega, h1, h2, by simp⟩
theorem mean_back {x s : Int} (h1 : fitB x = true) (h2 : fitB (x * s) = true) (h3 : sclB s = true) : meanF (x * s) s = ((x, 1), 0) := by
  obtain ⟨a, b⟩ := fitB_of h1
  obtain ⟨c, d⟩ := sclB_of h3
  rw [meanF_yes (by unfold wrongF; rw [h3, h2]; rfl), mkF_same (n' := x) (d' := 1) (by omega) (by omega) ((q_eq (by omega) (by omega)).2 (by omega)), mkF_val (val_one a b)]
theorem input_1 {x s a : Int} (h : inputF 1 x s = (a, 0)) : fitB x = true ∧ fitB (x * s) = true ∧ sclB s = true ∧ a = x * s := by
  cases h1 : rsclB 1 s
  · rw [inputF_scale (by omega) h1] at h; cases h
  · rw [inputF_in (by omega) h1, if_neg (by omega), if_neg (by omega)] at h
    have hs : sclB s = true := by unfold rsclB at h1; rw [Bool.and_eq_true] at h1; exact h1.1
    cases h2 : fitB x
    · rw [timesF_no h2] at h; cases h
    · cases h3 : fitB (x * s)
      · rw [timesF_out h2 h3] at h; cases h
      · rw [timesF_yes h2 h3] at h; cases h; exact ⟨rfl, rfl, hs, rfl⟩
theorem input_3 {x s a : Int} (h : inputF 3 x s = (a, 0)) : fitB x = true ∧ fitB (x * x) = true ∧ fitB (x * x * s) = true ∧ sclB s = true ∧ a = x * x * s := by
  cases h1 : rsclB 3 s
  · rw [inputF_scale (by omega) h1] at h; cases h
  · rw [inputF_in (by omega) h1, if_neg (by omega), if_pos rfl] at h
    have hs : sclB s = true := by unfold rsclB at h1; rw [Bool.and_eq_true] at h1; exact h1.1
    unfold squareF at h
    cases h0 : fitB x
    · rw [h0] at h; cases h
    · rw [h0, if_pos rfl] at h
      cases h2 : fitB (x * x)
      · rw [timesF_no h2] at h; cases h
      · cases h3 : fitB (x * x * s)
        · rw [timesF_out h2 h3] at h; cases h
        · rw [timesF_yes h2 h3] at h; cases h; exact ⟨rfl, rfl, rfl, hs, rfl⟩
theorem var_same {x : Int} (h1 : fitB x = true) (h2 : fitB (x * x) = true) : varF (x * x) 1 x 1 = ((0, 1), 0) := by
  obtain ⟨a, b⟩ := fitB_of h1
  obtain ⟨c, d⟩ := fitB_of h2
  have hm : mkF (x * x) (1 * 1) = ((x * x, 1), 0) := mkF_val (val_one c d)
  unfold varF
  rw [if_pos ⟨val_one c d, val_one a b⟩, hm]
  simp only [if_true]
  rw [show x * x * 1 - x * x * 1 = 0 by omega]
  exact mkF_val (val_one (by omega) (by omega))
set_option maxRecDepth 100000 in
set_option maxHeartbeats 4000000 in
theorem law_DeriveMeans (x s : Int) (w : World) (ht : TabT w) : Calls Tryd.prog 7 #[.int .i64 x, .int .i64 s] w fun e w' => e = .returned (.bool true) ∧ Below w.heap.size w w' := by
  have c1 : ∀ W, _ := fun W => input_any 1 x s W
  obtain ⟨⟨a, c⟩, h1⟩ : ∃ r, inputF 1 x s = r := ⟨_, rfl⟩
  have c2 : ∀ W, _ := fun W => input_any 3 x s W
  obtain ⟨⟨b, d⟩, h2⟩ : ∃ r, inputF 3 x s = r := ⟨_, rfl⟩
  rw [h1] at c1
  rw [h2] at c2
  unfold numV at c1 c2
  simp only at c1 c2
  have L : Hid (Below w.heap.size w w) := Below.refl _ _
  by_cases hc : c = 0
  · subst hc
    obtain ⟨f1, f2, f3, rfl⟩ := input_1 h1
    have c3 : ∀ W, _ := fun W => mean_any (x * s) s W
    rw [mean_back f1 f2 f3] at c3
    obtain ⟨n1, n2⟩ := fitB_of f1
    obtain ⟨s1, s2⟩ := sclB_of f3
    by_cases hd : d = 0
    · subst hd
      obtain ⟨g1, g2, g3, g4, rfl⟩ := input_3 h2
      have c4 : ∀ W, _ := fun W => mean_any (x * x * s) s W
      rw [mean_back g2 g3 g4] at c4
      obtain ⟨m1, m2⟩ := fitB_of g2
      have c5 : ∀ W, _ := fun W => var_any (x * x) 1 x 1 W (by omega) (by omega) (by omega) (by omega) (by omega) (by omega) (by omega) (by omega)
      rw [var_same f1 g2] at c5
      clear h1 h2 f1 f2 f3 g1 g2 g3 g4
      generalize x * s = xs at *
      generalize x * x = xx at *
      generalize xx * s = xxs at *
      go_enter Tryd.func7, Tryd.ntmps7
      go_wp2_with (fail)
      refine (c1 _).mono ?_
      rintro e w1 ⟨rfl, hB⟩
      replace L := Lib.hid (L.out.trans (hB.mono L.out.size))
      clear hB 
      go_wp2_with (fail)
      refine (c3 _).mono ?_
      rintro e w2 ⟨rfl, hB⟩
      replace L := Lib.hid (L.out.trans (hB.mono L.out.size))
      clear hB 
      simp only [mkV]
      obtain ⟨gN, kM⟩ := box_new w2 (x) (1)
      replace kM := Lib.hid kM
      have M0 := frO_0 kM.out
      have M1 := frO_1 kM.out
      go_wp2_with (fail)
      refine (c2 _).mono ?_
      rintro e w3 ⟨rfl, hB⟩
      replace L := Lib.hid (L.out.trans ((gN.trans (hB.mono gN.size)).mono L.out.size))
      replace kM := Lib.hid (stays kM.out hB)
      generalize w2.heap.size = xM at *
      clear gN
      clear hB M0 M1
      have M0 := frO_0 kM.out
      have M1 := frO_1 kM.out
      go_wp2_with (fail)
      refine (c4 _).mono ?_
      rintro e w4 ⟨rfl, hB⟩
      replace L := Lib.hid (L.out.trans (hB.mono L.out.size))
      replace kM := Lib.hid (stays kM.out hB)
      clear hB M0 M1
      simp only [mkV]
      obtain ⟨gN, kP⟩ := box_new w4 (xx) (1)
      replace kM := Lib.hid (stays kM.out gN)
      replace kP := Lib.hid kP
      have M0 := frO_0 kM.out
      have M1 := frO_1 kM.out
      have P0 := frO_0 kP.out
      have P1 := frO_1 kP.out
      go_wp2_with (fail)
      refine (c3 _).mono ?_
      rintro e w5 ⟨rfl, hB⟩
      replace L := Lib.hid (L.out.trans ((gN.trans (hB.mono gN.size)).mono L.out.size))
      replace kM := Lib.hid (stays kM.out hB)
      replace kP := Lib.hid (stays kP.out hB)
      generalize w4.heap.size = xP at *
      clear gN
      clear hB M0 M1 P0 P1
      simp only [mkV]
      obtain ⟨gN, kQ⟩ := box_new w5 (x) (1)
      replace kM := Lib.hid (stays kM.out gN)
      replace kP := Lib.hid (stays kP.out gN)
      replace kQ := Lib.hid kQ
      have M0 := frO_0 kM.out
      have M1 := frO_1 kM.out
      have P0 := frO_0 kP.out
      have P1 := frO_1 kP.out
      have Q0 := frO_0 kQ.out
      have Q1 := frO_1 kQ.out
      go_wp2_with (fail)
      refine (c5 _).mono ?_
      rintro e w6 ⟨rfl, hB⟩
      replace L := Lib.hid (L.out.trans ((gN.trans (hB.mono gN.size)).mono L.out.size))
      replace kM := Lib.hid (stays kM.out hB)
      replace kP := Lib.hid (stays kP.out hB)
      replace kQ := Lib.hid (stays kQ.out hB)
      generalize w5.heap.size = xQ at *
      clear gN
      clear hB M0 M1 P0 P1 Q0 Q1
      simp only [mkV]
      obtain ⟨gN, kR⟩ := box_new w6 (0) (1)
      replace kM := Lib.hid (stays kM.out gN)
      replace kP := Lib.hid (stays kP.out gN)
      replace kQ := Lib.hid (stays kQ.out gN)
      replace kR := Lib.hid kR
      have M0 := frO_0 kM.out
      have M1 := frO_1 kM.out
      have P0 := frO_0 kP.out
      have P1 := frO_1 kP.out
      have Q0 := frO_0 kQ.out
      have Q1 := frO_1 kQ.out
      have R0 := frO_0 kR.out
      have R1 := frO_1 kR.out
      go_wp2_with (fail)
      refine (awake_any _ (ht.below (L.out.trans (gN.mono L.out.size)))).mono ?_
      rintro e w7 ⟨rfl, hB⟩
      replace L := Lib.hid (L.out.trans ((gN.trans (hB.mono gN.size)).mono L.out.size))
      replace kM := Lib.hid (stays kM.out hB)
      replace kP := Lib.hid (stays kP.out hB)
      replace kQ := Lib.hid (stays kQ.out hB)
      replace kR := Lib.hid (stays kR.out hB)
      generalize w6.heap.size = xR at *
      clear gN
      clear hB M0 M1 P0 P1 Q0 Q1 R0 R1
      have M0 := frO_0 kM.out
      have M1 := frO_1 kM.out
      have P0 := frO_0 kP.out
      have P1 := frO_1 kP.out
      have Q0 := frO_0 kQ.out
      have Q1 := frO_1 kQ.out
      have R0 := frO_0 kR.out
      have R1 := frO_1 kR.out
      go_wp2
      go_ret
      exact ⟨rfl, L.out⟩
    · have hdb : (d != 0) = true := by rw [bne_iff_ne]; exact hd
      clear hd h1 h2 f1 f2 f3
      generalize x * s = xs at *
      go_enter Tryd.func7, Tryd.ntmps7
      go_wp2_with (fail)
      refine (c1 _).mono ?_
      rintro e w1 ⟨rfl, hB⟩
      replace L := Lib.hid (L.out.trans (hB.mono L.out.size))
      clear hB 
      go_wp2_with (fail)
      refine (c3 _).mono ?_
      rintro e w2 ⟨rfl, hB⟩
      replace L := Lib.hid (L.out.trans (hB.mono L.out.size))
      clear hB 
      simp only [mkV]
      obtain ⟨gN, kM⟩ := box_new w2 (x) (1)
      replace kM := Lib.hid kM
      have M0 := frO_0 kM.out
      have M1 := frO_1 kM.out
      go_wp2_with (fail)
      refine (c2 _).mono ?_
      rintro e w3 ⟨rfl, hB⟩
      replace L := Lib.hid (L.out.trans ((gN.trans (hB.mono gN.size)).mono L.out.size))
      replace kM := Lib.hid (stays kM.out hB)
      generalize w2.heap.size = xM at *
      clear gN
      clear hB M0 M1
      have M0 := frO_0 kM.out
      have M1 := frO_1 kM.out
      go_wp2_with (fail)
      refine (awake_any _ (ht.below L.out)).mono ?_
      rintro e w4 ⟨rfl, hB⟩
      replace L := Lib.hid (L.out.trans (hB.mono L.out.size))
      replace kM := Lib.hid (stays kM.out hB)
      clear hB M0 M1
      have M0 := frO_0 kM.out
      have M1 := frO_1 kM.out
      go_wp2
      go_ret
      exact ⟨rfl, L.out⟩
  · have hcb : (c != 0) = true := by rw [bne_iff_ne]; exact hc
    have hce : (c == 0) = false := by rw [beq_eq_false_iff_ne]; exact hc
    clear hc h1 h2
    go_enter Tryd.func7, Tryd.ntmps7
    go_wp2_with (fail)
    refine (c1 _).mono ?_
    rintro e w1 ⟨rfl, hB⟩
    replace L := Lib.hid (L.out.trans (hB.mono L.out.size))
    clear hB 
    go_wp2_with (fail)
    refine (c2 _).mono ?_
    rintro e w2 ⟨rfl, hB⟩
    replace L := Lib.hid (L.out.trans (hB.mono L.out.size))
    clear hB 
    go_wp2_with (fail)
    refine (awake_any _ (ht.below L.out)).mono ?_
    rintro e w3 ⟨rfl, hB⟩
    replace L := Lib.hid (L.out.trans (hB.mono L.out.size))
    clear hB 
    go_wp2
    go_ret
    exact ⟨rfl, L.out⟩

end Go.Proofs.YtahfapeggijfkaaDoor
