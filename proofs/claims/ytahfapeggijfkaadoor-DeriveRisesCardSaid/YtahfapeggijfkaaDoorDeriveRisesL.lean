/- DeriveRises: the law, walked (by program: wip/tools/gen_derivelaws.py). -/
import Derived.Test.YtahfapeggijfkaaDoorDerive4
namespace Go.Proofs.YtahfapeggijfkaaDoor
open Go.RowKit

theorem mean_ok {z s a b : Int} (h : meanF z s = ((a, b), 0)) : (1 ≤ s ∧ s ≤ 1048576) ∧ Val a b ∧ a * s = z * b := by
  unfold meanF at h
  by_cases h0 : wrongF z s = 0
  · rw [if_pos h0] at h
    obtain ⟨h1, h2, h3⟩ := mk_cross h
    exact ⟨(wrongF_bd h0).1, h1, h3⟩
  · rw [if_neg h0] at h
    injection h with h1 h2
    exact absurd h2 h0
theorem rises_le {lo hi s a b c d : Int} (hl : lo ≤ hi) (h1 : meanF lo s = ((a, b), 0)) (h2 : meanF hi s = ((c, d), 0)) : a * d ≤ c * b := by
  obtain ⟨⟨s1, s2⟩, v1, e1⟩ := mean_ok h1
  obtain ⟨_, v2, e2⟩ := mean_ok h2
  have hb : 0 < b := by have := v1.1; omega
  have hd : 0 < d := by have := v2.1; omega
  have hbd : 0 ≤ b * d := Int.mul_nonneg (by omega) (by omega)
  have h3 := Int.mul_le_mul_of_nonneg_right hl hbd
  have t1 : a * d * s = lo * (b * d) := by rw [Int.mul_right_comm, e1, Int.mul_assoc]
  have t2 : c * b * s = hi * (b * d) := by rw [Int.mul_right_comm, e2, Int.mul_assoc, Int.mul_comm d b]
  have h4 : a * d * s ≤ c * b * s := by rw [t1, t2]; exact h3
  exact Int.le_of_mul_le_mul_right h4 (by omega)
theorem rises_ne {lo hi s a b c d : Int} (hl : lo ≠ hi) (h1 : meanF lo s = ((a, b), 0)) (h2 : meanF hi s = ((c, d), 0)) (h3 : a = c) : b ≠ d := by
  intro h4
  subst h3 h4
  obtain ⟨_, v1, e1⟩ := mean_ok h1
  obtain ⟨_, v2, e2⟩ := mean_ok h2
  have hb : b ≠ 0 := by have := v1.1; omega
  exact hl (Int.eq_of_mul_eq_mul_right hb (e1.symm.trans e2))
theorem falls {lo hi s n m : Int} (hl : lo ≤ hi) (h1 : countF lo s = (n, 0)) (h2 : countF hi s = (m, 0)) : m ≤ n := by
  unfold countF at h1 h2
  by_cases w1 : wrongF lo s = 0
  · rw [if_pos w1] at h1
    by_cases p1 : lo ≤ 0
    · rw [if_pos p1] at h1; cases h1
    · rw [if_neg p1] at h1
      by_cases w2 : wrongF hi s = 0
      · rw [if_pos w2] at h2
        by_cases p2 : hi ≤ 0
        · rw [if_pos p2] at h2; cases h2
        · rw [if_neg p2] at h2
          injection h1 with h1 _
          injection h2 with h2 _
          subst h1 h2
          have hm := Int.ediv_mul_le (2 * s + hi) (show 2 * hi ≠ 0 by omega)
          have hm0 : 0 ≤ (2 * s + hi) / (2 * hi) := Int.ediv_nonneg (by have := (wrongF_bd w1).1; omega) (by omega)
          generalize (2 * s + hi) / (2 * hi) = m at *
          refine (Int.le_ediv_iff_mul_le (by omega)).2 ?_
          rcases Int.lt_or_le 0 m with h | h
          · have := Int.mul_le_mul_of_nonneg_right hl (show 0 ≤ 2 * m - 1 by omega)
            grind
          · obtain rfl : m = 0 := by omega
            have := (wrongF_bd w1).1
            omega
      · rw [if_neg w2] at h2; injection h2 with _ h3; exact absurd h3 w2
  · rw [if_neg w1] at h1; injection h1 with _ h3; exact absurd h3 w1
set_option maxRecDepth 100000 in
set_option maxHeartbeats 4000000 in
theorem law_DeriveRises (z1 z2 s : Int) (w : World) (ht : TabT w) : Calls Tryd.prog 5 #[.int .i64 z1, .int .i64 z2, .int .i64 s] w fun e w' => e = .returned (.bool true) ∧ Below w.heap.size w w' := by
  obtain ⟨lo, hlo⟩ : ∃ lo, lo = min z1 z2 := ⟨_, rfl⟩
  obtain ⟨hi, hhi⟩ : ∃ hi, hi = max z1 z2 := ⟨_, rfl⟩
  have hle : lo ≤ hi := by omega
  have hne : z1 ≠ z2 → lo ≠ hi := by omega
  have c1 : ∀ W, _ := fun W => mean_any lo s W
  have c2 : ∀ W, _ := fun W => mean_any hi s W
  obtain ⟨⟨⟨an, ad⟩, ac⟩, h1⟩ : ∃ r, meanF lo s = r := ⟨_, rfl⟩
  obtain ⟨⟨⟨bn, bd⟩, bc⟩, h2⟩ : ∃ r, meanF hi s = r := ⟨_, rfl⟩
  rw [h1] at c1
  rw [h2] at c2
  have c3 : ∀ W, _ := fun W => count_any lo s W
  have c4 : ∀ W, _ := fun W => count_any hi s W
  obtain ⟨⟨n, nc⟩, h3⟩ : ∃ r, countF lo s = r := ⟨_, rfl⟩
  obtain ⟨⟨m, mc⟩, h4⟩ : ∃ r, countF hi s = r := ⟨_, rfl⟩
  rw [h3] at c3
  rw [h4] at c4
  simp only at c3 c4
  rw [hlo] at c1 c3
  rw [hhi] at c2 c4
  have L : Hid (Below w.heap.size w w) := Below.refl _ _
  have HLE := Lib.hid hle
  have HNE := Lib.hid hne
  have H1 := Lib.hid h1
  have H2 := Lib.hid h2
  have H3 := Lib.hid h3
  have H4 := Lib.hid h4
  clear hlo hhi hle hne h1 h2 h3 h4
  by_cases hc : ac = 0
  · subst hc
    by_cases hd : bc = 0
    · subst hd
      obtain ⟨v1, v2, v3, v4, v5⟩ := (mean_ok H1.out).2.1
      obtain ⟨u1, u2, u3, u4, u5⟩ := (mean_ok H2.out).2.1
      have q0 : Hid (Val an ad) := ⟨v1, v2, v3, v4, v5⟩
      have q1 : Hid (Val bn bd) := ⟨u1, u2, u3, u4, u5⟩
      clear v5 u5
      have e1 : ∀ W, _ := fun W => rvalid_any an ad W (by omega) (by omega) (by omega) (by omega)
      have e2 : ∀ W, _ := fun W => rvalid_any bn bd W (by omega) (by omega) (by omega) (by omega)
      rw [(valB_iff an ad).2 q0.out] at e1
      rw [(valB_iff bn bd).2 q1.out] at e2
      have e3 : ∀ W, _ := fun W => rcmp_any an ad bn bd W q0.out.fit q1.out.fit
      have hcm : cmpF an ad bn bd ≤ 0 := by
        have := rises_le HLE.out H1.out H2.out
        unfold cmpF
        split
        · omega
        · rw [if_neg (by omega)]; omega
      generalize cmpF an ad bn bd = Y at *
      clear v1 v2 v3 v4 u1 u2 u3 u4
      by_cases hz : z1 = z2
      · have hzb : (z1 != z2) = false := by rw [bne_eq_false_iff_eq]; exact hz
        clear hz
        go_enter Tryd.func5, Tryd.ntmps5
        go_wp2_with (fail)
        refine (c1 _).mono ?_
        rintro e w1 ⟨rfl, hB⟩
        replace L := Lib.hid (L.out.trans (hB.mono L.out.size))
        clear hB 
        simp only [mkV]
        obtain ⟨gN, kA⟩ := box_new w1 (an) (ad)
        replace kA := Lib.hid kA
        have A0 := frO_0 kA.out
        have A1 := frO_1 kA.out
        go_wp2_with (fail)
        refine (c2 _).mono ?_
        rintro e w2 ⟨rfl, hB⟩
        replace L := Lib.hid (L.out.trans ((gN.trans (hB.mono gN.size)).mono L.out.size))
        replace kA := Lib.hid (stays kA.out hB)
        generalize w1.heap.size = xA at *
        clear gN
        clear hB A0 A1
        simp only [mkV]
        obtain ⟨gN, kB⟩ := box_new w2 (bn) (bd)
        replace kA := Lib.hid (stays kA.out gN)
        replace kB := Lib.hid kB
        have A0 := frO_0 kA.out
        have A1 := frO_1 kA.out
        have B0 := frO_0 kB.out
        have B1 := frO_1 kB.out
        go_wp2_with (fail)
        refine (e1 _).mono ?_
        rintro e w3 ⟨rfl, hB⟩
        replace L := Lib.hid (L.out.trans ((gN.trans (hB.mono gN.size)).mono L.out.size))
        replace kA := Lib.hid (stays kA.out hB)
        replace kB := Lib.hid (stays kB.out hB)
        generalize w2.heap.size = xB at *
        clear gN
        clear hB A0 A1 B0 B1
        have A0 := frO_0 kA.out
        have A1 := frO_1 kA.out
        have B0 := frO_0 kB.out
        have B1 := frO_1 kB.out
        go_wp2_with (fail)
        refine (e2 _).mono ?_
        rintro e w4 ⟨rfl, hB⟩
        replace L := Lib.hid (L.out.trans (hB.mono L.out.size))
        replace kA := Lib.hid (stays kA.out hB)
        replace kB := Lib.hid (stays kB.out hB)
        clear hB A0 A1 B0 B1
        have A0 := frO_0 kA.out
        have A1 := frO_1 kA.out
        have B0 := frO_0 kB.out
        have B1 := frO_1 kB.out
        go_wp2_with (fail)
        refine (e3 _).mono ?_
        rintro e w5 ⟨rfl, hB⟩
        replace L := Lib.hid (L.out.trans (hB.mono L.out.size))
        replace kA := Lib.hid (stays kA.out hB)
        replace kB := Lib.hid (stays kB.out hB)
        clear hB A0 A1 B0 B1
        have A0 := frO_0 kA.out
        have A1 := frO_1 kA.out
        have B0 := frO_0 kB.out
        have B1 := frO_1 kB.out
        by_cases hn : nc = 0
        · subst hn
          by_cases hm : mc = 0
          · subst hm
            have hge := falls HLE.out H3.out H4.out
            go_wp2_with (fail)
            refine (c3 _).mono ?_
            rintro e V0 ⟨rfl, rfl⟩
            go_wp2_with (fail)
            refine (c4 _).mono ?_
            rintro e V0 ⟨rfl, rfl⟩
            go_wp2_with (fail)
            refine (awake_any _ (ht.below L.out)).mono ?_
            rintro e w6 ⟨rfl, hB⟩
            replace L := Lib.hid (L.out.trans (hB.mono L.out.size))
            replace kA := Lib.hid (stays kA.out hB)
            replace kB := Lib.hid (stays kB.out hB)
            clear hB A0 A1 B0 B1
            have A0 := frO_0 kA.out
            have A1 := frO_1 kA.out
            have B0 := frO_0 kB.out
            have B1 := frO_1 kB.out
            go_wp2
            go_ret
            exact ⟨rfl, L.out⟩
          · have hmb : (mc != 0) = true := by rw [bne_iff_ne]; exact hm
            clear hm
            go_wp2_with (fail)
            refine (c3 _).mono ?_
            rintro e V0 ⟨rfl, rfl⟩
            go_wp2_with (fail)
            refine (c4 _).mono ?_
            rintro e V0 ⟨rfl, rfl⟩
            go_wp2_with (fail)
            refine (awake_any _ (ht.below L.out)).mono ?_
            rintro e w6 ⟨rfl, hB⟩
            replace L := Lib.hid (L.out.trans (hB.mono L.out.size))
            replace kA := Lib.hid (stays kA.out hB)
            replace kB := Lib.hid (stays kB.out hB)
            clear hB A0 A1 B0 B1
            have A0 := frO_0 kA.out
            have A1 := frO_1 kA.out
            have B0 := frO_0 kB.out
            have B1 := frO_1 kB.out
            go_wp2
            go_ret
            exact ⟨rfl, L.out⟩
        · have hnb : (nc != 0) = true := by rw [bne_iff_ne]; exact hn
          clear hn
          go_wp2_with (fail)
          refine (c3 _).mono ?_
          rintro e V0 ⟨rfl, rfl⟩
          go_wp2_with (fail)
          refine (c4 _).mono ?_
          rintro e V0 ⟨rfl, rfl⟩
          go_wp2_with (fail)
          refine (awake_any _ (ht.below L.out)).mono ?_
          rintro e w6 ⟨rfl, hB⟩
          replace L := Lib.hid (L.out.trans (hB.mono L.out.size))
          replace kA := Lib.hid (stays kA.out hB)
          replace kB := Lib.hid (stays kB.out hB)
          clear hB A0 A1 B0 B1
          have A0 := frO_0 kA.out
          have A1 := frO_1 kA.out
          have B0 := frO_0 kB.out
          have B1 := frO_1 kB.out
          go_wp2
          go_ret
          exact ⟨rfl, L.out⟩
      · have hzb : (z1 != z2) = true := by rw [bne_iff_ne]; exact hz
        by_cases ha : an = bn
        · have hb := rises_ne (HNE.out hz) H1.out H2.out ha
          have ha2 : (an == bn) = true := by rw [beq_iff_eq]; exact ha
          have hb2 : (ad == bd) = false := by rw [beq_eq_false_iff_ne]; exact hb
          clear hz ha hb
          go_enter Tryd.func5, Tryd.ntmps5
          go_wp2_with (fail)
          refine (c1 _).mono ?_
          rintro e w1 ⟨rfl, hB⟩
          replace L := Lib.hid (L.out.trans (hB.mono L.out.size))
          clear hB 
          simp only [mkV]
          obtain ⟨gN, kA⟩ := box_new w1 (an) (ad)
          replace kA := Lib.hid kA
          have A0 := frO_0 kA.out
          have A1 := frO_1 kA.out
          go_wp2_with (fail)
          refine (c2 _).mono ?_
          rintro e w2 ⟨rfl, hB⟩
          replace L := Lib.hid (L.out.trans ((gN.trans (hB.mono gN.size)).mono L.out.size))
          replace kA := Lib.hid (stays kA.out hB)
          generalize w1.heap.size = xA at *
          clear gN
          clear hB A0 A1
          simp only [mkV]
          obtain ⟨gN, kB⟩ := box_new w2 (bn) (bd)
          replace kA := Lib.hid (stays kA.out gN)
          replace kB := Lib.hid kB
          have A0 := frO_0 kA.out
          have A1 := frO_1 kA.out
          have B0 := frO_0 kB.out
          have B1 := frO_1 kB.out
          go_wp2_with (fail)
          refine (e1 _).mono ?_
          rintro e w3 ⟨rfl, hB⟩
          replace L := Lib.hid (L.out.trans ((gN.trans (hB.mono gN.size)).mono L.out.size))
          replace kA := Lib.hid (stays kA.out hB)
          replace kB := Lib.hid (stays kB.out hB)
          generalize w2.heap.size = xB at *
          clear gN
          clear hB A0 A1 B0 B1
          have A0 := frO_0 kA.out
          have A1 := frO_1 kA.out
          have B0 := frO_0 kB.out
          have B1 := frO_1 kB.out
          go_wp2_with (fail)
          refine (e2 _).mono ?_
          rintro e w4 ⟨rfl, hB⟩
          replace L := Lib.hid (L.out.trans (hB.mono L.out.size))
          replace kA := Lib.hid (stays kA.out hB)
          replace kB := Lib.hid (stays kB.out hB)
          clear hB A0 A1 B0 B1
          have A0 := frO_0 kA.out
          have A1 := frO_1 kA.out
          have B0 := frO_0 kB.out
          have B1 := frO_1 kB.out
          go_wp2_with (fail)
          refine (e3 _).mono ?_
          rintro e w5 ⟨rfl, hB⟩
          replace L := Lib.hid (L.out.trans (hB.mono L.out.size))
          replace kA := Lib.hid (stays kA.out hB)
          replace kB := Lib.hid (stays kB.out hB)
          clear hB A0 A1 B0 B1
          have A0 := frO_0 kA.out
          have A1 := frO_1 kA.out
          have B0 := frO_0 kB.out
          have B1 := frO_1 kB.out
          by_cases hn : nc = 0
          · subst hn
            by_cases hm : mc = 0
            · subst hm
              have hge := falls HLE.out H3.out H4.out
              go_wp2_with (fail)
              refine (c3 _).mono ?_
              rintro e V0 ⟨rfl, rfl⟩
              go_wp2_with (fail)
              refine (c4 _).mono ?_
              rintro e V0 ⟨rfl, rfl⟩
              go_wp2_with (fail)
              refine (awake_any _ (ht.below L.out)).mono ?_
              rintro e w6 ⟨rfl, hB⟩
              replace L := Lib.hid (L.out.trans (hB.mono L.out.size))
              replace kA := Lib.hid (stays kA.out hB)
              replace kB := Lib.hid (stays kB.out hB)
              clear hB A0 A1 B0 B1
              have A0 := frO_0 kA.out
              have A1 := frO_1 kA.out
              have B0 := frO_0 kB.out
              have B1 := frO_1 kB.out
              go_wp2
              go_ret
              exact ⟨rfl, L.out⟩
            · have hmb : (mc != 0) = true := by rw [bne_iff_ne]; exact hm
              clear hm
              go_wp2_with (fail)
              refine (c3 _).mono ?_
              rintro e V0 ⟨rfl, rfl⟩
              go_wp2_with (fail)
              refine (c4 _).mono ?_
              rintro e V0 ⟨rfl, rfl⟩
              go_wp2_with (fail)
              refine (awake_any _ (ht.below L.out)).mono ?_
              rintro e w6 ⟨rfl, hB⟩
              replace L := Lib.hid (L.out.trans (hB.mono L.out.size))
              replace kA := Lib.hid (stays kA.out hB)
              replace kB := Lib.hid (stays kB.out hB)
              clear hB A0 A1 B0 B1
              have A0 := frO_0 kA.out
              have A1 := frO_1 kA.out
              have B0 := frO_0 kB.out
              have B1 := frO_1 kB.out
              go_wp2
              go_ret
              exact ⟨rfl, L.out⟩
          · have hnb : (nc != 0) = true := by rw [bne_iff_ne]; exact hn
            clear hn
            go_wp2_with (fail)
            refine (c3 _).mono ?_
            rintro e V0 ⟨rfl, rfl⟩
            go_wp2_with (fail)
            refine (c4 _).mono ?_
            rintro e V0 ⟨rfl, rfl⟩
            go_wp2_with (fail)
            refine (awake_any _ (ht.below L.out)).mono ?_
            rintro e w6 ⟨rfl, hB⟩
            replace L := Lib.hid (L.out.trans (hB.mono L.out.size))
            replace kA := Lib.hid (stays kA.out hB)
            replace kB := Lib.hid (stays kB.out hB)
            clear hB A0 A1 B0 B1
            have A0 := frO_0 kA.out
            have A1 := frO_1 kA.out
            have B0 := frO_0 kB.out
            have B1 := frO_1 kB.out
            go_wp2
            go_ret
            exact ⟨rfl, L.out⟩
        · have ha2 : (an == bn) = false := by rw [beq_eq_false_iff_ne]; exact ha
          clear hz ha
          go_enter Tryd.func5, Tryd.ntmps5
          go_wp2_with (fail)
          refine (c1 _).mono ?_
          rintro e w1 ⟨rfl, hB⟩
          replace L := Lib.hid (L.out.trans (hB.mono L.out.size))
          clear hB 
          simp only [mkV]
          obtain ⟨gN, kA⟩ := box_new w1 (an) (ad)
          replace kA := Lib.hid kA
          have A0 := frO_0 kA.out
          have A1 := frO_1 kA.out
          go_wp2_with (fail)
          refine (c2 _).mono ?_
          rintro e w2 ⟨rfl, hB⟩
          replace L := Lib.hid (L.out.trans ((gN.trans (hB.mono gN.size)).mono L.out.size))
          replace kA := Lib.hid (stays kA.out hB)
          generalize w1.heap.size = xA at *
          clear gN
          clear hB A0 A1
          simp only [mkV]
          obtain ⟨gN, kB⟩ := box_new w2 (bn) (bd)
          replace kA := Lib.hid (stays kA.out gN)
          replace kB := Lib.hid kB
          have A0 := frO_0 kA.out
          have A1 := frO_1 kA.out
          have B0 := frO_0 kB.out
          have B1 := frO_1 kB.out
          go_wp2_with (fail)
          refine (e1 _).mono ?_
          rintro e w3 ⟨rfl, hB⟩
          replace L := Lib.hid (L.out.trans ((gN.trans (hB.mono gN.size)).mono L.out.size))
          replace kA := Lib.hid (stays kA.out hB)
          replace kB := Lib.hid (stays kB.out hB)
          generalize w2.heap.size = xB at *
          clear gN
          clear hB A0 A1 B0 B1
          have A0 := frO_0 kA.out
          have A1 := frO_1 kA.out
          have B0 := frO_0 kB.out
          have B1 := frO_1 kB.out
          go_wp2_with (fail)
          refine (e2 _).mono ?_
          rintro e w4 ⟨rfl, hB⟩
          replace L := Lib.hid (L.out.trans (hB.mono L.out.size))
          replace kA := Lib.hid (stays kA.out hB)
          replace kB := Lib.hid (stays kB.out hB)
          clear hB A0 A1 B0 B1
          have A0 := frO_0 kA.out
          have A1 := frO_1 kA.out
          have B0 := frO_0 kB.out
          have B1 := frO_1 kB.out
          go_wp2_with (fail)
          refine (e3 _).mono ?_
          rintro e w5 ⟨rfl, hB⟩
          replace L := Lib.hid (L.out.trans (hB.mono L.out.size))
          replace kA := Lib.hid (stays kA.out hB)
          replace kB := Lib.hid (stays kB.out hB)
          clear hB A0 A1 B0 B1
          have A0 := frO_0 kA.out
          have A1 := frO_1 kA.out
          have B0 := frO_0 kB.out
          have B1 := frO_1 kB.out
          by_cases hn : nc = 0
          · subst hn
            by_cases hm : mc = 0
            · subst hm
              have hge := falls HLE.out H3.out H4.out
              go_wp2_with (fail)
              refine (c3 _).mono ?_
              rintro e V0 ⟨rfl, rfl⟩
              go_wp2_with (fail)
              refine (c4 _).mono ?_
              rintro e V0 ⟨rfl, rfl⟩
              go_wp2_with (fail)
              refine (awake_any _ (ht.below L.out)).mono ?_
              rintro e w6 ⟨rfl, hB⟩
              replace L := Lib.hid (L.out.trans (hB.mono L.out.size))
              replace kA := Lib.hid (stays kA.out hB)
              replace kB := Lib.hid (stays kB.out hB)
              clear hB A0 A1 B0 B1
              have A0 := frO_0 kA.out
              have A1 := frO_1 kA.out
              have B0 := frO_0 kB.out
              have B1 := frO_1 kB.out
              go_wp2
              go_ret
              exact ⟨rfl, L.out⟩
            · have hmb : (mc != 0) = true := by rw [bne_iff_ne]; exact hm
              clear hm
              go_wp2_with (fail)
              refine (c3 _).mono ?_
              rintro e V0 ⟨rfl, rfl⟩
              go_wp2_with (fail)
              refine (c4 _).mono ?_
              rintro e V0 ⟨rfl, rfl⟩
              go_wp2_with (fail)
              refine (awake_any _ (ht.below L.out)).mono ?_
              rintro e w6 ⟨rfl, hB⟩
              replace L := Lib.hid (L.out.trans (hB.mono L.out.size))
              replace kA := Lib.hid (stays kA.out hB)
              replace kB := Lib.hid (stays kB.out hB)
              clear hB A0 A1 B0 B1
              have A0 := frO_0 kA.out
              have A1 := frO_1 kA.out
              have B0 := frO_0 kB.out
              have B1 := frO_1 kB.out
              go_wp2
              go_ret
              exact ⟨rfl, L.out⟩
          · have hnb : (nc != 0) = true := by rw [bne_iff_ne]; exact hn
            clear hn
            go_wp2_with (fail)
            refine (c3 _).mono ?_
            rintro e V0 ⟨rfl, rfl⟩
            go_wp2_with (fail)
            refine (c4 _).mono ?_
            rintro e V0 ⟨rfl, rfl⟩
            go_wp2_with (fail)
            refine (awake_any _ (ht.below L.out)).mono ?_
            rintro e w6 ⟨rfl, hB⟩
            replace L := Lib.hid (L.out.trans (hB.mono L.out.size))
            replace kA := Lib.hid (stays kA.out hB)
            replace kB := Lib.hid (stays kB.out hB)
            clear hB A0 A1 B0 B1
            have A0 := frO_0 kA.out
            have A1 := frO_1 kA.out
            have B0 := frO_0 kB.out
            have B1 := frO_1 kB.out
            go_wp2
            go_ret
            exact ⟨rfl, L.out⟩
    · have hdb : (bc != 0) = true := by rw [bne_iff_ne]; exact hd
      clear hd
      go_enter Tryd.func5, Tryd.ntmps5
      go_wp2_with (fail)
      refine (c1 _).mono ?_
      rintro e w1 ⟨rfl, hB⟩
      replace L := Lib.hid (L.out.trans (hB.mono L.out.size))
      clear hB 
      simp only [mkV]
      obtain ⟨gN, kA⟩ := box_new w1 (an) (ad)
      replace kA := Lib.hid kA
      have A0 := frO_0 kA.out
      have A1 := frO_1 kA.out
      go_wp2_with (fail)
      refine (c2 _).mono ?_
      rintro e w2 ⟨rfl, hB⟩
      replace L := Lib.hid (L.out.trans ((gN.trans (hB.mono gN.size)).mono L.out.size))
      replace kA := Lib.hid (stays kA.out hB)
      generalize w1.heap.size = xA at *
      clear gN
      clear hB A0 A1
      simp only [mkV]
      obtain ⟨gN, kB⟩ := box_new w2 (bn) (bd)
      replace kA := Lib.hid (stays kA.out gN)
      replace kB := Lib.hid kB
      have A0 := frO_0 kA.out
      have A1 := frO_1 kA.out
      have B0 := frO_0 kB.out
      have B1 := frO_1 kB.out
      go_wp2_with (fail)
      refine (awake_any _ (ht.below (L.out.trans (gN.mono L.out.size)))).mono ?_
      rintro e w3 ⟨rfl, hB⟩
      replace L := Lib.hid (L.out.trans ((gN.trans (hB.mono gN.size)).mono L.out.size))
      replace kA := Lib.hid (stays kA.out hB)
      replace kB := Lib.hid (stays kB.out hB)
      generalize w2.heap.size = xB at *
      clear gN
      clear hB A0 A1 B0 B1
      have A0 := frO_0 kA.out
      have A1 := frO_1 kA.out
      have B0 := frO_0 kB.out
      have B1 := frO_1 kB.out
      go_wp2
      go_ret
      exact ⟨rfl, L.out⟩
  · have hcb : (ac != 0) = true := by rw [bne_iff_ne]; exact hc
    clear hc
    go_enter Tryd.func5, Tryd.ntmps5
    go_wp2_with (fail)
    refine (c1 _).mono ?_
    rintro e w1 ⟨rfl, hB⟩
    replace L := Lib.hid (L.out.trans (hB.mono L.out.size))
    clear hB 
    simp only [mkV]
    obtain ⟨gN, kA⟩ := box_new w1 (an) (ad)
    replace kA := Lib.hid kA
    have A0 := frO_0 kA.out
    have A1 := frO_1 kA.out
    go_wp2_with (fail)
    refine (c2 _).mono ?_
    rintro e w2 ⟨rfl, hB⟩
    replace L := Lib.hid (L.out.trans ((gN.trans (hB.mono gN.size)).mono L.out.size))
    replace kA := Lib.hid (stays kA.out hB)
    generalize w1.heap.size = xA at *
    clear gN
    clear hB A0 A1
    simp only [mkV]
    obtain ⟨gN, kB⟩ := box_new w2 (bn) (bd)
    replace kA := Lib.hid (stays kA.out gN)
    replace kB := Lib.hid kB
    have A0 := frO_0 kA.out
    have A1 := frO_1 kA.out
    have B0 := frO_0 kB.out
    have B1 := frO_1 kB.out
    go_wp2_with (fail)
    refine (awake_any _ (ht.below (L.out.trans (gN.mono L.out.size)))).mono ?_
    rintro e w3 ⟨rfl, hB⟩
    replace L := Lib.hid (L.out.trans ((gN.trans (hB.mono gN.size)).mono L.out.size))
    replace kA := Lib.hid (stays kA.out hB)
    replace kB := Lib.hid (stays kB.out hB)
    generalize w2.heap.size = xB at *
    clear gN
    clear hB A0 A1 B0 B1
    have A0 := frO_0 kA.out
    have A1 := frO_1 kA.out
    have B0 := frO_0 kB.out
    have B1 := frO_1 kB.out
    go_wp2
    go_ret
    exact ⟨rfl, L.out⟩

end Go.Proofs.YtahfapeggijfkaaDoor
