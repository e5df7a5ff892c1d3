/- ScriptOneForm: the law, walked (by program: wip/tools/gen_slaw2.py). -/
import Derived.Test.YtaeoghagpeihkaaDoorSQ
import Derived.Test.YtaeoghagpeihkaaDoorSY
set_option linter.unusedSimpArgs false
set_option linter.unusedVariables false
namespace Go.Proofs.YtaeoghagpeihkaaDoor
open Go.RowKit

theorem printF_len {xs : List Stp} (h : SmS xs) : (printF xs).length ≤ 140737488355328 := by
  by_cases hall : ∀ s ∈ xs, fitS s = true
  · rw [printF_all hall]
    have h1 := lnF_len h.2
    have h2 := h.1
    unfold lnF at h1
    have h3 := Nat.mul_le_mul_right 16800000 h2
    omega
  · unfold printF
    rw [if_neg (by rw [List.all_eq_true]; exact hall)]
    simp

set_option maxRecDepth 100000 in
set_option maxHeartbeats 4000000 in
theorem law_ScriptOneForm (s : ByteArray) (w : World) (hs : s.size ≤ 281474976710656) (ht : TabT w) (he : ErrT w) : Calls Tryd.prog 5 #[.string s] w fun e w' => e = .returned (.bool true) ∧ Below w.heap.size w w' := by
  have HT := Lib.hid ht
  have HEE := Lib.hid he
  obtain ⟨p, hp⟩ : ∃ p, p = parseF s.data.toList := ⟨_, rfl⟩
  have hc1 := parse_any s w ht he hs
  rw [← hp] at hc1
  have HE0 : Hid (p.2.2 ≠ 0 → p.1 = []) := by show _ → _; rw [hp]; exact (parseF_ok _).2
  have HE1 : Hid (p.2.2 = 0 → SmS p.1 ∧ p.1.length ≤ 65536 ∧ ∀ s ∈ p.1, okS s) := by show _ → _; rw [hp]; exact parseF_sms
  have HE2 : Hid (p.2.2 = 0 → (printF p.1).length ≤ 1048576 → parseF (printF p.1) = (p.1, 0, 0)) := by show _ → _; rw [hp]; exact fun h1 h2 => parse_oneform h1 h2
  obtain ⟨out, ln, en⟩ := p
  have HC1 := Lib.hid hc1
  obtain ⟨n, hn⟩ : ∃ n, n = out.length := ⟨_, rfl⟩
  simp only [← hn] at HC1 HE1
  have HN := Lib.hid hn
  clear ht he hc1 hp hn
  go_enter Tryd.func5, Tryd.ntmps5
  go_wp2_with (fail)
  with_reducible refine HC1.out.mono ?_
  rintro e w1 ⟨v, rfl, ho1, hB1⟩
  obtain ⟨ab, cap, rfl⟩ := owns_form ho1
  have HB1 := Lib.hid hB1
  obtain ⟨g2, k2⟩ := new_block w1 (.cells #[.int .i64 (ln : Int), .int .i64 (en : Int)] 25)
  have HB2 := Lib.hid (HB1.out.trans (g2.mono HB1.out.size))
  have ho2 := owns_below ho1 g2
  rw [HN.out] at ho2
  have HO2 := Lib.hid ho2
  have f0 := cell_of_row _ _ 0 _ _ _ k2
  have f1 := cell_of_row _ _ 1 _ _ _ k2
  clear HC1 ho1 hB1 g2 ho2
  by_cases he0 : en = 0
  · subst he0
    obtain ⟨hsm, hn6, hok⟩ := HE1.out rfl
    have HOK := Lib.hid hok
    have HSM := Lib.hid hsm
    have hp := print_any (.slice ab n cap) out (w1.alloc (.cells #[.int .i64 (ln : Int), .int .i64 (0 : Int)] 25)) (by have h := OwnS.sps HO2.out; rw [← HN.out] at h; exact h) hsm (HT.out.below HB2.out)
    obtain ⟨pr, hpr⟩ : ∃ l, l = printF out := ⟨_, rfl⟩
    rw [← hpr] at hp
    have HP := Lib.hid hp
    have hsl : pr.length ≤ 140737488355328 := by rw [hpr]; exact printF_len hsm
    have hemp : 0 < n → ¬ pr = [] := by
      intro h0
      rw [hpr]
      exact printF_ne hok (fun e => by rw [HN.out, e] at h0; exact absurd h0 (by simp))
    have HPF : Hid (pr.length ≤ 1048576 → parseF pr = (out, 0, 0)) := by
      show _ → _
      intro h
      rw [hpr]
      exact HE2.out rfl (by rw [← hpr]; exact h)
    have HSB : Hid (printF out = pr) := by show _ = _; rw [hpr]
    clear hp hsm hpr hok HE1 HE2 HE0
    go_wp2_with (fail)
    with_reducible refine HP.out.mono ?_
    rintro e w2 ⟨rfl, hB2⟩
    have HB3 := Lib.hid (HB2.out.trans (hB2.mono HB2.out.size))
    have HO3 := Lib.hid (owns_below HO2.out hB2)
    have hk3 := stays k2 hB2
    have HW := Lib.hid (awake_any w2 (HT.out.below HB3.out) (HEE.out.below HB3.out))
    clear HP hB2 f0 f1 k2
    by_cases hbig : 1048576 < pr.length
    · have hbi : (1048576 : Int) < (pr.length : Int) := by omega
      by_cases hn0 : n = 0
      · subst hn0
        clear hemp hk3
        go_wp2_with (fail)
        with_reducible refine HW.out.mono ?_
        rintro e wz ⟨rfl, hBz⟩
        have HBz := Lib.hid (HB3.out.trans (hBz.mono HB3.out.size))
        clear HW hBz
        go_wp2_with (fail)
        go_ret
        exact ⟨rfl, HBz.out⟩
      · have hnz : 0 < n := by omega
        have hse := hemp hnz
        have hse3 : pr.isEmpty = false := by simpa using hse
        have hnzi : (0 : Int) < (n : Int) := by omega

        clear hemp hk3
        go_wp2_with (fail)
        with_reducible refine HW.out.mono ?_
        rintro e wz ⟨rfl, hBz⟩
        have HBz := Lib.hid (HB3.out.trans (hBz.mono HB3.out.size))
        clear HW hBz
        go_wp2_with (fail)
        go_ret
        exact ⟨rfl, HBz.out⟩
    · have hbi : ¬ (1048576 : Int) < (pr.length : Int) := by omega
      have hc := parse_any ⟨pr.toArray⟩ w2 (HT.out.below HB3.out) (HEE.out.below HB3.out) (by show pr.length ≤ _; omega)
      have hpf2 : parseF (⟨pr.toArray⟩ : ByteArray).data.toList = (out, 0, 0) := HPF.out (by omega)
      rw [hpf2] at hc
      have HC := Lib.hid hc
      clear HW hc HPF hpf2
      have go2 : True := trivial
      by_cases hn0 : n = 0
      · have HN0 := Lib.hid hn0
        have hnzi : ¬ (0 : Int) < (n : Int) := by omega
        clear hn0 hemp hk3
        go_wp2_with (fail)
        with_reducible refine HC.out.mono ?_
        rintro e w3 ⟨v3, rfl, ho3, hB3⟩
        simp only [← HN.out] at ho3
        obtain ⟨ab3, cap3, rfl⟩ := owns_form ho3
        obtain ⟨g4, k4⟩ := new_block w3 (.cells #[.int .i64 0, .int .i64 0] 25)
        have HB4 := Lib.hid (HB3.out.trans (hB3.mono HB3.out.size))
        have HB5 := Lib.hid (HB4.out.trans (g4.mono HB4.out.size))
        have ho4 := owns_below ho3 g4
        rw [HN.out] at ho4
        have HO4 := Lib.hid ho4
        have ho5 := owns_below (owns_below HO3.out hB3) g4
        have hsame := rsame_any _ _ out out (w3.alloc (.cells #[.int .i64 0, .int .i64 0] 25)) (OwnS.sps ho5) (OwnS.sps ho4)
        rw [sameR_iff.2 rfl] at hsame
        simp only [← HN.out] at hsame
        have HS := Lib.hid hsame
        have d0 := cell_of_row _ _ 0 _ _ _ k4
        have d1 := cell_of_row _ _ 1 _ _ _ k4
        clear HC ho3 hB3 g4 k4 ho4 ho5 hsame
        go_wp2_with (fail)
        with_reducible refine HS.out.mono ?_
        rintro e w5 ⟨rfl, hB6⟩
        have HB6 := Lib.hid (HB5.out.trans (hB6.mono HB5.out.size))
        have ho6 := owns_below HO4.out hB6
        have hpp := print_any _ out w5 (OwnS.sps ho6) HSM.out (HT.out.below HB6.out)
        simp only [HSB.out, ← HN.out] at hpp
        have HPP := Lib.hid hpp
        clear HS hB6 d0 d1 ho6 hpp
        go_wp2_with (fail)
        with_reducible refine HPP.out.mono ?_
        rintro e w6 ⟨rfl, hB7⟩
        have HB7 := Lib.hid (HB6.out.trans (hB7.mono HB6.out.size))
        have HW := Lib.hid (awake_any w6 (HT.out.below HB7.out) (HEE.out.below HB7.out))
        clear HPP hB7
        go_wp2_with (fail)
        with_reducible refine HW.out.mono ?_
        rintro e wz ⟨rfl, hBz⟩
        have HBz := Lib.hid (HB7.out.trans (hBz.mono HB7.out.size))
        clear HW hBz
        go_wp2_with (fail)
        go_ret
        exact ⟨rfl, HBz.out⟩
      · have hnz : 0 < n := by omega
        have hse := hemp hnz
        have hse3 : pr.isEmpty = false := by simpa using hse
        have hnzi : (0 : Int) < (n : Int) := by omega
        clear hemp hk3
        go_wp2_with (fail)
        with_reducible refine HC.out.mono ?_
        rintro e w3 ⟨v3, rfl, ho3, hB3⟩
        simp only [← HN.out] at ho3
        obtain ⟨ab3, cap3, rfl⟩ := owns_form ho3
        obtain ⟨g4, k4⟩ := new_block w3 (.cells #[.int .i64 0, .int .i64 0] 25)
        have HB4 := Lib.hid (HB3.out.trans (hB3.mono HB3.out.size))
        have HB5 := Lib.hid (HB4.out.trans (g4.mono HB4.out.size))
        have ho4 := owns_below ho3 g4
        rw [HN.out] at ho4
        have HO4 := Lib.hid ho4
        have ho5 := owns_below (owns_below HO3.out hB3) g4
        have hsame := rsame_any _ _ out out (w3.alloc (.cells #[.int .i64 0, .int .i64 0] 25)) (OwnS.sps ho5) (OwnS.sps ho4)
        rw [sameR_iff.2 rfl] at hsame
        simp only [← HN.out] at hsame
        have HS := Lib.hid hsame
        have d0 := cell_of_row _ _ 0 _ _ _ k4
        have d1 := cell_of_row _ _ 1 _ _ _ k4
        clear HC ho3 hB3 g4 k4 ho4 ho5 hsame
        go_wp2_with (fail)
        with_reducible refine HS.out.mono ?_
        rintro e w5 ⟨rfl, hB6⟩
        have HB6 := Lib.hid (HB5.out.trans (hB6.mono HB5.out.size))
        have ho6 := owns_below HO4.out hB6
        have hpp := print_any _ out w5 (OwnS.sps ho6) HSM.out (HT.out.below HB6.out)
        simp only [HSB.out, ← HN.out] at hpp
        have HPP := Lib.hid hpp
        clear HS hB6 d0 d1 ho6 hpp
        go_wp2_with (fail)
        with_reducible refine HPP.out.mono ?_
        rintro e w6 ⟨rfl, hB7⟩
        have HB7 := Lib.hid (HB6.out.trans (hB7.mono HB6.out.size))
        have HW := Lib.hid (awake_any w6 (HT.out.below HB7.out) (HEE.out.below HB7.out))
        clear HPP hB7
        go_wp2_with (fail)
        with_reducible refine HW.out.mono ?_
        rintro e wz ⟨rfl, hBz⟩
        have HBz := Lib.hid (HB7.out.trans (hBz.mono HB7.out.size))
        clear HW hBz
        go_wp2_with (fail)
        go_ret
        exact ⟨rfl, HBz.out⟩
  · have hne : ((en : Int) == 0) = false := by rw [beq_eq_false_iff_ne]; omega
    have hnb : ((en : Int) != 0) = true := by unfold bne; rw [hne]; rfl
    have ho := HE0.out he0
    have hn0 : n = 0 := by rw [HN.out]; show out.length = 0; rw [show out = [] from ho]; rfl
    subst hn0
    have HW := Lib.hid (awake_any (w1.alloc (.cells #[.int .i64 (ln : Int), .int .i64 (en : Int)] 25)) (HT.out.below HB2.out) (HEE.out.below HB2.out))
    clear ho HE0 HE1 HE2 HO2
    go_wp2_with (fail)
    with_reducible refine HW.out.mono ?_
    rintro e wz ⟨rfl, hBz⟩
    have HBz := Lib.hid (HB2.out.trans (hBz.mono HB2.out.size))
    clear HW hBz
    go_wp2_with (fail)
    go_ret
    exact ⟨rfl, HBz.out⟩

end Go.Proofs.YtaeoghagpeihkaaDoor

