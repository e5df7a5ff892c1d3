/- Contracts: the document's Input; Total and Variance on both sides (by program: wip/tools/gen_derive3.py). -/
import Derived.Test.YtahfapeggijfkaaDoorDerive2
import Derived.Test.YtahfapeggijfkaaDoorFracMath2
namespace Go.Proofs.YtahfapeggijfkaaDoor
open Go.RowKit

theorem inputF_kind {k x s : Int} (h : k < 1 ∨ 4 < k) : inputF k x s = (0, 46) := by unfold inputF; rw [if_pos h]
theorem inputF_scale {k x s : Int} (h : ¬ (k < 1 ∨ 4 < k)) (h1 : rsclB k s = false) : inputF k x s = (0, 47) := by unfold inputF; rw [if_neg h, h1]; rfl
theorem inputF_in {k x s : Int} (h : ¬ (k < 1 ∨ 4 < k)) (h1 : rsclB k s = true) : inputF k x s = if k = 2 then unitF x s else if k = 3 then squareF x s else timesF x s := by unfold inputF; rw [if_neg h, h1]; rfl
theorem timesF_no {x s : Int} (h : fitB x = false) : timesF x s = (0, 10) := by unfold timesF; rw [h]; rfl
theorem timesF_out {x s : Int} (h : fitB x = true) (h2 : fitB (x * s) = false) : timesF x s = (0, 10) := by unfold timesF; rw [h, h2]; rfl
theorem timesF_yes {x s : Int} (h : fitB x = true) (h2 : fitB (x * s) = true) : timesF x s = (x * s, 0) := by unfold timesF; rw [h, h2]; rfl
set_option maxRecDepth 100000 in
set_option maxHeartbeats 1000000 in
theorem rinput_any (kind x s : Int) (w : World) : Calls Tryd.prog 13 #[.int .i64 kind, .int .i64 x, .int .i64 s] w fun e w' => e = .returned (numV (inputF kind x s)) ∧ w = w' := by
  have c1 : ∀ W, _ := fun W => rscale_any kind s W
  have c2 : ∀ W, _ := fun W => rfits_any x W
  have c3 : ∀ W, _ := fun W => rfits_any (x * s) W
  by_cases k1 : kind < 1
  · rw [inputF_kind (.inl k1)]
    clear c1 c2 c3
    go_enter Tryd.func13, Tryd.ntmps13
    go_wp2
    go_ret2
    exact ⟨rfl, rfl⟩
  by_cases k4 : 4 < kind
  · rw [inputF_kind (.inr k4)]
    clear c1 c2 c3
    go_enter Tryd.func13, Tryd.ntmps13
    go_wp2
    go_ret2
    exact ⟨rfl, rfl⟩
  have hk : ¬ (kind < 1 ∨ 4 < kind) := by omega
  cases h1 : rsclB kind s
  · rw [inputF_scale hk h1]
    rw [h1] at c1
    clear hk h1 c2 c3
    go_enter Tryd.func13, Tryd.ntmps13
    go_wp2_with (fail)
    refine (c1 _).mono ?_
    rintro e w2 ⟨rfl, rfl⟩
    go_wp2
    go_ret2
    exact ⟨rfl, rfl⟩
  rw [inputF_in hk h1]
  obtain ⟨s1, s2⟩ : 1 ≤ s ∧ s ≤ 1048576 := by
    unfold rsclB at h1
    rw [Bool.and_eq_true] at h1
    exact sclB_of h1.1
  have c4 : kind = 1 ∨ kind = 2 ∨ kind = 3 ∨ (kind = 4 ∧ s = 1) := by
    unfold rsclB at h1
    rw [Bool.and_eq_true, Bool.or_eq_true, bne_iff_ne, beq_iff_eq] at h1
    omega
  rw [h1] at c1
  clear h1 hk k1 k4
  rcases c4 with rfl | rfl | rfl | ⟨rfl, rfl⟩
  · rw [if_neg (by omega), if_neg (by omega)]
    cases h2 : fitB x
    · rw [timesF_no h2]
      rw [h2] at c2
      clear h2 c3
      go_enter Tryd.func13, Tryd.ntmps13
      go_wp2_with (fail)
      refine (c1 _).mono ?_
      rintro e w2 ⟨rfl, rfl⟩
      go_wp2_with (fail)
      refine (c2 _).mono ?_
      rintro e w2 ⟨rfl, rfl⟩
      go_wp2
      go_ret2
      exact ⟨rfl, rfl⟩
    · rw [h2] at c2
      obtain ⟨e1, e2⟩ := fitB_of h2
      obtain ⟨m1, m2⟩ := mul_sc e1 e2 s1 s2
      cases h3 : fitB (x * s)
      · rw [timesF_out h2 h3]
        rw [h3] at c3
        clear h2 h3
        go_enter Tryd.func13, Tryd.ntmps13
        go_wp2_with (fail)
        refine (c1 _).mono ?_
        rintro e w2 ⟨rfl, rfl⟩
        go_wp2_with (fail)
        refine (c2 _).mono ?_
        rintro e w2 ⟨rfl, rfl⟩
        go_wp2_with (fail)
        refine (c3 _).mono ?_
        rintro e w2 ⟨rfl, rfl⟩
        go_wp2
        go_ret2
        exact ⟨rfl, rfl⟩
      · rw [timesF_yes h2 h3]
        rw [h3] at c3
        clear h2 h3
        go_enter Tryd.func13, Tryd.ntmps13
        go_wp2_with (fail)
        refine (c1 _).mono ?_
        rintro e w2 ⟨rfl, rfl⟩
        go_wp2_with (fail)
        refine (c2 _).mono ?_
        rintro e w2 ⟨rfl, rfl⟩
        go_wp2_with (fail)
        refine (c3 _).mono ?_
        rintro e w2 ⟨rfl, rfl⟩
        go_wp2
        go_ret2
        exact ⟨rfl, rfl⟩
  · rw [if_pos rfl]
    by_cases hu : x ≠ 0 ∧ x ≠ 1
    · have hF : unitF x s = (0, 49) := by unfold unitF; rw [if_pos hu]
      rw [hF]
      have b0 : (x != 0) = true := by rw [bne_iff_ne]; exact hu.1
      have b1 : (x != 1) = true := by rw [bne_iff_ne]; exact hu.2
      clear hF hu c2 c3
      go_enter Tryd.func13, Tryd.ntmps13
      go_wp2_with (fail)
      refine (c1 _).mono ?_
      rintro e w2 ⟨rfl, rfl⟩
      go_wp2
      go_ret2
      exact ⟨rfl, rfl⟩
    · have hF : unitF x s = timesF x s := by unfold unitF; rw [if_neg hu]
      rw [hF]
      have hx : x = 0 ∨ x = 1 := by omega
      have h2 : fitB x = true := by rcases hx with rfl | rfl <;> decide
      have h3 : fitB (x * s) = true := by rcases hx with rfl | rfl <;> exact fitB_t (by omega) (by omega)
      rw [timesF_yes h2 h3]
      rw [h2] at c2
      rw [h3] at c3
      obtain ⟨e1, e2⟩ := fitB_of h2
      obtain ⟨m1, m2⟩ := mul_sc e1 e2 s1 s2
      clear hF hu h2 h3
      by_cases h0 : x = 0
      · have b0 : (x != 0) = false := by rw [h0]; rfl
        clear h0 hx
        go_enter Tryd.func13, Tryd.ntmps13
        go_wp2_with (fail)
        refine (c1 _).mono ?_
        rintro e w2 ⟨rfl, rfl⟩
        go_wp2_with (fail)
        refine (c2 _).mono ?_
        rintro e w2 ⟨rfl, rfl⟩
        go_wp2_with (fail)
        refine (c3 _).mono ?_
        rintro e w2 ⟨rfl, rfl⟩
        go_wp2
        go_ret2
        exact ⟨rfl, rfl⟩
      · have b0 : (x != 0) = true := by rw [bne_iff_ne]; exact h0
        have b1 : (x != 1) = false := by rw [show x = 1 by omega]; rfl
        clear h0 hx
        go_enter Tryd.func13, Tryd.ntmps13
        go_wp2_with (fail)
        refine (c1 _).mono ?_
        rintro e w2 ⟨rfl, rfl⟩
        go_wp2_with (fail)
        refine (c2 _).mono ?_
        rintro e w2 ⟨rfl, rfl⟩
        go_wp2_with (fail)
        refine (c3 _).mono ?_
        rintro e w2 ⟨rfl, rfl⟩
        go_wp2
        go_ret2
        exact ⟨rfl, rfl⟩
  · rw [if_neg (by omega), if_pos rfl]
    clear c3
    cases h2 : fitB x
    · have hF : squareF x s = (0, 10) := by unfold squareF; rw [h2]; rfl
      rw [hF]
      rw [h2] at c2
      clear h2 hF
      go_enter Tryd.func13, Tryd.ntmps13
      go_wp2_with (fail)
      refine (c1 _).mono ?_
      rintro e w2 ⟨rfl, rfl⟩
      go_wp2_with (fail)
      refine (c2 _).mono ?_
      rintro e w2 ⟨rfl, rfl⟩
      go_wp2
      go_ret2
      exact ⟨rfl, rfl⟩
    · have hF : squareF x s = timesF (x * x) s := by unfold squareF; rw [h2]; rfl
      rw [hF]
      rw [h2] at c2
      obtain ⟨e1, e2⟩ := fitB_of h2
      obtain ⟨m1, m2⟩ := mul_bd e1 e2 e1 e2
      have c3 : ∀ W, _ := fun W => rfits_any (x * x) W
      cases h3 : fitB (x * x)
      · rw [timesF_no h3]
        rw [h3] at c3
        clear h2 h3 hF
        go_enter Tryd.func13, Tryd.ntmps13
        go_wp2_with (fail)
        refine (c1 _).mono ?_
        rintro e w2 ⟨rfl, rfl⟩
        go_wp2_with (fail)
        refine (c2 _).mono ?_
        rintro e w2 ⟨rfl, rfl⟩
        go_wp2_with (fail)
        refine (c3 _).mono ?_
        rintro e w2 ⟨rfl, rfl⟩
        go_wp2
        go_ret2
        exact ⟨rfl, rfl⟩
      · rw [h3] at c3
        obtain ⟨f1, f2⟩ := fitB_of h3
        obtain ⟨n1, n2⟩ := mul_sc f1 f2 s1 s2
        have c5 : ∀ W, _ := fun W => rfits_any (x * x * s) W
        cases h4 : fitB (x * x * s)
        · rw [timesF_out h3 h4]
          rw [h4] at c5
          clear h2 h3 h4 hF
          go_enter Tryd.func13, Tryd.ntmps13
          go_wp2_with (fail)
          refine (c1 _).mono ?_
          rintro e w2 ⟨rfl, rfl⟩
          go_wp2_with (fail)
          refine (c2 _).mono ?_
          rintro e w2 ⟨rfl, rfl⟩
          go_wp2_with (fail)
          refine (c3 _).mono ?_
          rintro e w2 ⟨rfl, rfl⟩
          go_wp2_with (fail)
          refine (c5 _).mono ?_
          rintro e w2 ⟨rfl, rfl⟩
          go_wp2
          go_ret2
          exact ⟨rfl, rfl⟩
        · rw [timesF_yes h3 h4]
          rw [h4] at c5
          clear h2 h3 h4 hF
          go_enter Tryd.func13, Tryd.ntmps13
          go_wp2_with (fail)
          refine (c1 _).mono ?_
          rintro e w2 ⟨rfl, rfl⟩
          go_wp2_with (fail)
          refine (c2 _).mono ?_
          rintro e w2 ⟨rfl, rfl⟩
          go_wp2_with (fail)
          refine (c3 _).mono ?_
          rintro e w2 ⟨rfl, rfl⟩
          go_wp2_with (fail)
          refine (c5 _).mono ?_
          rintro e w2 ⟨rfl, rfl⟩
          go_wp2
          go_ret2
          exact ⟨rfl, rfl⟩
  · rw [if_neg (by omega), if_neg (by omega)]
    clear c3
    cases h2 : fitB x
    · rw [timesF_no h2]
      rw [h2] at c2
      clear h2
      go_enter Tryd.func13, Tryd.ntmps13
      go_wp2_with (fail)
      refine (c1 _).mono ?_
      rintro e w2 ⟨rfl, rfl⟩
      go_wp2_with (fail)
      refine (c2 _).mono ?_
      rintro e w2 ⟨rfl, rfl⟩
      go_wp2
      go_ret2
      exact ⟨rfl, rfl⟩
    · have hF : timesF x 1 = (x, 0) := by rw [timesF_yes h2 (by rw [Int.mul_one]; exact h2), Int.mul_one]
      rw [hF]
      rw [h2] at c2
      clear h2 hF
      go_enter Tryd.func13, Tryd.ntmps13
      go_wp2_with (fail)
      refine (c1 _).mono ?_
      rintro e w2 ⟨rfl, rfl⟩
      go_wp2_with (fail)
      refine (c2 _).mono ?_
      rintro e w2 ⟨rfl, rfl⟩
      go_wp2_with (fail)
      refine (c2 _).mono ?_
      rintro e w2 ⟨rfl, rfl⟩
      go_wp2
      go_ret2
      exact ⟨rfl, rfl⟩

/-- Total -/
def totalF (n d c : Int) : (Int × Int) × Int := if Val n d then (if fitB c then mkF (n * c) (d * 1) else ((0, 0), 10)) else ((0, 0), 20)
/-- Variance -/
def varF (sn sd mn md : Int) : (Int × Int) × Int := if Val sn sd ∧ Val mn md then (if (mkF (mn * mn) (md * md)).2 = 0 then mkF (sn * (mkF (mn * mn) (md * md)).1.2 - (mkF (mn * mn) (md * md)).1.1 * sd) (sd * (mkF (mn * mn) (md * md)).1.2) else ((0, 0), (mkF (mn * mn) (md * md)).2)) else ((0, 0), 20)
theorem valB_no {n d : Int} (h : ¬ Val n d) : valB n d = false := by rw [valB, decide_eq_false_iff_not]; exact h

set_option maxRecDepth 100000 in
set_option maxHeartbeats 1000000 in
theorem total_any (an ad c : Int) (w : World) (han0 : -9223372036854775808 ≤ an) (han1 : an < 9223372036854775808) (had0 : -9223372036854775808 ≤ ad) (had1 : ad < 9223372036854775808) :
    Calls Tryd.prog 19 #[frV an ad, .int .i64 c] w fun e w' => e = .returned (mkV (totalF an ad c)) ∧ Below w.heap.size w w' := by
  have c1 : ∀ W, _ := fun W => valid_any an ad W han0 han1 had0 had1
  have c2 : ∀ W, _ := fun W => fits_any c W
  by_cases hv : Val an ad
  · rw [(valB_iff an ad).2 hv] at c1
    cases hc : fitB c
    · have hF : totalF an ad c = ((0, 0), 10) := by unfold totalF; rw [if_pos hv, hc]; rfl
      rw [hF]
      rw [hc] at c2
      clear hF hc hv
      obtain ⟨g0, kA, kR⟩ := enter2 w an ad 0 0
      have L := Lib.hid g0
      replace kA := Lib.hid kA
      replace kR := Lib.hid kR
      clear g0
      have A0 := frO_0 kA.out
      have A1 := frO_1 kA.out
      have R0 := frO_0 kR.out
      have R1 := frO_1 kR.out
      go_enter Tryd.func19, Tryd.ntmps19
      go_wp2_with (fail)
      refine (c1 _).mono ?_
      rintro e w1 ⟨rfl, hB⟩
      replace L := Lib.hid (L.out.trans (hB.mono L.out.size))
      replace kA := Lib.hid (stays kA.out hB)
      replace kR := Lib.hid (stays kR.out hB)
      clear hB A0 A1 R0 R1
      have A0 := frO_0 kA.out
      have A1 := frO_1 kA.out
      have R0 := frO_0 kR.out
      have R1 := frO_1 kR.out
      go_wp2_with (fail)
      refine (c2 _).mono ?_
      rintro e W2 ⟨rfl, rfl⟩
      have fR0 := frz0 kR.out
      have fR1 := frz1 kR.out
      go_wp2
      exact bodyPost_ret (v := .tuple #[frV 0 0, .int .i64 10]) (by simp [results, Tryd.results19, go_sem, *]) rfl ⟨rfl, bel_set (by omega) (bel_set (by omega) (L.out))⟩
    · have hF : totalF an ad c = mkF (an * c) (ad * 1) := by unfold totalF; rw [if_pos hv, hc]; rfl
      rw [hF]
      rw [hc] at c2
      obtain ⟨e1, e2⟩ := fitB_of hc
      have c3 : ∀ W, _ := fun W => mul_any an ad c 1 W hv.fit ⟨e1, e2, by omega, by omega⟩
      obtain ⟨⟨⟨t1, t2⟩, t3⟩, hT⟩ : ∃ r, mkF (an * c) (ad * 1) = r := ⟨_, rfl⟩
      rw [hT] at c3 ⊢
      clear hF hc hv hT
      obtain ⟨g0, kA, kR⟩ := enter2 w an ad 0 0
      have L := Lib.hid g0
      replace kA := Lib.hid kA
      replace kR := Lib.hid kR
      clear g0
      have A0 := frO_0 kA.out
      have A1 := frO_1 kA.out
      have R0 := frO_0 kR.out
      have R1 := frO_1 kR.out
      go_enter Tryd.func19, Tryd.ntmps19
      go_wp2_with (fail)
      refine (c1 _).mono ?_
      rintro e w1 ⟨rfl, hB⟩
      replace L := Lib.hid (L.out.trans (hB.mono L.out.size))
      replace kA := Lib.hid (stays kA.out hB)
      replace kR := Lib.hid (stays kR.out hB)
      clear hB A0 A1 R0 R1
      have A0 := frO_0 kA.out
      have A1 := frO_1 kA.out
      have R0 := frO_0 kR.out
      have R1 := frO_1 kR.out
      go_wp2_with (fail)
      refine (c2 _).mono ?_
      rintro e W2 ⟨rfl, rfl⟩
      go_wp2_with (fail)
      refine (c3 _).mono ?_
      rintro e w2 ⟨rfl, hB⟩
      replace L := Lib.hid (L.out.trans (hB.mono L.out.size))
      replace kA := Lib.hid (stays kA.out hB)
      replace kR := Lib.hid (stays kR.out hB)
      clear hB A0 A1 R0 R1
      simp only [mkV]
      have A0 := frO_0 kA.out
      have A1 := frO_1 kA.out
      have R0 := frO_0 kR.out
      have R1 := frO_1 kR.out
      have fR0 := frz0 kR.out
      have fR1 := frz1 kR.out
      go_wp2
      exact bodyPost_ret (v := .tuple #[frV t1 t2, .int .i64 t3]) (by simp [results, Tryd.results19, go_sem, *]) rfl ⟨rfl, bel_set (by omega) (bel_set (by omega) (L.out))⟩
  · have hF : totalF an ad c = ((0, 0), 20) := by unfold totalF; rw [if_neg hv]
    rw [hF]
    rw [valB_no hv] at c1
    clear hF hv c2
    obtain ⟨g0, kA, kR⟩ := enter2 w an ad 0 0
    have L := Lib.hid g0
    replace kA := Lib.hid kA
    replace kR := Lib.hid kR
    clear g0
    have A0 := frO_0 kA.out
    have A1 := frO_1 kA.out
    have R0 := frO_0 kR.out
    have R1 := frO_1 kR.out
    go_enter Tryd.func19, Tryd.ntmps19
    go_wp2_with (fail)
    refine (c1 _).mono ?_
    rintro e w1 ⟨rfl, hB⟩
    replace L := Lib.hid (L.out.trans (hB.mono L.out.size))
    replace kA := Lib.hid (stays kA.out hB)
    replace kR := Lib.hid (stays kR.out hB)
    clear hB A0 A1 R0 R1
    have A0 := frO_0 kA.out
    have A1 := frO_1 kA.out
    have R0 := frO_0 kR.out
    have R1 := frO_1 kR.out
    have fR0 := frz0 kR.out
    have fR1 := frz1 kR.out
    go_wp2
    exact bodyPost_ret (v := .tuple #[frV 0 0, .int .i64 20]) (by simp [results, Tryd.results19, go_sem, *]) rfl ⟨rfl, bel_set (by omega) (bel_set (by omega) (L.out))⟩
set_option maxRecDepth 100000 in
set_option maxHeartbeats 1000000 in
theorem rtotal_any (an ad c : Int) (w : World) (han0 : -9223372036854775808 ≤ an) (han1 : an < 9223372036854775808) (had0 : -9223372036854775808 ≤ ad) (had1 : ad < 9223372036854775808) :
    Calls Tryd.prog 20 #[frV an ad, .int .i64 c] w fun e w' => e = .returned (mkV (totalF an ad c)) ∧ Below w.heap.size w w' := by
  have c1 : ∀ W, _ := fun W => rvalid_any an ad W han0 han1 had0 had1
  have c2 : ∀ W, _ := fun W => rfits_any c W
  by_cases hv : Val an ad
  · rw [(valB_iff an ad).2 hv] at c1
    cases hc : fitB c
    · have hF : totalF an ad c = ((0, 0), 10) := by unfold totalF; rw [if_pos hv, hc]; rfl
      rw [hF]
      rw [hc] at c2
      clear hF hc hv
      obtain ⟨g0, kA, kR⟩ := enter2 w an ad 0 0
      have L := Lib.hid g0
      replace kA := Lib.hid kA
      replace kR := Lib.hid kR
      clear g0
      have A0 := frO_0 kA.out
      have A1 := frO_1 kA.out
      have R0 := frO_0 kR.out
      have R1 := frO_1 kR.out
      go_enter Tryd.func20, Tryd.ntmps20
      go_wp2_with (fail)
      refine (c1 _).mono ?_
      rintro e w1 ⟨rfl, hB⟩
      replace L := Lib.hid (L.out.trans (hB.mono L.out.size))
      replace kA := Lib.hid (stays kA.out hB)
      replace kR := Lib.hid (stays kR.out hB)
      clear hB A0 A1 R0 R1
      have A0 := frO_0 kA.out
      have A1 := frO_1 kA.out
      have R0 := frO_0 kR.out
      have R1 := frO_1 kR.out
      go_wp2_with (fail)
      refine (c2 _).mono ?_
      rintro e W2 ⟨rfl, rfl⟩
      have fR0 := frz0 kR.out
      have fR1 := frz1 kR.out
      go_wp2
      exact bodyPost_ret (v := .tuple #[frV 0 0, .int .i64 10]) (by simp [results, Tryd.results20, go_sem, *]) rfl ⟨rfl, bel_set (by omega) (bel_set (by omega) (L.out))⟩
    · have hF : totalF an ad c = mkF (an * c) (ad * 1) := by unfold totalF; rw [if_pos hv, hc]; rfl
      rw [hF]
      rw [hc] at c2
      obtain ⟨e1, e2⟩ := fitB_of hc
      have c3 : ∀ W, _ := fun W => rmul_any an ad c 1 W hv.fit ⟨e1, e2, by omega, by omega⟩
      obtain ⟨⟨⟨t1, t2⟩, t3⟩, hT⟩ : ∃ r, mkF (an * c) (ad * 1) = r := ⟨_, rfl⟩
      rw [hT] at c3 ⊢
      clear hF hc hv hT
      obtain ⟨g0, kA, kR⟩ := enter2 w an ad 0 0
      have L := Lib.hid g0
      replace kA := Lib.hid kA
      replace kR := Lib.hid kR
      clear g0
      have A0 := frO_0 kA.out
      have A1 := frO_1 kA.out
      have R0 := frO_0 kR.out
      have R1 := frO_1 kR.out
      go_enter Tryd.func20, Tryd.ntmps20
      go_wp2_with (fail)
      refine (c1 _).mono ?_
      rintro e w1 ⟨rfl, hB⟩
      replace L := Lib.hid (L.out.trans (hB.mono L.out.size))
      replace kA := Lib.hid (stays kA.out hB)
      replace kR := Lib.hid (stays kR.out hB)
      clear hB A0 A1 R0 R1
      have A0 := frO_0 kA.out
      have A1 := frO_1 kA.out
      have R0 := frO_0 kR.out
      have R1 := frO_1 kR.out
      go_wp2_with (fail)
      refine (c2 _).mono ?_
      rintro e W2 ⟨rfl, rfl⟩
      go_wp2_with (fail)
      refine (c3 _).mono ?_
      rintro e w2 ⟨rfl, hB⟩
      replace L := Lib.hid (L.out.trans (hB.mono L.out.size))
      replace kA := Lib.hid (stays kA.out hB)
      replace kR := Lib.hid (stays kR.out hB)
      clear hB A0 A1 R0 R1
      simp only [mkV]
      have A0 := frO_0 kA.out
      have A1 := frO_1 kA.out
      have R0 := frO_0 kR.out
      have R1 := frO_1 kR.out
      have fR0 := frz0 kR.out
      have fR1 := frz1 kR.out
      go_wp2
      exact bodyPost_ret (v := .tuple #[frV t1 t2, .int .i64 t3]) (by simp [results, Tryd.results20, go_sem, *]) rfl ⟨rfl, bel_set (by omega) (bel_set (by omega) (L.out))⟩
  · have hF : totalF an ad c = ((0, 0), 20) := by unfold totalF; rw [if_neg hv]
    rw [hF]
    rw [valB_no hv] at c1
    clear hF hv c2
    obtain ⟨g0, kA, kR⟩ := enter2 w an ad 0 0
    have L := Lib.hid g0
    replace kA := Lib.hid kA
    replace kR := Lib.hid kR
    clear g0
    have A0 := frO_0 kA.out
    have A1 := frO_1 kA.out
    have R0 := frO_0 kR.out
    have R1 := frO_1 kR.out
    go_enter Tryd.func20, Tryd.ntmps20
    go_wp2_with (fail)
    refine (c1 _).mono ?_
    rintro e w1 ⟨rfl, hB⟩
    replace L := Lib.hid (L.out.trans (hB.mono L.out.size))
    replace kA := Lib.hid (stays kA.out hB)
    replace kR := Lib.hid (stays kR.out hB)
    clear hB A0 A1 R0 R1
    have A0 := frO_0 kA.out
    have A1 := frO_1 kA.out
    have R0 := frO_0 kR.out
    have R1 := frO_1 kR.out
    have fR0 := frz0 kR.out
    have fR1 := frz1 kR.out
    go_wp2
    exact bodyPost_ret (v := .tuple #[frV 0 0, .int .i64 20]) (by simp [results, Tryd.results20, go_sem, *]) rfl ⟨rfl, bel_set (by omega) (bel_set (by omega) (L.out))⟩
set_option maxRecDepth 100000 in
set_option maxHeartbeats 1000000 in
theorem var_any (an ad bn bd : Int) (w : World) (han0 : -9223372036854775808 ≤ an) (han1 : an < 9223372036854775808) (had0 : -9223372036854775808 ≤ ad) (had1 : ad < 9223372036854775808) (hbn0 : -9223372036854775808 ≤ bn) (hbn1 : bn < 9223372036854775808) (hbd0 : -9223372036854775808 ≤ bd) (hbd1 : bd < 9223372036854775808) :
    Calls Tryd.prog 21 #[frV an ad, frV bn bd] w fun e w' => e = .returned (mkV (varF an ad bn bd)) ∧ Below w.heap.size w w' := by
  have c1 : ∀ W, _ := fun W => valid_any an ad W han0 han1 had0 had1
  have c2 : ∀ W, _ := fun W => valid_any bn bd W hbn0 hbn1 hbd0 hbd1
  by_cases hv : Val an ad
  · rw [(valB_iff an ad).2 hv] at c1
    by_cases hu : Val bn bd
    · rw [(valB_iff bn bd).2 hu] at c2
      have hF : varF an ad bn bd = if (mkF (bn * bn) (bd * bd)).2 = 0 then mkF (an * (mkF (bn * bn) (bd * bd)).1.2 - (mkF (bn * bn) (bd * bd)).1.1 * ad) (ad * (mkF (bn * bn) (bd * bd)).1.2) else ((0, 0), (mkF (bn * bn) (bd * bd)).2) := by unfold varF; rw [if_pos ⟨hv, hu⟩]
      have c3 : ∀ W, _ := fun W => mul_any bn bd bn bd W hu.fit hu.fit
      obtain ⟨⟨⟨qn, qd⟩, qc⟩, hq⟩ : ∃ r, mkF (bn * bn) (bd * bd) = r := ⟨_, rfl⟩
      rw [hq] at c3 hF
      have fq := fit_mk hq
      simp only at hF
      clear hq hu
      by_cases hz : qc = 0
      · subst hz
        rw [if_pos rfl] at hF
        rw [hF]
        have c4 : ∀ W, _ := fun W => sub_any an ad qn qd W hv.fit fq
        obtain ⟨⟨⟨t1, t2⟩, t3⟩, hT⟩ : ∃ r, mkF (an * qd - qn * ad) (ad * qd) = r := ⟨_, rfl⟩
        rw [hT] at c4 ⊢
        clear hF hv hT fq
        obtain ⟨g0, kA, kB, kR⟩ := enter3 w an ad bn bd 0 0
        have L := Lib.hid g0
        replace kA := Lib.hid kA
        replace kB := Lib.hid kB
        replace kR := Lib.hid kR
        clear g0
        have A0 := frO_0 kA.out
        have A1 := frO_1 kA.out
        have B0 := frO_0 kB.out
        have B1 := frO_1 kB.out
        have R0 := frO_0 kR.out
        have R1 := frO_1 kR.out
        go_enter Tryd.func21, Tryd.ntmps21
        go_wp2_with (fail)
        refine (c1 _).mono ?_
        rintro e w1 ⟨rfl, hB⟩
        replace L := Lib.hid (L.out.trans (hB.mono L.out.size))
        replace kA := Lib.hid (stays kA.out hB)
        replace kB := Lib.hid (stays kB.out hB)
        replace kR := Lib.hid (stays kR.out hB)
        clear hB A0 A1 B0 B1 R0 R1
        have A0 := frO_0 kA.out
        have A1 := frO_1 kA.out
        have B0 := frO_0 kB.out
        have B1 := frO_1 kB.out
        have R0 := frO_0 kR.out
        have R1 := frO_1 kR.out
        go_wp2_with (fail)
        refine (c2 _).mono ?_
        rintro e w2 ⟨rfl, hB⟩
        replace L := Lib.hid (L.out.trans (hB.mono L.out.size))
        replace kA := Lib.hid (stays kA.out hB)
        replace kB := Lib.hid (stays kB.out hB)
        replace kR := Lib.hid (stays kR.out hB)
        clear hB A0 A1 B0 B1 R0 R1
        have A0 := frO_0 kA.out
        have A1 := frO_1 kA.out
        have B0 := frO_0 kB.out
        have B1 := frO_1 kB.out
        have R0 := frO_0 kR.out
        have R1 := frO_1 kR.out
        go_wp2_with (fail)
        refine (c3 _).mono ?_
        rintro e w3 ⟨rfl, hB⟩
        replace L := Lib.hid (L.out.trans (hB.mono L.out.size))
        replace kA := Lib.hid (stays kA.out hB)
        replace kB := Lib.hid (stays kB.out hB)
        replace kR := Lib.hid (stays kR.out hB)
        clear hB A0 A1 B0 B1 R0 R1
        simp only [mkV]
        obtain ⟨gN, kQ⟩ := box_new w3 (qn) (qd)
        replace kA := Lib.hid (stays kA.out gN)
        replace kB := Lib.hid (stays kB.out gN)
        replace kR := Lib.hid (stays kR.out gN)
        replace kQ := Lib.hid kQ
        have A0 := frO_0 kA.out
        have A1 := frO_1 kA.out
        have B0 := frO_0 kB.out
        have B1 := frO_1 kB.out
        have R0 := frO_0 kR.out
        have R1 := frO_1 kR.out
        have Q0 := frO_0 kQ.out
        have Q1 := frO_1 kQ.out
        go_wp2_with (fail)
        refine (c4 _).mono ?_
        rintro e w4 ⟨rfl, hB⟩
        replace L := Lib.hid (L.out.trans ((gN.trans (hB.mono gN.size)).mono L.out.size))
        replace kA := Lib.hid (stays kA.out hB)
        replace kB := Lib.hid (stays kB.out hB)
        replace kR := Lib.hid (stays kR.out hB)
        replace kQ := Lib.hid (stays kQ.out hB)
        generalize w3.heap.size = xQ at *
        clear gN
        clear hB A0 A1 B0 B1 R0 R1 Q0 Q1
        simp only [mkV]
        have A0 := frO_0 kA.out
        have A1 := frO_1 kA.out
        have B0 := frO_0 kB.out
        have B1 := frO_1 kB.out
        have R0 := frO_0 kR.out
        have R1 := frO_1 kR.out
        have Q0 := frO_0 kQ.out
        have Q1 := frO_1 kQ.out
        have fR0 := frz0 kR.out
        have fR1 := frz1 kR.out
        go_wp2
        exact bodyPost_ret (v := .tuple #[frV t1 t2, .int .i64 t3]) (by simp [results, Tryd.results21, go_sem, *]) rfl ⟨rfl, bel_set (by omega) (bel_set (by omega) (L.out))⟩
      · rw [if_neg hz] at hF
        rw [hF]
        have hzb : (qc != 0) = true := by rw [bne_iff_ne]; exact hz
        clear hF hv hz fq
        obtain ⟨g0, kA, kB, kR⟩ := enter3 w an ad bn bd 0 0
        have L := Lib.hid g0
        replace kA := Lib.hid kA
        replace kB := Lib.hid kB
        replace kR := Lib.hid kR
        clear g0
        have A0 := frO_0 kA.out
        have A1 := frO_1 kA.out
        have B0 := frO_0 kB.out
        have B1 := frO_1 kB.out
        have R0 := frO_0 kR.out
        have R1 := frO_1 kR.out
        go_enter Tryd.func21, Tryd.ntmps21
        go_wp2_with (fail)
        refine (c1 _).mono ?_
        rintro e w1 ⟨rfl, hB⟩
        replace L := Lib.hid (L.out.trans (hB.mono L.out.size))
        replace kA := Lib.hid (stays kA.out hB)
        replace kB := Lib.hid (stays kB.out hB)
        replace kR := Lib.hid (stays kR.out hB)
        clear hB A0 A1 B0 B1 R0 R1
        have A0 := frO_0 kA.out
        have A1 := frO_1 kA.out
        have B0 := frO_0 kB.out
        have B1 := frO_1 kB.out
        have R0 := frO_0 kR.out
        have R1 := frO_1 kR.out
        go_wp2_with (fail)
        refine (c2 _).mono ?_
        rintro e w2 ⟨rfl, hB⟩
        replace L := Lib.hid (L.out.trans (hB.mono L.out.size))
        replace kA := Lib.hid (stays kA.out hB)
        replace kB := Lib.hid (stays kB.out hB)
        replace kR := Lib.hid (stays kR.out hB)
        clear hB A0 A1 B0 B1 R0 R1
        have A0 := frO_0 kA.out
        have A1 := frO_1 kA.out
        have B0 := frO_0 kB.out
        have B1 := frO_1 kB.out
        have R0 := frO_0 kR.out
        have R1 := frO_1 kR.out
        go_wp2_with (fail)
        refine (c3 _).mono ?_
        rintro e w3 ⟨rfl, hB⟩
        replace L := Lib.hid (L.out.trans (hB.mono L.out.size))
        replace kA := Lib.hid (stays kA.out hB)
        replace kB := Lib.hid (stays kB.out hB)
        replace kR := Lib.hid (stays kR.out hB)
        clear hB A0 A1 B0 B1 R0 R1
        simp only [mkV]
        obtain ⟨gN, kQ⟩ := box_new w3 (qn) (qd)
        replace kA := Lib.hid (stays kA.out gN)
        replace kB := Lib.hid (stays kB.out gN)
        replace kR := Lib.hid (stays kR.out gN)
        replace kQ := Lib.hid kQ
        have A0 := frO_0 kA.out
        have A1 := frO_1 kA.out
        have B0 := frO_0 kB.out
        have B1 := frO_1 kB.out
        have R0 := frO_0 kR.out
        have R1 := frO_1 kR.out
        have Q0 := frO_0 kQ.out
        have Q1 := frO_1 kQ.out
        have fR0 := frz0 kR.out
        have fR1 := frz1 kR.out
        go_wp2
        exact bodyPost_ret (v := .tuple #[frV 0 0, .int .i64 qc]) (by simp [results, Tryd.results21, go_sem, *]) rfl ⟨rfl, bel_set (by omega) (bel_set (by omega) (L.out.trans (gN.mono L.out.size)))⟩
    · have hF : varF an ad bn bd = ((0, 0), 20) := by unfold varF; rw [if_neg (fun h => hu h.2)]
      rw [hF]
      rw [valB_no hu] at c2
      clear hF hv hu
      obtain ⟨g0, kA, kB, kR⟩ := enter3 w an ad bn bd 0 0
      have L := Lib.hid g0
      replace kA := Lib.hid kA
      replace kB := Lib.hid kB
      replace kR := Lib.hid kR
      clear g0
      have A0 := frO_0 kA.out
      have A1 := frO_1 kA.out
      have B0 := frO_0 kB.out
      have B1 := frO_1 kB.out
      have R0 := frO_0 kR.out
      have R1 := frO_1 kR.out
      go_enter Tryd.func21, Tryd.ntmps21
      go_wp2_with (fail)
      refine (c1 _).mono ?_
      rintro e w1 ⟨rfl, hB⟩
      replace L := Lib.hid (L.out.trans (hB.mono L.out.size))
      replace kA := Lib.hid (stays kA.out hB)
      replace kB := Lib.hid (stays kB.out hB)
      replace kR := Lib.hid (stays kR.out hB)
      clear hB A0 A1 B0 B1 R0 R1
      have A0 := frO_0 kA.out
      have A1 := frO_1 kA.out
      have B0 := frO_0 kB.out
      have B1 := frO_1 kB.out
      have R0 := frO_0 kR.out
      have R1 := frO_1 kR.out
      go_wp2_with (fail)
      refine (c2 _).mono ?_
      rintro e w2 ⟨rfl, hB⟩
      replace L := Lib.hid (L.out.trans (hB.mono L.out.size))
      replace kA := Lib.hid (stays kA.out hB)
      replace kB := Lib.hid (stays kB.out hB)
      replace kR := Lib.hid (stays kR.out hB)
      clear hB A0 A1 B0 B1 R0 R1
      have A0 := frO_0 kA.out
      have A1 := frO_1 kA.out
      have B0 := frO_0 kB.out
      have B1 := frO_1 kB.out
      have R0 := frO_0 kR.out
      have R1 := frO_1 kR.out
      have fR0 := frz0 kR.out
      have fR1 := frz1 kR.out
      go_wp2
      exact bodyPost_ret (v := .tuple #[frV 0 0, .int .i64 20]) (by simp [results, Tryd.results21, go_sem, *]) rfl ⟨rfl, bel_set (by omega) (bel_set (by omega) (L.out))⟩
  · have hF : varF an ad bn bd = ((0, 0), 20) := by unfold varF; rw [if_neg (fun h => hv h.1)]
    rw [hF]
    rw [valB_no hv] at c1
    clear hF hv c2
    obtain ⟨g0, kA, kB, kR⟩ := enter3 w an ad bn bd 0 0
    have L := Lib.hid g0
    replace kA := Lib.hid kA
    replace kB := Lib.hid kB
    replace kR := Lib.hid kR
    clear g0
    have A0 := frO_0 kA.out
    have A1 := frO_1 kA.out
    have B0 := frO_0 kB.out
    have B1 := frO_1 kB.out
    have R0 := frO_0 kR.out
    have R1 := frO_1 kR.out
    go_enter Tryd.func21, Tryd.ntmps21
    go_wp2_with (fail)
    refine (c1 _).mono ?_
    rintro e w1 ⟨rfl, hB⟩
    replace L := Lib.hid (L.out.trans (hB.mono L.out.size))
    replace kA := Lib.hid (stays kA.out hB)
    replace kB := Lib.hid (stays kB.out hB)
    replace kR := Lib.hid (stays kR.out hB)
    clear hB A0 A1 B0 B1 R0 R1
    have A0 := frO_0 kA.out
    have A1 := frO_1 kA.out
    have B0 := frO_0 kB.out
    have B1 := frO_1 kB.out
    have R0 := frO_0 kR.out
    have R1 := frO_1 kR.out
    have fR0 := frz0 kR.out
    have fR1 := frz1 kR.out
    go_wp2
    exact bodyPost_ret (v := .tuple #[frV 0 0, .int .i64 20]) (by simp [results, Tryd.results21, go_sem, *]) rfl ⟨rfl, bel_set (by omega) (bel_set (by omega) (L.out))⟩
set_option maxRecDepth 100000 in
set_option maxHeartbeats 1000000 in
theorem rvar_any (an ad bn bd : Int) (w : World) (han0 : -9223372036854775808 ≤ an) (han1 : an < 9223372036854775808) (had0 : -9223372036854775808 ≤ ad) (had1 : ad < 9223372036854775808) (hbn0 : -9223372036854775808 ≤ bn) (hbn1 : bn < 9223372036854775808) (hbd0 : -9223372036854775808 ≤ bd) (hbd1 : bd < 9223372036854775808) :
    Calls Tryd.prog 22 #[frV an ad, frV bn bd] w fun e w' => e = .returned (mkV (varF an ad bn bd)) ∧ Below w.heap.size w w' := by
  have c1 : ∀ W, _ := fun W => rvalid_any an ad W han0 han1 had0 had1
  have c2 : ∀ W, _ := fun W => rvalid_any bn bd W hbn0 hbn1 hbd0 hbd1
  by_cases hv : Val an ad
  · rw [(valB_iff an ad).2 hv] at c1
    by_cases hu : Val bn bd
    · rw [(valB_iff bn bd).2 hu] at c2
      have hF : varF an ad bn bd = if (mkF (bn * bn) (bd * bd)).2 = 0 then mkF (an * (mkF (bn * bn) (bd * bd)).1.2 - (mkF (bn * bn) (bd * bd)).1.1 * ad) (ad * (mkF (bn * bn) (bd * bd)).1.2) else ((0, 0), (mkF (bn * bn) (bd * bd)).2) := by unfold varF; rw [if_pos ⟨hv, hu⟩]
      have c3 : ∀ W, _ := fun W => rmul_any bn bd bn bd W hu.fit hu.fit
      obtain ⟨⟨⟨qn, qd⟩, qc⟩, hq⟩ : ∃ r, mkF (bn * bn) (bd * bd) = r := ⟨_, rfl⟩
      rw [hq] at c3 hF
      have fq := fit_mk hq
      simp only at hF
      clear hq hu
      by_cases hz : qc = 0
      · subst hz
        rw [if_pos rfl] at hF
        rw [hF]
        have c4 : ∀ W, _ := fun W => rsub_any an ad qn qd W hv.fit fq
        obtain ⟨⟨⟨t1, t2⟩, t3⟩, hT⟩ : ∃ r, mkF (an * qd - qn * ad) (ad * qd) = r := ⟨_, rfl⟩
        rw [hT] at c4 ⊢
        clear hF hv hT fq
        obtain ⟨g0, kA, kB, kR⟩ := enter3 w an ad bn bd 0 0
        have L := Lib.hid g0
        replace kA := Lib.hid kA
        replace kB := Lib.hid kB
        replace kR := Lib.hid kR
        clear g0
        have A0 := frO_0 kA.out
        have A1 := frO_1 kA.out
        have B0 := frO_0 kB.out
        have B1 := frO_1 kB.out
        have R0 := frO_0 kR.out
        have R1 := frO_1 kR.out
        go_enter Tryd.func22, Tryd.ntmps22
        go_wp2_with (fail)
        refine (c1 _).mono ?_
        rintro e w1 ⟨rfl, hB⟩
        replace L := Lib.hid (L.out.trans (hB.mono L.out.size))
        replace kA := Lib.hid (stays kA.out hB)
        replace kB := Lib.hid (stays kB.out hB)
        replace kR := Lib.hid (stays kR.out hB)
        clear hB A0 A1 B0 B1 R0 R1
        have A0 := frO_0 kA.out
        have A1 := frO_1 kA.out
        have B0 := frO_0 kB.out
        have B1 := frO_1 kB.out
        have R0 := frO_0 kR.out
        have R1 := frO_1 kR.out
        go_wp2_with (fail)
        refine (c2 _).mono ?_
        rintro e w2 ⟨rfl, hB⟩
        replace L := Lib.hid (L.out.trans (hB.mono L.out.size))
        replace kA := Lib.hid (stays kA.out hB)
        replace kB := Lib.hid (stays kB.out hB)
        replace kR := Lib.hid (stays kR.out hB)
        clear hB A0 A1 B0 B1 R0 R1
        have A0 := frO_0 kA.out
        have A1 := frO_1 kA.out
        have B0 := frO_0 kB.out
        have B1 := frO_1 kB.out
        have R0 := frO_0 kR.out
        have R1 := frO_1 kR.out
        go_wp2_with (fail)
        refine (c3 _).mono ?_
        rintro e w3 ⟨rfl, hB⟩
        replace L := Lib.hid (L.out.trans (hB.mono L.out.size))
        replace kA := Lib.hid (stays kA.out hB)
        replace kB := Lib.hid (stays kB.out hB)
        replace kR := Lib.hid (stays kR.out hB)
        clear hB A0 A1 B0 B1 R0 R1
        simp only [mkV]
        obtain ⟨gN, kQ⟩ := box_new w3 (qn) (qd)
        replace kA := Lib.hid (stays kA.out gN)
        replace kB := Lib.hid (stays kB.out gN)
        replace kR := Lib.hid (stays kR.out gN)
        replace kQ := Lib.hid kQ
        have A0 := frO_0 kA.out
        have A1 := frO_1 kA.out
        have B0 := frO_0 kB.out
        have B1 := frO_1 kB.out
        have R0 := frO_0 kR.out
        have R1 := frO_1 kR.out
        have Q0 := frO_0 kQ.out
        have Q1 := frO_1 kQ.out
        go_wp2_with (fail)
        refine (c4 _).mono ?_
        rintro e w4 ⟨rfl, hB⟩
        replace L := Lib.hid (L.out.trans ((gN.trans (hB.mono gN.size)).mono L.out.size))
        replace kA := Lib.hid (stays kA.out hB)
        replace kB := Lib.hid (stays kB.out hB)
        replace kR := Lib.hid (stays kR.out hB)
        replace kQ := Lib.hid (stays kQ.out hB)
        generalize w3.heap.size = xQ at *
        clear gN
        clear hB A0 A1 B0 B1 R0 R1 Q0 Q1
        simp only [mkV]
        have A0 := frO_0 kA.out
        have A1 := frO_1 kA.out
        have B0 := frO_0 kB.out
        have B1 := frO_1 kB.out
        have R0 := frO_0 kR.out
        have R1 := frO_1 kR.out
        have Q0 := frO_0 kQ.out
        have Q1 := frO_1 kQ.out
        have fR0 := frz0 kR.out
        have fR1 := frz1 kR.out
        go_wp2
        exact bodyPost_ret (v := .tuple #[frV t1 t2, .int .i64 t3]) (by simp [results, Tryd.results22, go_sem, *]) rfl ⟨rfl, bel_set (by omega) (bel_set (by omega) (L.out))⟩
      · rw [if_neg hz] at hF
        rw [hF]
        have hzb : (qc != 0) = true := by rw [bne_iff_ne]; exact hz
        clear hF hv hz fq
        obtain ⟨g0, kA, kB, kR⟩ := enter3 w an ad bn bd 0 0
        have L := Lib.hid g0
        replace kA := Lib.hid kA
        replace kB := Lib.hid kB
        replace kR := Lib.hid kR
        clear g0
        have A0 := frO_0 kA.out
        have A1 := frO_1 kA.out
        have B0 := frO_0 kB.out
        have B1 := frO_1 kB.out
        have R0 := frO_0 kR.out
        have R1 := frO_1 kR.out
        go_enter Tryd.func22, Tryd.ntmps22
        go_wp2_with (fail)
        refine (c1 _).mono ?_
        rintro e w1 ⟨rfl, hB⟩
        replace L := Lib.hid (L.out.trans (hB.mono L.out.size))
        replace kA := Lib.hid (stays kA.out hB)
        replace kB := Lib.hid (stays kB.out hB)
        replace kR := Lib.hid (stays kR.out hB)
        clear hB A0 A1 B0 B1 R0 R1
        have A0 := frO_0 kA.out
        have A1 := frO_1 kA.out
        have B0 := frO_0 kB.out
        have B1 := frO_1 kB.out
        have R0 := frO_0 kR.out
        have R1 := frO_1 kR.out
        go_wp2_with (fail)
        refine (c2 _).mono ?_
        rintro e w2 ⟨rfl, hB⟩
        replace L := Lib.hid (L.out.trans (hB.mono L.out.size))
        replace kA := Lib.hid (stays kA.out hB)
        replace kB := Lib.hid (stays kB.out hB)
        replace kR := Lib.hid (stays kR.out hB)
        clear hB A0 A1 B0 B1 R0 R1
        have A0 := frO_0 kA.out
        have A1 := frO_1 kA.out
        have B0 := frO_0 kB.out
        have B1 := frO_1 kB.out
        have R0 := frO_0 kR.out
        have R1 := frO_1 kR.out
        go_wp2_with (fail)
        refine (c3 _).mono ?_
        rintro e w3 ⟨rfl, hB⟩
        replace L := Lib.hid (L.out.trans (hB.mono L.out.size))
        replace kA := Lib.hid (stays kA.out hB)
        replace kB := Lib.hid (stays kB.out hB)
        replace kR := Lib.hid (stays kR.out hB)
        clear hB A0 A1 B0 B1 R0 R1
        simp only [mkV]
        obtain ⟨gN, kQ⟩ := box_new w3 (qn) (qd)
        replace kA := Lib.hid (stays kA.out gN)
        replace kB := Lib.hid (stays kB.out gN)
        replace kR := Lib.hid (stays kR.out gN)
        replace kQ := Lib.hid kQ
        have A0 := frO_0 kA.out
        have A1 := frO_1 kA.out
        have B0 := frO_0 kB.out
        have B1 := frO_1 kB.out
        have R0 := frO_0 kR.out
        have R1 := frO_1 kR.out
        have Q0 := frO_0 kQ.out
        have Q1 := frO_1 kQ.out
        have fR0 := frz0 kR.out
        have fR1 := frz1 kR.out
        go_wp2
        exact bodyPost_ret (v := .tuple #[frV 0 0, .int .i64 qc]) (by simp [results, Tryd.results22, go_sem, *]) rfl ⟨rfl, bel_set (by omega) (bel_set (by omega) (L.out.trans (gN.mono L.out.size)))⟩
    · have hF : varF an ad bn bd = ((0, 0), 20) := by unfold varF; rw [if_neg (fun h => hu h.2)]
      rw [hF]
      rw [valB_no hu] at c2
      clear hF hv hu
      obtain ⟨g0, kA, kB, kR⟩ := enter3 w an ad bn bd 0 0
      have L := Lib.hid g0
      replace kA := Lib.hid kA
      replace kB := Lib.hid kB
      replace kR := Lib.hid kR
      clear g0
      have A0 := frO_0 kA.out
      have A1 := frO_1 kA.out
      have B0 := frO_0 kB.out
      have B1 := frO_1 kB.out
      have R0 := frO_0 kR.out
      have R1 := frO_1 kR.out
      go_enter Tryd.func22, Tryd.ntmps22
      go_wp2_with (fail)
      refine (c1 _).mono ?_
      rintro e w1 ⟨rfl, hB⟩
      replace L := Lib.hid (L.out.trans (hB.mono L.out.size))
      replace kA := Lib.hid (stays kA.out hB)
      replace kB := Lib.hid (stays kB.out hB)
      replace kR := Lib.hid (stays kR.out hB)
      clear hB A0 A1 B0 B1 R0 R1
      have A0 := frO_0 kA.out
      have A1 := frO_1 kA.out
      have B0 := frO_0 kB.out
      have B1 := frO_1 kB.out
      have R0 := frO_0 kR.out
      have R1 := frO_1 kR.out
      go_wp2_with (fail)
      refine (c2 _).mono ?_
      rintro e w2 ⟨rfl, hB⟩
      replace L := Lib.hid (L.out.trans (hB.mono L.out.size))
      replace kA := Lib.hid (stays kA.out hB)
      replace kB := Lib.hid (stays kB.out hB)
      replace kR := Lib.hid (stays kR.out hB)
      clear hB A0 A1 B0 B1 R0 R1
      have A0 := frO_0 kA.out
      have A1 := frO_1 kA.out
      have B0 := frO_0 kB.out
      have B1 := frO_1 kB.out
      have R0 := frO_0 kR.out
      have R1 := frO_1 kR.out
      have fR0 := frz0 kR.out
      have fR1 := frz1 kR.out
      go_wp2
      exact bodyPost_ret (v := .tuple #[frV 0 0, .int .i64 20]) (by simp [results, Tryd.results22, go_sem, *]) rfl ⟨rfl, bel_set (by omega) (bel_set (by omega) (L.out))⟩
  · have hF : varF an ad bn bd = ((0, 0), 20) := by unfold varF; rw [if_neg (fun h => hv h.1)]
    rw [hF]
    rw [valB_no hv] at c1
    clear hF hv c2
    obtain ⟨g0, kA, kB, kR⟩ := enter3 w an ad bn bd 0 0
    have L := Lib.hid g0
    replace kA := Lib.hid kA
    replace kB := Lib.hid kB
    replace kR := Lib.hid kR
    clear g0
    have A0 := frO_0 kA.out
    have A1 := frO_1 kA.out
    have B0 := frO_0 kB.out
    have B1 := frO_1 kB.out
    have R0 := frO_0 kR.out
    have R1 := frO_1 kR.out
    go_enter Tryd.func22, Tryd.ntmps22
    go_wp2_with (fail)
    refine (c1 _).mono ?_
    rintro e w1 ⟨rfl, hB⟩
    replace L := Lib.hid (L.out.trans (hB.mono L.out.size))
    replace kA := Lib.hid (stays kA.out hB)
    replace kB := Lib.hid (stays kB.out hB)
    replace kR := Lib.hid (stays kR.out hB)
    clear hB A0 A1 B0 B1 R0 R1
    have A0 := frO_0 kA.out
    have A1 := frO_1 kA.out
    have B0 := frO_0 kB.out
    have B1 := frO_1 kB.out
    have R0 := frO_0 kR.out
    have R1 := frO_1 kR.out
    have fR0 := frz0 kR.out
    have fR1 := frz1 kR.out
    go_wp2
    exact bodyPost_ret (v := .tuple #[frV 0 0, .int .i64 20]) (by simp [results, Tryd.results22, go_sem, *]) rfl ⟨rfl, bel_set (by omega) (bel_set (by omega) (L.out))⟩

end Go.Proofs.YtahfapeggijfkaaDoor
