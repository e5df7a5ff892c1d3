/- Contracts of the small functions of derive and of the document's answer to it. -/
import Derived.Test.YtahfapeggijfkaaDoorFracBox
import Derived.Outline
namespace Go.Proofs.YtahfapeggijfkaaDoor
open Go.RowKit

def fitB (x : Int) : Bool := decide (-2147483647 ≤ x ∧ x ≤ 2147483647)
def sclB (x : Int) : Bool := decide (1 ≤ x ∧ x ≤ 1048576)
theorem fitB_t {x : Int} (h1 : -2147483647 ≤ x) (h2 : x ≤ 2147483647) : fitB x = true := decide_eq_true ⟨h1, h2⟩
theorem fitB_f {x : Int} (h : ¬ (-2147483647 ≤ x ∧ x ≤ 2147483647)) : fitB x = false := decide_eq_false h
theorem fitB_of {x : Int} (h : fitB x = true) : -2147483647 ≤ x ∧ x ≤ 2147483647 := of_decide_eq_true h
theorem sclB_t {x : Int} (h1 : 1 ≤ x) (h2 : x ≤ 1048576) : sclB x = true := decide_eq_true ⟨h1, h2⟩
theorem sclB_f {x : Int} (h : ¬ (1 ≤ x ∧ x ≤ 1048576)) : sclB x = false := decide_eq_false h
theorem sclB_of {x : Int} (h : sclB x = true) : 1 ≤ x ∧ x ≤ 1048576 := of_decide_eq_true h

theorem fits_any (x : Int) (w : World) : Calls Tryd.prog 36 #[.int .i64 x] w fun e w' => e = .returned (.bool (fitB x)) ∧ w = w' := by
  by_cases h1 : -2147483647 ≤ x
  · by_cases h2 : x ≤ 2147483647
    · rw [fitB_t h1 h2]
      go_enter Tryd.func36, Tryd.ntmps36
      go_wp2
      go_ret
      exact ⟨rfl, rfl⟩
    · rw [fitB_f (by omega)]
      go_enter Tryd.func36, Tryd.ntmps36
      go_wp2
      go_ret
      exact ⟨rfl, rfl⟩
  · rw [fitB_f (by omega)]
    go_enter Tryd.func36, Tryd.ntmps36
    go_wp2
    go_ret
    exact ⟨rfl, rfl⟩
theorem rfits_any (x : Int) (w : World) : Calls Tryd.prog 26 #[.int .i64 x] w fun e w' => e = .returned (.bool (fitB x)) ∧ w = w' := by
  by_cases h1 : -2147483647 ≤ x
  · by_cases h2 : x ≤ 2147483647
    · rw [fitB_t h1 h2]
      go_enter Tryd.func26, Tryd.ntmps26
      go_wp2
      go_ret
      exact ⟨rfl, rfl⟩
    · rw [fitB_f (by omega)]
      go_enter Tryd.func26, Tryd.ntmps26
      go_wp2
      go_ret
      exact ⟨rfl, rfl⟩
  · rw [fitB_f (by omega)]
    go_enter Tryd.func26, Tryd.ntmps26
    go_wp2
    go_ret
    exact ⟨rfl, rfl⟩
theorem scaled_any (x : Int) (w : World) : Calls Tryd.prog 29 #[.int .i64 x] w fun e w' => e = .returned (.bool (sclB x)) ∧ w = w' := by
  by_cases h1 : 1 ≤ x
  · by_cases h2 : x ≤ 1048576
    · rw [sclB_t h1 h2]
      go_enter Tryd.func29, Tryd.ntmps29
      go_wp2
      go_ret
      exact ⟨rfl, rfl⟩
    · rw [sclB_f (by omega)]
      go_enter Tryd.func29, Tryd.ntmps29
      go_wp2
      go_ret
      exact ⟨rfl, rfl⟩
  · rw [sclB_f (by omega)]
    go_enter Tryd.func29, Tryd.ntmps29
    go_wp2
    go_ret
    exact ⟨rfl, rfl⟩
theorem rscaled_any (x : Int) (w : World) : Calls Tryd.prog 25 #[.int .i64 x] w fun e w' => e = .returned (.bool (sclB x)) ∧ w = w' := by
  by_cases h1 : 1 ≤ x
  · by_cases h2 : x ≤ 1048576
    · rw [sclB_t h1 h2]
      go_enter Tryd.func25, Tryd.ntmps25
      go_wp2
      go_ret
      exact ⟨rfl, rfl⟩
    · rw [sclB_f (by omega)]
      go_enter Tryd.func25, Tryd.ntmps25
      go_wp2
      go_ret
      exact ⟨rfl, rfl⟩
  · rw [sclB_f (by omega)]
    go_enter Tryd.func25, Tryd.ntmps25
    go_wp2
    go_ret
    exact ⟨rfl, rfl⟩
/-- is a scale fit for a kind? -/
def rsclB (kind x : Int) : Bool := sclB x && (kind != 4 || x == 1)
theorem rscale_any (kind x : Int) (w : World) : Calls Tryd.prog 30 #[.int .i64 kind, .int .i64 x] w fun e w' => e = .returned (.bool (rsclB kind x)) ∧ w = w' := by
  unfold rsclB
  by_cases h1 : 1 ≤ x
  · by_cases h2 : x ≤ 1048576
    · rw [sclB_t h1 h2]
      by_cases h3 : kind = 4
      · subst h3
        by_cases h4 : x = 1
        · subst h4
          go_enter Tryd.func30, Tryd.ntmps30
          go_wp2
          go_ret
          exact ⟨rfl, rfl⟩
        · have h5 : (x == 1) = false := by rw [beq_eq_false_iff_ne]; exact h4
          rw [h5]
          go_enter Tryd.func30, Tryd.ntmps30
          go_wp2
          go_ret
          exact ⟨rfl, rfl⟩
      · have h5 : (kind != 4) = true := by rw [bne_iff_ne]; exact h3
        rw [h5]
        clear h3
        go_enter Tryd.func30, Tryd.ntmps30
        go_wp2
        go_ret
        exact ⟨rfl, rfl⟩
    · rw [sclB_f (by omega)]
      go_enter Tryd.func30, Tryd.ntmps30
      go_wp2
      go_ret
      exact ⟨rfl, rfl⟩
  · rw [sclB_f (by omega)]
    go_enter Tryd.func30, Tryd.ntmps30
    go_wp2
    go_ret
    exact ⟨rfl, rfl⟩

/-- what is wrong with an estimate and a scale -/
def wrongF (e s : Int) : Int := if sclB s then (if fitB e then 0 else 10) else 47
theorem wrong_any (e s : Int) (w : World) : Calls Tryd.prog 23 #[.int .i64 e, .int .i64 s] w fun r w' => r = .returned (.int .i64 (wrongF e s)) ∧ w = w' := by
  have c1 : ∀ W, _ := fun W => scaled_any s W
  have c2 : ∀ W, _ := fun W => fits_any e W
  cases h1 : sclB s
  · have hF : wrongF e s = 47 := by unfold wrongF; rw [h1]; rfl
    rw [hF]
    rw [h1] at c1
    clear hF h1 c2
    go_enter Tryd.func23, Tryd.ntmps23
    go_wp2_with (fail)
    refine (c1 _).mono ?_
    rintro r w1 ⟨rfl, rfl⟩
    go_wp2
    go_ret
    exact ⟨rfl, rfl⟩
  · rw [h1] at c1
    cases h2 : fitB e
    · have hF : wrongF e s = 10 := by unfold wrongF; rw [h1, h2]; rfl
      rw [hF]
      rw [h2] at c2
      clear hF h1 h2
      go_enter Tryd.func23, Tryd.ntmps23
      go_wp2_with (fail)
      refine (c1 _).mono ?_
      rintro r w1 ⟨rfl, rfl⟩
      go_wp2_with (fail)
      refine (c2 _).mono ?_
      rintro r w1 ⟨rfl, rfl⟩
      go_wp2
      go_ret
      exact ⟨rfl, rfl⟩
    · have hF : wrongF e s = 0 := by unfold wrongF; rw [h1, h2]; rfl
      rw [hF]
      rw [h2] at c2
      clear hF h1 h2
      go_enter Tryd.func23, Tryd.ntmps23
      go_wp2_with (fail)
      refine (c1 _).mono ?_
      rintro r w1 ⟨rfl, rfl⟩
      go_wp2_with (fail)
      refine (c2 _).mono ?_
      rintro r w1 ⟨rfl, rfl⟩
      go_wp2
      go_ret
      exact ⟨rfl, rfl⟩

/-- Mean -/
def meanF (e s : Int) : (Int × Int) × Int := if wrongF e s = 0 then mkF e s else ((0, 0), wrongF e s)
theorem meanF_no {e s : Int} (h : wrongF e s ≠ 0) : meanF e s = ((0, 0), wrongF e s) := by unfold meanF; rw [if_neg h]
theorem meanF_yes {e s : Int} (h : wrongF e s = 0) : meanF e s = mkF e s := by unfold meanF; rw [if_pos h]
theorem wrongF_0 {e s : Int} (h : wrongF e s = 0) : sclB s = true ∧ fitB e = true := by
  unfold wrongF at h
  cases h1 : sclB s <;> cases h2 : fitB e <;> simp_all
theorem wrongF_bd {e s : Int} (h : wrongF e s = 0) : (1 ≤ s ∧ s ≤ 1048576) ∧ -2147483647 ≤ e ∧ e ≤ 2147483647 := ⟨sclB_of (wrongF_0 h).1, fitB_of (wrongF_0 h).2⟩

set_option maxRecDepth 100000 in
theorem mean_any (x s : Int) (w : World) : Calls Tryd.prog 8 #[.int .i64 x, .int .i64 s] w fun e w' => e = .returned (mkV (meanF x s)) ∧ Below w.heap.size w w' := by
  have c1 : ∀ W, _ := fun W => wrong_any x s W
  by_cases h0 : wrongF x s = 0
  · rw [meanF_yes h0]
    rw [h0] at c1
    obtain ⟨⟨s1, s2⟩, e1, e2⟩ := wrongF_bd h0
    have c2 : ∀ W, _ := fun W => make_any x s W (by omega) (by omega) (by omega) (by omega)
    obtain ⟨⟨⟨t1, t2⟩, t3⟩, hT⟩ : ∃ r, mkF x s = r := ⟨_, rfl⟩
    rw [hT] at c2 ⊢
    clear hT h0
    obtain ⟨g0, k0⟩ := box_new w 0 0
    have L := Lib.hid g0
    have K := Lib.hid k0
    clear g0 k0
    go_enter Tryd.func8, Tryd.ntmps8
    go_wp2_with (fail)
    refine (c1 _).mono ?_
    rintro r w1 ⟨rfl, rfl⟩
    go_wp2_with (fail)
    refine (c2 _).mono ?_
    rintro r w1 ⟨rfl, hB⟩
    have HB := Lib.hid (L.out.trans (hB.mono L.out.size))
    have K1 := Lib.hid (stays K.out hB)
    clear hB
    have a0 := frO_0 K1.out
    have a1 := frO_1 K1.out
    have f0 := frz0 K1.out
    have f1 := frz1 K1.out
    go_wp2
    exact bodyPost_ret (v := .tuple #[frV t1 t2, .int .i64 t3]) (by simp [results, Tryd.results8, go_sem, *]) rfl ⟨rfl, bel_set (Nat.le_refl _) (bel_set (Nat.le_refl _) HB.out)⟩
  · rw [meanF_no h0]
    have hb : (wrongF x s != 0) = true := by rw [bne_iff_ne]; exact h0
    clear h0
    generalize wrongF x s = W0 at *
    go_enter Tryd.func8, Tryd.ntmps8
    go_wp2_with (fail)
    refine (c1 _).mono ?_
    rintro r w1 ⟨rfl, rfl⟩
    go_wp2
    exact bodyPost_ret (v := .tuple #[frV 0 0, .int .i64 W0]) (by simp [results, Tryd.results8, go_sem, *]) rfl ⟨rfl, (Below.refl _ _).alloc (Nat.le_refl _) _⟩
set_option maxRecDepth 100000 in
theorem rmean_any (x s : Int) (w : World) : Calls Tryd.prog 9 #[.int .i64 x, .int .i64 s] w fun e w' => e = .returned (mkV (meanF x s)) ∧ Below w.heap.size w w' := by
  have c1 : ∀ W, _ := fun W => rscaled_any s W
  have c3 : ∀ W, _ := fun W => rfits_any x W
  cases h1 : sclB s
  · have hF : meanF x s = ((0, 0), 47) := by unfold meanF wrongF; rw [h1]; rfl
    rw [hF]
    rw [h1] at c1
    clear hF h1 c3
    go_enter Tryd.func9, Tryd.ntmps9
    go_wp2_with (fail)
    refine (c1 _).mono ?_
    rintro r w1 ⟨rfl, rfl⟩
    go_wp2
    exact bodyPost_ret (v := .tuple #[frV 0 0, .int .i64 47]) (by simp [results, Tryd.results9, go_sem, *]) rfl ⟨rfl, (Below.refl _ _).alloc (Nat.le_refl _) _⟩
  · rw [h1] at c1
    cases h2 : fitB x
    · have hF : meanF x s = ((0, 0), 10) := by unfold meanF wrongF; rw [h1, h2]; rfl
      rw [hF]
      rw [h2] at c3
      clear hF h1 h2
      go_enter Tryd.func9, Tryd.ntmps9
      go_wp2_with (fail)
      refine (c1 _).mono ?_
      rintro r w1 ⟨rfl, rfl⟩
      go_wp2_with (fail)
      refine (c3 _).mono ?_
      rintro r w1 ⟨rfl, rfl⟩
      go_wp2
      exact bodyPost_ret (v := .tuple #[frV 0 0, .int .i64 10]) (by simp [results, Tryd.results9, go_sem, *]) rfl ⟨rfl, (Below.refl _ _).alloc (Nat.le_refl _) _⟩
    · have hF : meanF x s = mkF x s := meanF_yes (by unfold wrongF; rw [h1, h2]; rfl)
      rw [hF]
      rw [h2] at c3
      obtain ⟨s1, s2⟩ := sclB_of h1
      obtain ⟨e1, e2⟩ := fitB_of h2
      have c2 : ∀ W, _ := fun W => rmake_any x s W (by omega) (by omega) (by omega) (by omega)
      obtain ⟨⟨⟨t1, t2⟩, t3⟩, hT⟩ : ∃ r, mkF x s = r := ⟨_, rfl⟩
      rw [hT] at c2 ⊢
      clear hT hF h1 h2
      obtain ⟨g0, k0⟩ := box_new w 0 0
      have L := Lib.hid g0
      have K := Lib.hid k0
      clear g0 k0
      go_enter Tryd.func9, Tryd.ntmps9
      go_wp2_with (fail)
      refine (c1 _).mono ?_
      rintro r w1 ⟨rfl, rfl⟩
      go_wp2_with (fail)
      refine (c3 _).mono ?_
      rintro r w1 ⟨rfl, rfl⟩
      go_wp2_with (fail)
      refine (c2 _).mono ?_
      rintro r w1 ⟨rfl, hB⟩
      have HB := Lib.hid (L.out.trans (hB.mono L.out.size))
      have K1 := Lib.hid (stays K.out hB)
      clear hB
      have a0 := frO_0 K1.out
      have a1 := frO_1 K1.out
      have f0 := frz0 K1.out
      have f1 := frz1 K1.out
      go_wp2
      exact bodyPost_ret (v := .tuple #[frV t1 t2, .int .i64 t3]) (by simp [results, Tryd.results9, go_sem, *]) rfl ⟨rfl, bel_set (Nat.le_refl _) (bel_set (Nat.le_refl _) HB.out)⟩

/-- Count -/
def countF (e s : Int) : Int × Int := if wrongF e s = 0 then (if e ≤ 0 then (0, 50) else ((2 * s + e) / (2 * e), 0)) else (0, wrongF e s)
theorem countF_no {e s : Int} (h : wrongF e s ≠ 0) : countF e s = (0, wrongF e s) := by unfold countF; rw [if_neg h]
theorem countF_low {e s : Int} (h : wrongF e s = 0) (h0 : e ≤ 0) : countF e s = (0, 50) := by unfold countF; rw [if_pos h, if_pos h0]
theorem countF_yes {e s : Int} (h : wrongF e s = 0) (h0 : ¬ e ≤ 0) : countF e s = ((2 * s + e) / (2 * e), 0) := by unfold countF; rw [if_pos h, if_neg h0]
set_option maxRecDepth 100000 in
theorem count_any (x s : Int) (w : World) : Calls Tryd.prog 10 #[.int .i64 x, .int .i64 s] w fun e w' => e = .returned (.tuple #[.int .i64 (countF x s).1, .int .i64 (countF x s).2]) ∧ w = w' := by
  have c1 : ∀ W, _ := fun W => wrong_any x s W
  by_cases h0 : wrongF x s = 0
  · rw [h0] at c1
    obtain ⟨⟨s1, s2⟩, e1, e2⟩ := wrongF_bd h0
    by_cases hx : x ≤ 0
    · rw [countF_low h0 hx]
      clear h0
      go_enter Tryd.func10, Tryd.ntmps10
      go_wp2_with (fail)
      refine (c1 _).mono ?_
      rintro r w1 ⟨rfl, rfl⟩
      go_wp2
      go_ret2
      exact ⟨rfl, rfl⟩
    · rw [countF_yes h0 hx]
      clear h0
      have hx1 : 0 < 2 * x := by omega
      have hne : ((2 * x) == 0) = false := by rw [beq_eq_false_iff_ne]; omega
      go_enter Tryd.func10, Tryd.ntmps10
      go_wp2_with (fail)
      refine (c1 _).mono ?_
      rintro r w1 ⟨rfl, rfl⟩
      go_wp2
      go_ret2
      exact ⟨rfl, rfl⟩
  · rw [countF_no h0]
    have hb : (wrongF x s != 0) = true := by rw [bne_iff_ne]; exact h0
    clear h0
    generalize wrongF x s = W0 at *
    go_enter Tryd.func10, Tryd.ntmps10
    go_wp2_with (fail)
    refine (c1 _).mono ?_
    rintro r w1 ⟨rfl, rfl⟩
    go_wp2
    go_ret2
    exact ⟨rfl, rfl⟩

set_option maxRecDepth 100000 in
theorem rcount_any (x s : Int) (w : World) : Calls Tryd.prog 11 #[.int .i64 x, .int .i64 s] w fun e w' => e = .returned (.tuple #[.int .i64 (countF x s).1, .int .i64 (countF x s).2]) ∧ w = w' := by
  have c1 : ∀ W, _ := fun W => rscaled_any s W
  have c3 : ∀ W, _ := fun W => rfits_any x W
  cases h1 : sclB s
  · have hw : wrongF x s = 47 := by unfold wrongF; rw [h1]; rfl
    rw [countF_no (by omega), hw]
    rw [h1] at c1
    clear hw h1 c3
    go_enter Tryd.func11, Tryd.ntmps11
    go_wp2_with (fail)
    refine (c1 _).mono ?_
    rintro r w1 ⟨rfl, rfl⟩
    go_wp2
    go_ret2
    exact ⟨rfl, rfl⟩
  · rw [h1] at c1
    cases h2 : fitB x
    · have hw : wrongF x s = 10 := by unfold wrongF; rw [h1, h2]; rfl
      rw [countF_no (by omega), hw]
      rw [h2] at c3
      clear hw h1 h2
      go_enter Tryd.func11, Tryd.ntmps11
      go_wp2_with (fail)
      refine (c1 _).mono ?_
      rintro r w1 ⟨rfl, rfl⟩
      go_wp2_with (fail)
      refine (c3 _).mono ?_
      rintro r w1 ⟨rfl, rfl⟩
      go_wp2
      go_ret2
      exact ⟨rfl, rfl⟩
    · have hw : wrongF x s = 0 := by unfold wrongF; rw [h1, h2]; rfl
      rw [h2] at c3
      obtain ⟨s1, s2⟩ := sclB_of h1
      obtain ⟨e1, e2⟩ := fitB_of h2
      clear h1 h2
      by_cases hx : x ≤ 0
      · rw [countF_low hw hx]
        clear hw
        go_enter Tryd.func11, Tryd.ntmps11
        go_wp2_with (fail)
        refine (c1 _).mono ?_
        rintro r w1 ⟨rfl, rfl⟩
        go_wp2_with (fail)
        refine (c3 _).mono ?_
        rintro r w1 ⟨rfl, rfl⟩
        go_wp2
        go_ret2
        exact ⟨rfl, rfl⟩
      · rw [countF_yes hw hx]
        clear hw
        have hx1 : 0 < 2 * x := by omega
        have hne : ((2 * x) == 0) = false := by rw [beq_eq_false_iff_ne]; omega
        go_enter Tryd.func11, Tryd.ntmps11
        go_wp2_with (fail)
        refine (c1 _).mono ?_
        rintro r w1 ⟨rfl, rfl⟩
        go_wp2_with (fail)
        refine (c3 _).mono ?_
        rintro r w1 ⟨rfl, rfl⟩
        go_wp2
        go_ret2
        exact ⟨rfl, rfl⟩

/-- x times the scale, where it fits -/
def timesF (x s : Int) : Int × Int := if fitB x && fitB (x * s) then (x * s, 0) else (0, 10)
def numV (T : Int × Int) : Value := .tuple #[.int .i64 T.1, .int .i64 T.2]
theorem mul_sc {x s : Int} (h1 : -2147483647 ≤ x) (h2 : x ≤ 2147483647) (s1 : 1 ≤ s) (s2 : s ≤ 1048576) : -4611686014132420609 ≤ x * s ∧ x * s ≤ 4611686014132420609 := mul_bd h1 h2 (by omega) (by omega)
theorem times_any (x s : Int) (w : World) (s1 : 1 ≤ s) (s2 : s ≤ 1048576) : Calls Tryd.prog 43 #[.int .i64 x, .int .i64 s] w fun e w' => e = .returned (numV (timesF x s)) ∧ w = w' := by
  have c1 : ∀ W, _ := fun W => fits_any x W
  have c2 : ∀ W, _ := fun W => fits_any (x * s) W
  cases h1 : fitB x
  · have hF : timesF x s = (0, 10) := by unfold timesF; rw [h1]; rfl
    rw [hF]
    rw [h1] at c1
    clear hF h1 c2
    go_enter Tryd.func43, Tryd.ntmps43
    go_wp2_with (fail)
    refine (c1 _).mono ?_
    rintro r w1 ⟨rfl, rfl⟩
    go_wp2
    go_ret2
    exact ⟨rfl, rfl⟩
  · rw [h1] at c1
    obtain ⟨e1, e2⟩ := fitB_of h1
    obtain ⟨m1, m2⟩ := mul_sc e1 e2 s1 s2
    cases h2 : fitB (x * s)
    · have hF : timesF x s = (0, 10) := by unfold timesF; rw [h1, h2]; rfl
      rw [hF]
      rw [h2] at c2
      clear hF h1 h2
      go_enter Tryd.func43, Tryd.ntmps43
      go_wp2_with (fail)
      refine (c1 _).mono ?_
      rintro r w1 ⟨rfl, rfl⟩
      go_wp2_with (fail)
      refine (c2 _).mono ?_
      rintro r w1 ⟨rfl, rfl⟩
      go_wp2
      go_ret2
      exact ⟨rfl, rfl⟩
    · have hF : timesF x s = (x * s, 0) := by unfold timesF; rw [h1, h2]; rfl
      rw [hF]
      rw [h2] at c2
      clear hF h1 h2
      go_enter Tryd.func43, Tryd.ntmps43
      go_wp2_with (fail)
      refine (c1 _).mono ?_
      rintro r w1 ⟨rfl, rfl⟩
      go_wp2_with (fail)
      refine (c2 _).mono ?_
      rintro r w1 ⟨rfl, rfl⟩
      go_wp2
      go_ret2
      exact ⟨rfl, rfl⟩
/-- the inputs of a count -/
def unitF (x s : Int) : Int × Int := if x ≠ 0 ∧ x ≠ 1 then (0, 49) else timesF x s
/-- the inputs of a mean of squares -/
def squareF (x s : Int) : Int × Int := if fitB x then timesF (x * x) s else (0, 10)
theorem timesF_wide (s : Int) : timesF 2147483648 s = (0, 10) := by
  unfold timesF
  rw [fitB_f (by omega)]; rfl
theorem unit_any (x s : Int) (w : World) (s1 : 1 ≤ s) (s2 : s ≤ 1048576) : Calls Tryd.prog 45 #[.int .i64 x, .int .i64 s] w fun e w' => e = .returned (numV (unitF x s)) ∧ w = w' := by
  have c1 : ∀ W, _ := fun W => times_any x s W s1 s2
  unfold unitF
  by_cases h0 : x = 0
  · subst h0
    rw [if_neg (by omega)]
    generalize timesF 0 s = T at *
    unfold numV at *
    go_enter Tryd.func45, Tryd.ntmps45
    go_wp2_with (fail)
    refine (c1 _).mono ?_
    rintro r w1 ⟨rfl, rfl⟩
    go_wp2
    go_ret2
    exact ⟨rfl, rfl⟩
  · have b0 : (x != 0) = true := by rw [bne_iff_ne]; exact h0
    by_cases h1 : x = 1
    · subst h1
      rw [if_neg (by omega)]
      generalize timesF 1 s = T at *
      unfold numV at *
      clear h0 b0
      go_enter Tryd.func45, Tryd.ntmps45
      go_wp2_with (fail)
      refine (c1 _).mono ?_
      rintro r w1 ⟨rfl, rfl⟩
      go_wp2
      go_ret2
      exact ⟨rfl, rfl⟩
    · have b1 : (x != 1) = true := by rw [bne_iff_ne]; exact h1
      rw [if_pos ⟨h0, h1⟩]
      clear h0 h1 c1
      go_enter Tryd.func45, Tryd.ntmps45
      go_wp2
      go_ret2
      exact ⟨rfl, rfl⟩
theorem square_any (x s : Int) (w : World) (s1 : 1 ≤ s) (s2 : s ≤ 1048576) : Calls Tryd.prog 47 #[.int .i64 x, .int .i64 s] w fun e w' => e = .returned (numV (squareF x s)) ∧ w = w' := by
  have c0 : ∀ W, _ := fun W => fits_any x W
  unfold squareF
  cases h1 : fitB x
  · rw [if_neg (by simp)]
    have c1 : ∀ W, _ := fun W => times_any 2147483648 s W s1 s2
    rw [timesF_wide] at c1
    rw [h1] at c0
    clear h1
    unfold numV at *
    go_enter Tryd.func47, Tryd.ntmps47
    go_wp2_with (fail)
    refine (c0 _).mono ?_
    rintro r w1 ⟨rfl, rfl⟩
    go_wp2_with (fail)
    refine (c1 _).mono ?_
    rintro r w1 ⟨rfl, rfl⟩
    go_wp2
    go_ret2
    exact ⟨rfl, rfl⟩
  · rw [if_pos rfl]
    rw [h1] at c0
    obtain ⟨e1, e2⟩ := fitB_of h1
    obtain ⟨m1, m2⟩ := mul_bd e1 e2 e1 e2
    have c1 : ∀ W, _ := fun W => times_any (x * x) s W s1 s2
    generalize timesF (x * x) s = T at *
    clear h1
    unfold numV at *
    go_enter Tryd.func47, Tryd.ntmps47
    go_wp2_with (fail)
    refine (c0 _).mono ?_
    rintro r w1 ⟨rfl, rfl⟩
    go_wp2_with (fail)
    refine (c1 _).mono ?_
    rintro r w1 ⟨rfl, rfl⟩
    go_wp2
    go_ret2
    exact ⟨rfl, rfl⟩
theorem none_any (x s : Int) (w : World) : Calls Tryd.prog 48 #[.int .i64 x, .int .i64 s] w fun e w' => e = .returned (.tuple #[.string ⟨#[]⟩, .int .i64 46]) ∧ w = w' := by
  go_enter Tryd.func48, Tryd.ntmps48
  go_wp2
  go_ret2
  exact ⟨rfl, rfl⟩

end Go.Proofs.YtahfapeggijfkaaDoor
