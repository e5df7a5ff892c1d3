/- Contracts: Make on both sides, Valid on both sides (by program: wip/tools/gen_make.py). -/
import Derived.Test.YtahfapeggijfkaaDoorFrac1
namespace Go.Proofs.YtahfapeggijfkaaDoor
open Go.RowKit

theorem cast_div (x g : Nat) : (x : Int) / (g : Int) = ((x / g : Nat) : Int) := (Int.natCast_ediv x g).symm
abbrev mkV (T : (Int × Int) × Int) : Value := .tuple #[frV T.1.1 T.1.2, .int .i64 T.2]


set_option maxRecDepth 100000 in
set_option maxHeartbeats 4000000 in
theorem make_any (n d : Int) (w : World) (hn0 : -9223372036854775808 ≤ n) (hn1 : n < 9223372036854775808) (hd0 : -9223372036854775808 ≤ d) (hd1 : d < 9223372036854775808) :
    Calls Tryd.prog 24 #[.int .i64 n, .int .i64 d] w fun e w' => e = .returned (mkV (mkF n d)) ∧ Below w.heap.size w w' := by
  by_cases hd : d = 0
  · subst hd
    rw [mkF_zero]
    go_enter Tryd.func24, Tryd.ntmps24
    go_wp2
    exact bodyPost_ret (v := mkV ((0, 0), 11)) (by simp [results, Tryd.results24, go_sem]) rfl ⟨rfl, (Below.refl _ _).alloc (Nat.le_refl _) _⟩
  · have hd2 : (d == 0) = false := by simpa using hd
    have hwide := mkF_wide (n := n) hd
    have hfits := mkF_fits (n := n) hd
    have hgp : 0 < Nat.gcd n.natAbs d.natAbs := Nat.gcd_pos_of_pos_right _ (by omega)
    have hc1 : ∀ W, _ := fun W => size_any n W hn0 hn1
    have hc2 : ∀ W, _ := fun W => size_any d W hd0 hd1
    have hc3 : ∀ W, _ := fun W => common_any n.natAbs d.natAbs W (by omega) (by omega)
    have hX : n.natAbs / Nat.gcd n.natAbs d.natAbs ≤ n.natAbs := Nat.div_le_self _ _
    have hY : d.natAbs / Nat.gcd n.natAbs d.natAbs ≤ d.natAbs := Nat.div_le_self _ _
    have hqx := cast_div n.natAbs (Nat.gcd n.natAbs d.natAbs)
    have hqy := cast_div d.natAbs (Nat.gcd n.natAbs d.natAbs)
    have hxb : n.natAbs < 18446744073709551616 := by omega
    have hyb : d.natAbs < 18446744073709551616 := by omega
    generalize mkF n d = T at *
    generalize n.natAbs / Nat.gcd n.natAbs d.natAbs = X at *
    generalize d.natAbs / Nat.gcd n.natAbs d.natAbs = Y at *
    generalize Nat.gcd n.natAbs d.natAbs = g at *
    generalize n.natAbs = x at *
    generalize d.natAbs = y at *
    have hg0 : ((g : Int) == 0) = false := by rw [beq_eq_false_iff_ne]; omega
    have hg1 : 0 < (g : Int) := by omega
    by_cases h1 : 2147483647 < X
    · have hm : T = ((0, 0), 10) := hwide (.inl h1)
      have HM := Lib.hid hm
      clear hm hwide hfits hd
      go_enter Tryd.func24, Tryd.ntmps24
      go_wp2_with fail
      refine (hc1 _).mono ?_
      rintro e w1 ⟨rfl, rfl⟩
      go_wp2_with fail
      refine (hc2 _).mono ?_
      rintro e w1 ⟨rfl, rfl⟩
      go_wp2_with fail
      refine (hc3 _).mono ?_
      rintro e w1 ⟨rfl, k, rfl⟩
      clear hc1 hc2 hc3
      go_wp2
      go_quiet (fail)
      go_wp2
      exact bodyPost_ret (v := mkV ((0, 0), 10)) (by simp [results, Tryd.results24, go_sem]) rfl ⟨by rw [HM.out], (by (repeat (first | exact Below.refl _ _ | refine bel_set (Nat.le_refl _) ?_ | refine bel_drew ?_ | refine bel_alloc ?_ (by first | simp | simp [World.setCell]))))⟩
    by_cases h2 : 2147483647 < Y
    · have hm : T = ((0, 0), 10) := hwide (.inr h2)
      have HM := Lib.hid hm
      clear hm hwide hfits hd
      go_enter Tryd.func24, Tryd.ntmps24
      go_wp2_with fail
      refine (hc1 _).mono ?_
      rintro e w1 ⟨rfl, rfl⟩
      go_wp2_with fail
      refine (hc2 _).mono ?_
      rintro e w1 ⟨rfl, rfl⟩
      go_wp2_with fail
      refine (hc3 _).mono ?_
      rintro e w1 ⟨rfl, k, rfl⟩
      clear hc1 hc2 hc3
      go_wp2
      go_quiet (fail)
      go_wp2
      exact bodyPost_ret (v := mkV ((0, 0), 10)) (by simp [results, Tryd.results24, go_sem]) rfl ⟨by rw [HM.out], (by (repeat (first | exact Below.refl _ _ | refine bel_set (Nat.le_refl _) ?_ | refine bel_drew ?_ | refine bel_alloc ?_ (by first | simp | simp [World.setCell]))))⟩
    have hm := hfits (by omega) (by omega)
    clear hwide hfits
    by_cases hs1 : n < 0
    · by_cases hs2 : d < 0
      · have HM : Hid (T = (((X : Int), (Y : Int)), 0)) := by show T = _; rw [hm]; simp [hs1, hs2]
        have s1 : decide (n < 0) = true := by simpa using hs1
        have s2 : decide (d < 0) = true := by simpa using hs2
        clear hm hd
        go_enter Tryd.func24, Tryd.ntmps24
        go_wp2_with fail
        refine (hc1 _).mono ?_
        rintro e w1 ⟨rfl, rfl⟩
        go_wp2_with fail
        refine (hc2 _).mono ?_
        rintro e w1 ⟨rfl, rfl⟩
        go_wp2_with fail
        refine (hc3 _).mono ?_
        rintro e w1 ⟨rfl, k, rfl⟩
        clear hc1 hc2 hc3
        go_wp2
        go_quiet (fail)
        go_wp2
        exact bodyPost_ret (v := mkV (((X : Int), (Y : Int)), 0)) (by simp [results, Tryd.results24, go_sem]) rfl ⟨by rw [HM.out], (by (repeat (first | exact Below.refl _ _ | refine bel_set (Nat.le_refl _) ?_ | refine bel_drew ?_ | refine bel_alloc ?_ (by first | simp | simp [World.setCell]))))⟩
      · have HM : Hid (T = ((-(X : Int), (Y : Int)), 0)) := by show T = _; rw [hm]; simp [hs1, hs2]
        have s1 : decide (n < 0) = true := by simpa using hs1
        have s2 : decide (d < 0) = false := by simpa using hs2
        clear hm hd
        go_enter Tryd.func24, Tryd.ntmps24
        go_wp2_with fail
        refine (hc1 _).mono ?_
        rintro e w1 ⟨rfl, rfl⟩
        go_wp2_with fail
        refine (hc2 _).mono ?_
        rintro e w1 ⟨rfl, rfl⟩
        go_wp2_with fail
        refine (hc3 _).mono ?_
        rintro e w1 ⟨rfl, k, rfl⟩
        clear hc1 hc2 hc3
        go_wp2
        go_quiet (fail)
        go_wp2
        exact bodyPost_ret (v := mkV ((-(X : Int), (Y : Int)), 0)) (by simp [results, Tryd.results24, go_sem]) rfl ⟨by rw [HM.out], (by (repeat (first | exact Below.refl _ _ | refine bel_set (Nat.le_refl _) ?_ | refine bel_drew ?_ | refine bel_alloc ?_ (by first | simp | simp [World.setCell]))))⟩
    · by_cases hs2 : d < 0
      · have HM : Hid (T = ((-(X : Int), (Y : Int)), 0)) := by show T = _; rw [hm]; simp [hs1, hs2]
        have s1 : decide (n < 0) = false := by simpa using hs1
        have s2 : decide (d < 0) = true := by simpa using hs2
        clear hm hd
        go_enter Tryd.func24, Tryd.ntmps24
        go_wp2_with fail
        refine (hc1 _).mono ?_
        rintro e w1 ⟨rfl, rfl⟩
        go_wp2_with fail
        refine (hc2 _).mono ?_
        rintro e w1 ⟨rfl, rfl⟩
        go_wp2_with fail
        refine (hc3 _).mono ?_
        rintro e w1 ⟨rfl, k, rfl⟩
        clear hc1 hc2 hc3
        go_wp2
        go_quiet (fail)
        go_wp2
        exact bodyPost_ret (v := mkV ((-(X : Int), (Y : Int)), 0)) (by simp [results, Tryd.results24, go_sem]) rfl ⟨by rw [HM.out], (by (repeat (first | exact Below.refl _ _ | refine bel_set (Nat.le_refl _) ?_ | refine bel_drew ?_ | refine bel_alloc ?_ (by first | simp | simp [World.setCell]))))⟩
      · have HM : Hid (T = (((X : Int), (Y : Int)), 0)) := by show T = _; rw [hm]; simp [hs1, hs2]
        have s1 : decide (n < 0) = false := by simpa using hs1
        have s2 : decide (d < 0) = false := by simpa using hs2
        clear hm hd
        go_enter Tryd.func24, Tryd.ntmps24
        go_wp2_with fail
        refine (hc1 _).mono ?_
        rintro e w1 ⟨rfl, rfl⟩
        go_wp2_with fail
        refine (hc2 _).mono ?_
        rintro e w1 ⟨rfl, rfl⟩
        go_wp2_with fail
        refine (hc3 _).mono ?_
        rintro e w1 ⟨rfl, k, rfl⟩
        clear hc1 hc2 hc3
        go_wp2
        go_quiet (fail)
        go_wp2
        exact bodyPost_ret (v := mkV (((X : Int), (Y : Int)), 0)) (by simp [results, Tryd.results24, go_sem]) rfl ⟨by rw [HM.out], (by (repeat (first | exact Below.refl _ _ | refine bel_set (Nat.le_refl _) ?_ | refine bel_drew ?_ | refine bel_alloc ?_ (by first | simp | simp [World.setCell]))))⟩

set_option maxRecDepth 100000 in
set_option maxHeartbeats 4000000 in
theorem rmake_any (n d : Int) (w : World) (hn0 : -9223372036854775808 ≤ n) (hn1 : n < 9223372036854775808) (hd0 : -9223372036854775808 ≤ d) (hd1 : d < 9223372036854775808) :
    Calls Tryd.prog 27 #[.int .i64 n, .int .i64 d] w fun e w' => e = .returned (mkV (mkF n d)) ∧ Below w.heap.size w w' := by
  by_cases hd : d = 0
  · subst hd
    rw [mkF_zero]
    go_enter Tryd.func27, Tryd.ntmps27
    go_wp2
    exact bodyPost_ret (v := mkV ((0, 0), 11)) (by simp [results, Tryd.results27, go_sem]) rfl ⟨rfl, (Below.refl _ _).alloc (Nat.le_refl _) _⟩
  · have hd2 : (d == 0) = false := by simpa using hd
    have hwide := mkF_wide (n := n) hd
    have hfits := mkF_fits (n := n) hd
    have hgp : 0 < Nat.gcd n.natAbs d.natAbs := Nat.gcd_pos_of_pos_right _ (by omega)
    have hc1 : ∀ W, _ := fun W => abs_any n W hn0 hn1
    have hc2 : ∀ W, _ := fun W => abs_any d W hd0 hd1
    have hc3 : ∀ W, _ := fun W => gcd_any n.natAbs d.natAbs W (by omega) (by omega)
    have hX : n.natAbs / Nat.gcd n.natAbs d.natAbs ≤ n.natAbs := Nat.div_le_self _ _
    have hY : d.natAbs / Nat.gcd n.natAbs d.natAbs ≤ d.natAbs := Nat.div_le_self _ _
    have hqx := cast_div n.natAbs (Nat.gcd n.natAbs d.natAbs)
    have hqy := cast_div d.natAbs (Nat.gcd n.natAbs d.natAbs)
    have hxb : n.natAbs < 18446744073709551616 := by omega
    have hyb : d.natAbs < 18446744073709551616 := by omega
    generalize mkF n d = T at *
    generalize n.natAbs / Nat.gcd n.natAbs d.natAbs = X at *
    generalize d.natAbs / Nat.gcd n.natAbs d.natAbs = Y at *
    generalize Nat.gcd n.natAbs d.natAbs = g at *
    generalize n.natAbs = x at *
    generalize d.natAbs = y at *
    have hg0 : ((g : Int) == 0) = false := by rw [beq_eq_false_iff_ne]; omega
    have hg1 : 0 < (g : Int) := by omega
    by_cases h1 : 2147483647 < X
    · have hm : T = ((0, 0), 10) := hwide (.inl h1)
      have HM := Lib.hid hm
      clear hm hwide hfits hd
      go_enter Tryd.func27, Tryd.ntmps27
      go_wp2_with fail
      refine (hc1 _).mono ?_
      rintro e w1 ⟨rfl, rfl⟩
      go_wp2_with fail
      refine (hc2 _).mono ?_
      rintro e w1 ⟨rfl, rfl⟩
      go_wp2_with fail
      refine (hc3 _).mono ?_
      rintro e w1 ⟨rfl, rfl⟩
      clear hc1 hc2 hc3
      go_wp2
      exact bodyPost_ret (v := mkV ((0, 0), 10)) (by simp [results, Tryd.results27, go_sem]) rfl ⟨by rw [HM.out], (by (repeat (first | exact Below.refl _ _ | refine bel_set (Nat.le_refl _) ?_ | refine bel_drew ?_ | refine bel_alloc ?_ (by first | simp | simp [World.setCell]))))⟩
    by_cases h2 : 2147483647 < Y
    · have hm : T = ((0, 0), 10) := hwide (.inr h2)
      have HM := Lib.hid hm
      clear hm hwide hfits hd
      go_enter Tryd.func27, Tryd.ntmps27
      go_wp2_with fail
      refine (hc1 _).mono ?_
      rintro e w1 ⟨rfl, rfl⟩
      go_wp2_with fail
      refine (hc2 _).mono ?_
      rintro e w1 ⟨rfl, rfl⟩
      go_wp2_with fail
      refine (hc3 _).mono ?_
      rintro e w1 ⟨rfl, rfl⟩
      clear hc1 hc2 hc3
      go_wp2
      exact bodyPost_ret (v := mkV ((0, 0), 10)) (by simp [results, Tryd.results27, go_sem]) rfl ⟨by rw [HM.out], (by (repeat (first | exact Below.refl _ _ | refine bel_set (Nat.le_refl _) ?_ | refine bel_drew ?_ | refine bel_alloc ?_ (by first | simp | simp [World.setCell]))))⟩
    have hm := hfits (by omega) (by omega)
    clear hwide hfits
    by_cases hs1 : n < 0
    · by_cases hs2 : d < 0
      · have HM : Hid (T = (((X : Int), (Y : Int)), 0)) := by show T = _; rw [hm]; simp [hs1, hs2]
        have s1 : decide (n < 0) = true := by simpa using hs1
        have s2 : decide (d < 0) = true := by simpa using hs2
        clear hm hd
        go_enter Tryd.func27, Tryd.ntmps27
        go_wp2_with fail
        refine (hc1 _).mono ?_
        rintro e w1 ⟨rfl, rfl⟩
        go_wp2_with fail
        refine (hc2 _).mono ?_
        rintro e w1 ⟨rfl, rfl⟩
        go_wp2_with fail
        refine (hc3 _).mono ?_
        rintro e w1 ⟨rfl, rfl⟩
        clear hc1 hc2 hc3
        go_wp2
        exact bodyPost_ret (v := mkV (((X : Int), (Y : Int)), 0)) (by simp [results, Tryd.results27, go_sem]) rfl ⟨by rw [HM.out], (by (repeat (first | exact Below.refl _ _ | refine bel_set (Nat.le_refl _) ?_ | refine bel_drew ?_ | refine bel_alloc ?_ (by first | simp | simp [World.setCell]))))⟩
      · have HM : Hid (T = ((-(X : Int), (Y : Int)), 0)) := by show T = _; rw [hm]; simp [hs1, hs2]
        have s1 : decide (n < 0) = true := by simpa using hs1
        have s2 : decide (d < 0) = false := by simpa using hs2
        clear hm hd
        go_enter Tryd.func27, Tryd.ntmps27
        go_wp2_with fail
        refine (hc1 _).mono ?_
        rintro e w1 ⟨rfl, rfl⟩
        go_wp2_with fail
        refine (hc2 _).mono ?_
        rintro e w1 ⟨rfl, rfl⟩
        go_wp2_with fail
        refine (hc3 _).mono ?_
        rintro e w1 ⟨rfl, rfl⟩
        clear hc1 hc2 hc3
        go_wp2
        exact bodyPost_ret (v := mkV ((-(X : Int), (Y : Int)), 0)) (by simp [results, Tryd.results27, go_sem]) rfl ⟨by rw [HM.out], (by (repeat (first | exact Below.refl _ _ | refine bel_set (Nat.le_refl _) ?_ | refine bel_drew ?_ | refine bel_alloc ?_ (by first | simp | simp [World.setCell]))))⟩
    · by_cases hs2 : d < 0
      · have HM : Hid (T = ((-(X : Int), (Y : Int)), 0)) := by show T = _; rw [hm]; simp [hs1, hs2]
        have s1 : decide (n < 0) = false := by simpa using hs1
        have s2 : decide (d < 0) = true := by simpa using hs2
        clear hm hd
        go_enter Tryd.func27, Tryd.ntmps27
        go_wp2_with fail
        refine (hc1 _).mono ?_
        rintro e w1 ⟨rfl, rfl⟩
        go_wp2_with fail
        refine (hc2 _).mono ?_
        rintro e w1 ⟨rfl, rfl⟩
        go_wp2_with fail
        refine (hc3 _).mono ?_
        rintro e w1 ⟨rfl, rfl⟩
        clear hc1 hc2 hc3
        go_wp2
        exact bodyPost_ret (v := mkV ((-(X : Int), (Y : Int)), 0)) (by simp [results, Tryd.results27, go_sem]) rfl ⟨by rw [HM.out], (by (repeat (first | exact Below.refl _ _ | refine bel_set (Nat.le_refl _) ?_ | refine bel_drew ?_ | refine bel_alloc ?_ (by first | simp | simp [World.setCell]))))⟩
      · have HM : Hid (T = (((X : Int), (Y : Int)), 0)) := by show T = _; rw [hm]; simp [hs1, hs2]
        have s1 : decide (n < 0) = false := by simpa using hs1
        have s2 : decide (d < 0) = false := by simpa using hs2
        clear hm hd
        go_enter Tryd.func27, Tryd.ntmps27
        go_wp2_with fail
        refine (hc1 _).mono ?_
        rintro e w1 ⟨rfl, rfl⟩
        go_wp2_with fail
        refine (hc2 _).mono ?_
        rintro e w1 ⟨rfl, rfl⟩
        go_wp2_with fail
        refine (hc3 _).mono ?_
        rintro e w1 ⟨rfl, rfl⟩
        clear hc1 hc2 hc3
        go_wp2
        exact bodyPost_ret (v := mkV (((X : Int), (Y : Int)), 0)) (by simp [results, Tryd.results27, go_sem]) rfl ⟨by rw [HM.out], (by (repeat (first | exact Below.refl _ _ | refine bel_set (Nat.le_refl _) ?_ | refine bel_drew ?_ | refine bel_alloc ?_ (by first | simp | simp [World.setCell]))))⟩

end Go.Proofs.YtahfapeggijfkaaDoor
