/- Contracts: Cmp, Add, Sub, Mul, Div, Floor, Ceil, Round on both sides (by program: wip/tools/gen_ops.py). -/
import Derived.Test.YtahfapeggijfkaaDoorFrac3
namespace Go.Proofs.YtahfapeggijfkaaDoor
open Go.RowKit

theorem mul_bd {a b : Int} (h1 : -2147483647 ≤ a) (h2 : a ≤ 2147483647) (h3 : -2147483647 ≤ b) (h4 : b ≤ 2147483647) : -4611686014132420609 ≤ a * b ∧ a * b ≤ 4611686014132420609 := by
  have h5 : (a * b).natAbs ≤ 2147483647 * 2147483647 := by rw [Int.natAbs_mul]; exact Nat.mul_le_mul (by omega) (by omega)
  omega
def cmpF (an ad bn bd : Int) : Int := if an * bd < bn * ad then -1 else if bn * ad < an * bd then 1 else 0
/-- numbers that a fraction's may be -/
def Fit (n d : Int) : Prop := -2147483647 ≤ n ∧ n ≤ 2147483647 ∧ -2147483647 ≤ d ∧ d ≤ 2147483647
theorem Val.fit {n d : Int} (h : Val n d) : Fit n d := ⟨h.2.2.1, h.2.2.2.1, by have := h.1; omega, h.2.1⟩
theorem of_below {w w1 : World} {b : Nat} {o : Obj} (hB : Below w.heap.size w w1) (h : w.heap[b]? = some o) : w1.heap[b]? = some o := by
  rw [hB.block b (Array.getElem?_eq_some_iff.1 h).1]; exact h


set_option maxRecDepth 100000 in
theorem rcmp_any (an ad bn bd : Int) (w : World) (ha : Fit an ad) (hb : Fit bn bd) :
    Calls Tryd.prog 18 #[frV an ad, frV bn bd] w fun e w' => e = .returned (.int .i64 (cmpF an ad bn bd)) ∧ Below w.heap.size w w' := by
  obtain ⟨a1, a2, a3, a4⟩ := ha
  obtain ⟨b1, b2, b3, b4⟩ := hb
  obtain ⟨m1, m2⟩ := mul_bd a1 a2 b3 b4
  obtain ⟨m3, m4⟩ := mul_bd b1 b2 a3 a4
  have hc : cmpF an ad bn bd = if an * bd < bn * ad then -1 else if bn * ad < an * bd then 1 else 0 := rfl
  generalize cmpF an ad bn bd = C at *
  rcases Int.lt_trichotomy (an * bd) (bn * ad) with h | h | h
  · rw [if_pos h] at hc
    have HC := Lib.hid hc
    clear hc
    go_enter Tryd.func18, Tryd.ntmps18
    go_wp2
    go_ret
    rw [HC.out]
    exact ⟨rfl, by (repeat (first | exact Below.refl _ _ | refine bel_drew ?_ | refine bel_alloc ?_ (by first | (simp; done) | (simp; omega))))⟩
  · rw [if_neg (by omega), if_neg (by omega)] at hc
    have HC := Lib.hid hc
    clear hc
    have h1 : ¬ an * bd < bn * ad := by omega
    have h2 : ¬ bn * ad < an * bd := by omega
    clear h
    go_enter Tryd.func18, Tryd.ntmps18
    go_wp2
    go_ret
    rw [HC.out]
    exact ⟨rfl, by (repeat (first | exact Below.refl _ _ | refine bel_drew ?_ | refine bel_alloc ?_ (by first | (simp; done) | (simp; omega))))⟩
  · rw [if_neg (by omega), if_pos h] at hc
    have HC := Lib.hid hc
    clear hc
    have h1 : ¬ an * bd < bn * ad := by omega
    go_enter Tryd.func18, Tryd.ntmps18
    go_wp2
    go_ret
    rw [HC.out]
    exact ⟨rfl, by (repeat (first | exact Below.refl _ _ | refine bel_drew ?_ | refine bel_alloc ?_ (by first | (simp; done) | (simp; omega))))⟩

set_option maxRecDepth 100000 in
theorem sub_any (an ad bn bd : Int) (w : World) (ha : Fit an ad) (hb : Fit bn bd) :
    Calls Tryd.prog 39 #[frV an ad, frV bn bd] w fun e w' => e = .returned (mkV (mkF (an * bd - bn * ad) (ad * bd))) ∧ Below w.heap.size w w' := by
  obtain ⟨a1, a2, a3, a4⟩ := ha
  obtain ⟨b1, b2, b3, b4⟩ := hb
  obtain ⟨m1l, m1u⟩ := mul_bd a1 a2 b3 b4
  obtain ⟨m2l, m2u⟩ := mul_bd b1 b2 a3 a4
  obtain ⟨m3l, m3u⟩ := mul_bd a3 a4 b3 b4
  have c1 : ∀ W, _ := fun W => make_any (an * bd - bn * ad) (ad * bd) W (by omega) (by omega) (by omega) (by omega)
  generalize mkF (an * bd - bn * ad) (ad * bd) = T at *
  obtain ⟨⟨t1, t2⟩, t3⟩ := T
  unfold mkV at c1
  simp only at c1
  go_enter Tryd.func39, Tryd.ntmps39
  go_wp2_with fail
  refine (c1 _).mono ?_
  rintro e w1 ⟨rfl, hB⟩
  have hz := hB.size
  have hk : w1.heap[w.heap.size + 1 + 1]? = some (.cells #[.int .i64 0, .int .i64 0] 23 (0, 0)) := (hB.block _ (by simp)).trans (by
    have := heap_alloc_new ((w.alloc (.cells #[.int .i64 an, .int .i64 ad] 23)).alloc (.cells #[.int .i64 bn, .int .i64 bd] 23)) (.cells #[.int .i64 0, .int .i64 0] 23)
    simpa using this)
  have k0 := cell_of_row _ _ 0 _ _ _ hk
  have k1 := cell_of_row _ _ 1 _ _ _ hk
  simp only [List.getElem?_toArray, List.getElem?_cons_zero, List.getElem?_cons_succ] at k0 k1
  have kf0 := frozen_of_row _ _ 0 _ _ hk
  have kf1 := frozen_of_row _ _ 1 _ _ hk
  have HB : Hid (Below w.heap.size w w1) := (by (repeat (first | exact Below.refl _ _ | refine bel_drew ?_ | refine bel_alloc ?_ (by first | (simp; done) | (simp; omega)))) : Below w.heap.size w _).trans (hB.mono (by simp; omega))
  clear c1 hk hB
  go_wp2_with fail
  exact bodyPost_ret (v := .tuple #[frV t1 t2, .int .i64 t3]) (by simp [results, Tryd.results39, go_sem, *]) rfl ⟨rfl, bel_set (by omega) (bel_set (by omega) HB.out)⟩

set_option maxRecDepth 100000 in
theorem rsub_any (an ad bn bd : Int) (w : World) (ha : Fit an ad) (hb : Fit bn bd) :
    Calls Tryd.prog 40 #[frV an ad, frV bn bd] w fun e w' => e = .returned (mkV (mkF (an * bd - bn * ad) (ad * bd))) ∧ Below w.heap.size w w' := by
  obtain ⟨a1, a2, a3, a4⟩ := ha
  obtain ⟨b1, b2, b3, b4⟩ := hb
  obtain ⟨m1l, m1u⟩ := mul_bd a1 a2 b3 b4
  obtain ⟨m2l, m2u⟩ := mul_bd b1 b2 a3 a4
  obtain ⟨m3l, m3u⟩ := mul_bd a3 a4 b3 b4
  have c1 : ∀ W, _ := fun W => rmake_any (an * bd - bn * ad) (ad * bd) W (by omega) (by omega) (by omega) (by omega)
  generalize mkF (an * bd - bn * ad) (ad * bd) = T at *
  obtain ⟨⟨t1, t2⟩, t3⟩ := T
  unfold mkV at c1
  simp only at c1
  go_enter Tryd.func40, Tryd.ntmps40
  go_wp2_with fail
  refine (c1 _).mono ?_
  rintro e w1 ⟨rfl, hB⟩
  have hz := hB.size
  have hk : w1.heap[w.heap.size + 1 + 1]? = some (.cells #[.int .i64 0, .int .i64 0] 23 (0, 0)) := (hB.block _ (by simp)).trans (by
    have := heap_alloc_new ((w.alloc (.cells #[.int .i64 an, .int .i64 ad] 23)).alloc (.cells #[.int .i64 bn, .int .i64 bd] 23)) (.cells #[.int .i64 0, .int .i64 0] 23)
    simpa using this)
  have k0 := cell_of_row _ _ 0 _ _ _ hk
  have k1 := cell_of_row _ _ 1 _ _ _ hk
  simp only [List.getElem?_toArray, List.getElem?_cons_zero, List.getElem?_cons_succ] at k0 k1
  have kf0 := frozen_of_row _ _ 0 _ _ hk
  have kf1 := frozen_of_row _ _ 1 _ _ hk
  have HB : Hid (Below w.heap.size w w1) := (by (repeat (first | exact Below.refl _ _ | refine bel_drew ?_ | refine bel_alloc ?_ (by first | (simp; done) | (simp; omega)))) : Below w.heap.size w _).trans (hB.mono (by simp; omega))
  clear c1 hk hB
  go_wp2_with fail
  exact bodyPost_ret (v := .tuple #[frV t1 t2, .int .i64 t3]) (by simp [results, Tryd.results40, go_sem, *]) rfl ⟨rfl, bel_set (by omega) (bel_set (by omega) HB.out)⟩

set_option maxRecDepth 100000 in
theorem mul_any (an ad bn bd : Int) (w : World) (ha : Fit an ad) (hb : Fit bn bd) :
    Calls Tryd.prog 37 #[frV an ad, frV bn bd] w fun e w' => e = .returned (mkV (mkF (an * bn) (ad * bd))) ∧ Below w.heap.size w w' := by
  obtain ⟨a1, a2, a3, a4⟩ := ha
  obtain ⟨b1, b2, b3, b4⟩ := hb
  obtain ⟨m1l, m1u⟩ := mul_bd a1 a2 b1 b2
  obtain ⟨m3l, m3u⟩ := mul_bd a3 a4 b3 b4
  have c1 : ∀ W, _ := fun W => make_any (an * bn) (ad * bd) W (by omega) (by omega) (by omega) (by omega)
  generalize mkF (an * bn) (ad * bd) = T at *
  obtain ⟨⟨t1, t2⟩, t3⟩ := T
  unfold mkV at c1
  simp only at c1
  go_enter Tryd.func37, Tryd.ntmps37
  go_wp2_with fail
  refine (c1 _).mono ?_
  rintro e w1 ⟨rfl, hB⟩
  have hz := hB.size
  have hk : w1.heap[w.heap.size + 1 + 1]? = some (.cells #[.int .i64 0, .int .i64 0] 23 (0, 0)) := (hB.block _ (by simp)).trans (by
    have := heap_alloc_new ((w.alloc (.cells #[.int .i64 an, .int .i64 ad] 23)).alloc (.cells #[.int .i64 bn, .int .i64 bd] 23)) (.cells #[.int .i64 0, .int .i64 0] 23)
    simpa using this)
  have k0 := cell_of_row _ _ 0 _ _ _ hk
  have k1 := cell_of_row _ _ 1 _ _ _ hk
  simp only [List.getElem?_toArray, List.getElem?_cons_zero, List.getElem?_cons_succ] at k0 k1
  have kf0 := frozen_of_row _ _ 0 _ _ hk
  have kf1 := frozen_of_row _ _ 1 _ _ hk
  have HB : Hid (Below w.heap.size w w1) := (by (repeat (first | exact Below.refl _ _ | refine bel_drew ?_ | refine bel_alloc ?_ (by first | (simp; done) | (simp; omega)))) : Below w.heap.size w _).trans (hB.mono (by simp; omega))
  clear c1 hk hB
  go_wp2_with fail
  exact bodyPost_ret (v := .tuple #[frV t1 t2, .int .i64 t3]) (by simp [results, Tryd.results37, go_sem, *]) rfl ⟨rfl, bel_set (by omega) (bel_set (by omega) HB.out)⟩

set_option maxRecDepth 100000 in
theorem rmul_any (an ad bn bd : Int) (w : World) (ha : Fit an ad) (hb : Fit bn bd) :
    Calls Tryd.prog 38 #[frV an ad, frV bn bd] w fun e w' => e = .returned (mkV (mkF (an * bn) (ad * bd))) ∧ Below w.heap.size w w' := by
  obtain ⟨a1, a2, a3, a4⟩ := ha
  obtain ⟨b1, b2, b3, b4⟩ := hb
  obtain ⟨m1l, m1u⟩ := mul_bd a1 a2 b1 b2
  obtain ⟨m3l, m3u⟩ := mul_bd a3 a4 b3 b4
  have c1 : ∀ W, _ := fun W => rmake_any (an * bn) (ad * bd) W (by omega) (by omega) (by omega) (by omega)
  generalize mkF (an * bn) (ad * bd) = T at *
  obtain ⟨⟨t1, t2⟩, t3⟩ := T
  unfold mkV at c1
  simp only at c1
  go_enter Tryd.func38, Tryd.ntmps38
  go_wp2_with fail
  refine (c1 _).mono ?_
  rintro e w1 ⟨rfl, hB⟩
  have hz := hB.size
  have hk : w1.heap[w.heap.size + 1 + 1]? = some (.cells #[.int .i64 0, .int .i64 0] 23 (0, 0)) := (hB.block _ (by simp)).trans (by
    have := heap_alloc_new ((w.alloc (.cells #[.int .i64 an, .int .i64 ad] 23)).alloc (.cells #[.int .i64 bn, .int .i64 bd] 23)) (.cells #[.int .i64 0, .int .i64 0] 23)
    simpa using this)
  have k0 := cell_of_row _ _ 0 _ _ _ hk
  have k1 := cell_of_row _ _ 1 _ _ _ hk
  simp only [List.getElem?_toArray, List.getElem?_cons_zero, List.getElem?_cons_succ] at k0 k1
  have kf0 := frozen_of_row _ _ 0 _ _ hk
  have kf1 := frozen_of_row _ _ 1 _ _ hk
  have HB : Hid (Below w.heap.size w w1) := (by (repeat (first | exact Below.refl _ _ | refine bel_drew ?_ | refine bel_alloc ?_ (by first | (simp; done) | (simp; omega)))) : Below w.heap.size w _).trans (hB.mono (by simp; omega))
  clear c1 hk hB
  go_wp2_with fail
  exact bodyPost_ret (v := .tuple #[frV t1 t2, .int .i64 t3]) (by simp [results, Tryd.results38, go_sem, *]) rfl ⟨rfl, bel_set (by omega) (bel_set (by omega) HB.out)⟩

theorem tmod_lo (n d : Int) (hd : 0 < d) : -d < n.tmod d := by
  rcases Int.lt_or_le n 0 with h1 | h1
  · have h2 := Int.tmod_lt_of_pos (-n) hd
    rw [Int.neg_tmod] at h2; omega
  · have := Int.tmod_nonneg d h1; omega
theorem floor_tdiv (n d : Int) (hd : 0 < d) : n / d = if n.tmod d < 0 then n.tdiv d - 1 else n.tdiv d := by
  have h1 := Int.mul_tdiv_add_tmod n d
  have h2 := Int.tmod_lt_of_pos n hd
  have h3 : -d < n.tmod d := by
    exact tmod_lo n d hd
  generalize n.tdiv d = q at *
  generalize n.tmod d = r at *
  subst h1
  split
  · rename_i hr
    have e : d * q + r = (r + d) + d * (q - 1) := by rw [Int.mul_sub]; omega
    rw [e, Int.add_mul_ediv_left _ _ (by omega), Int.ediv_eq_zero_of_lt (by omega) (by omega)]; omega
  · rename_i hr
    rw [Int.add_comm, Int.add_mul_ediv_left _ _ (by omega), Int.ediv_eq_zero_of_lt (by omega) (by omega)]; omega
theorem tdiv_bd (n d : Int) : -(n.natAbs : Int) ≤ n.tdiv d ∧ n.tdiv d ≤ n.natAbs := by
  have h : (n.tdiv d).natAbs ≤ n.natAbs := by
    rw [Int.natAbs_tdiv]; exact Nat.div_le_self _ _
  omega
theorem tmod_bd (n d : Int) (hd : 0 < d) : -d < n.tmod d ∧ n.tmod d < d := ⟨tmod_lo n d hd, Int.tmod_lt_of_pos n hd⟩
theorem tmod_npos (n d : Int) : n < 0 → n.tmod d ≤ 0 := by
  intro h
  have h2 := Int.tmod_nonneg (a := -n) d (by omega)
  rw [Int.neg_tmod] at h2; omega
theorem tmod_neg (n d : Int) : n.tmod d < 0 → n < 0 := by
  intro h
  rcases Int.lt_or_le n 0 with h1 | h1
  · exact h1
  · have := Int.tmod_nonneg d h1; omega


end Go.Proofs.YtahfapeggijfkaaDoor
