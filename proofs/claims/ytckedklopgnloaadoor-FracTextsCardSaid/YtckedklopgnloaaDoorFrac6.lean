/- The simplest fraction of a range above 0: the document's simplest (it calls itself). -/
import Derived.Test.YtckedklopgnloaaDoorFrac5
namespace Go.Proofs.YtckedklopgnloaaDoor
open Go.RowKit

theorem ceil_facts (ln ld : Int) (h : 0 < ld) : (ceilF ln ld - 1) * ld < ln ∧ ln ≤ ceilF ln ld * ld := by
  have h1 := Int.ediv_mul_le (-ln) (show ld ≠ 0 by omega)
  have h2 := Int.lt_ediv_add_one_mul_self (-ln) h
  unfold ceilF
  generalize (-ln) / ld = q at *
  constructor <;> grind
theorem floor_facts (ln ld : Int) (h : 0 < ld) : ln / ld * ld ≤ ln ∧ ln < (ln / ld + 1) * ld := ⟨Int.ediv_mul_le ln (by omega), Int.lt_ediv_add_one_mul_self ln h⟩
/-- a range above 0 -/
def Rng (ln ld hn hd : Int) : Prop := 1 ≤ ln ∧ ln ≤ 2147483647 ∧ 1 ≤ ld ∧ ld ≤ 2147483647 ∧ 1 ≤ hn ∧ hn ≤ 2147483647 ∧ 1 ≤ hd ∧ hd ≤ 2147483647 ∧ ln * hd ≤ hn * ld
/-- what is still to be looked at, where no whole number lies within -/
theorem Rng.next {ln ld hn hd w : Int} (h : Rng ln ld hn hd) (f1 : w * ld ≤ ln) (f2 : ln < (w + 1) * ld) (hx : hn < (w + 1) * hd) (hz : w * ld ≠ ln) :
    0 ≤ w ∧ w ≤ 2147483647 ∧ 0 ≤ w * ld ∧ w * ld ≤ 2147483647 ∧ 0 ≤ w * hd ∧ w * hd ≤ 2147483647 ∧ Rng hd (hn - w * hd) ld (ln - w * ld) ∧ (hn - w * hd) + (ln - w * ld) < ld + hd := by
  obtain ⟨h1, h2, h3, h4, h5, h6, h7, h8, h9⟩ := h
  have hw1 : 0 < w + 1 := lt_of_mul (k := ld) (by omega) (by omega)
  have hw : 0 ≤ w := by omega
  have m1 := Int.mul_nonneg hw (show 0 ≤ ld by omega)
  have m2 := Int.mul_nonneg hw (show 0 ≤ hd by omega)
  have m3 := le_mul_self hw (show 1 ≤ ld by omega)
  have hlt : w * hd < hn := by
    apply lt_of_mul (k := ld) (by omega)
    have e1 : w * ld * hd < ln * hd := Int.mul_lt_mul_of_pos_right (by omega) (by omega)
    have e2 : w * hd * ld = w * ld * hd := by rw [Int.mul_assoc, Int.mul_comm hd ld, ← Int.mul_assoc]
    omega
  rw [Int.add_mul] at f2 hx
  refine ⟨hw, by omega, m1, by omega, m2, by omega, ⟨h7, h8, by omega, by omega, h3, h4, by omega, by omega, ?_⟩, by omega⟩
  rw [Int.mul_sub, Int.mul_sub]
  have e3 : hd * (w * ld) = ld * (w * hd) := by rw [Int.mul_left_comm, Int.mul_left_comm ld, Int.mul_comm hd ld]
  have e4 : hd * ln = ln * hd := Int.mul_comm _ _
  have e5 : ld * hn = hn * ld := Int.mul_comm _ _
  omega
/-- no whole number lies within: c is one more than w -/
theorem ceil_floor {ln ld hn hd c w : Int} (h : Rng ln ld hn hd) (c1 : (c - 1) * ld < ln) (c2 : ln ≤ c * ld) (f1 : w * ld ≤ ln) (f2 : ln < (w + 1) * ld) (hx : hn < c * hd) : c = w + 1 ∧ w * ld ≠ ln := by
  obtain ⟨h1, h2, h3, h4, h5, h6, h7, h8, h9⟩ := h
  have a1 : c - 1 < w + 1 := lt_of_mul (k := ld) (by omega) (by omega)
  have hz : w * ld ≠ ln := by
    intro he
    have a2 : c - 1 < w := lt_of_mul (k := ld) (by omega) (by omega)
    have a3 := Int.mul_le_mul_of_nonneg_right (show c ≤ w by omega) (show 0 ≤ hd by omega)
    have a4 : hn < w * hd := by omega
    have a5 := Int.mul_lt_mul_of_pos_right a4 (show 0 < ld by omega)
    have e2 : w * hd * ld = w * ld * hd := by rw [Int.mul_assoc, Int.mul_comm hd ld, ← Int.mul_assoc]
    rw [e2, he] at a5
    omega
  have a6 : w < c := lt_of_mul (k := ld) (by omega) (by omega)
  exact ⟨by omega, hz⟩

theorem cmpF_le (an ad bn bd : Int) : cmpF an ad bn bd ≤ 0 ↔ an * bd ≤ bn * ad := by
  unfold cmpF
  split
  · constructor
    · intro _; omega
    · intro _; decide
  · split
    · constructor
      · intro h; omega
      · intro _; omega
    · constructor
      · intro _; omega
      · intro _; decide

/-- two fractions' boxes and a result's, laid in one behind the other -/
structure Box3 (w : World) (an ad bn bd rn rd : Int) (W : World) : Prop where
  low : Below w.heap.size w W
  size : w.heap.size + 1 + 1 + 1 ≤ W.heap.size
  a : W.heap[w.heap.size]? = some (.cells #[.int .i64 an, .int .i64 ad] 23 (0, 0))
  b : W.heap[w.heap.size + 1]? = some (.cells #[.int .i64 bn, .int .i64 bd] 23 (0, 0))
  r : W.heap[w.heap.size + 1 + 1]? = some (.cells #[.int .i64 rn, .int .i64 rd] 23 (0, 0))
theorem Box3.start (w : World) (an ad bn bd rn rd : Int) : Box3 w an ad bn bd rn rd (((w.alloc (.cells #[.int .i64 an, .int .i64 ad] 23)).alloc (.cells #[.int .i64 bn, .int .i64 bd] 23)).alloc (.cells #[.int .i64 rn, .int .i64 rd] 23)) := by
  have s1 : ∀ (o : Obj), (w.alloc o).heap.size = w.heap.size + 1 := fun o => by simp
  have s2 : ∀ (o o2 : Obj), ((w.alloc o).alloc o2).heap.size = w.heap.size + 1 + 1 := fun o o2 => by simp
  refine ⟨(((Below.refl _ _).alloc (Nat.le_refl _) _).alloc (by rw [s1]; omega) _).alloc (by rw [s2]; omega) _, by simp, ?_, ?_, ?_⟩
  · rw [Below.heap_alloc _ _ _ (by rw [s2]; omega), Below.heap_alloc _ _ _ (by rw [s1]; omega), heap_alloc_new]
  · rw [Below.heap_alloc _ _ _ (by rw [s2]; omega), ← s1 (.cells #[.int .i64 an, .int .i64 ad] 23), heap_alloc_new]
  · rw [← s2 (.cells #[.int .i64 an, .int .i64 ad] 23) (.cells #[.int .i64 bn, .int .i64 bd] 23), heap_alloc_new]
theorem Box3.step {w W W' : World} {an ad bn bd rn rd : Int} (h : Box3 w an ad bn bd rn rd W) (g : Below W.heap.size W W') : Box3 w an ad bn bd rn rd W' := by
  have hz := h.size
  have hl := h.low.size
  exact ⟨h.low.trans (g.mono hl), Nat.le_trans h.size g.size, (g.block _ (by omega)).trans h.a, (g.block _ (by omega)).trans h.b, (g.block _ (by omega)).trans h.r⟩
theorem Box3.facts {w W : World} {an ad bn bd rn rd : Int} (h : Box3 w an ad bn bd rn rd W) :
    W.cell? ⟨w.heap.size, 0, none⟩ = some (.int .i64 an) ∧ W.cell? ⟨w.heap.size, 1, none⟩ = some (.int .i64 ad) ∧
    W.cell? ⟨w.heap.size + 1, 0, none⟩ = some (.int .i64 bn) ∧ W.cell? ⟨w.heap.size + 1, 1, none⟩ = some (.int .i64 bd) ∧
    W.cell? ⟨w.heap.size + 1 + 1, 0, none⟩ = some (.int .i64 rn) ∧ W.cell? ⟨w.heap.size + 1 + 1, 1, none⟩ = some (.int .i64 rd) ∧
    W.frozen? ⟨w.heap.size + 1 + 1, 0, none⟩ = false ∧ W.frozen? ⟨w.heap.size + 1 + 1, 1, none⟩ = false ∧
    W.frozen? ⟨w.heap.size, 0, none⟩ = false ∧ W.frozen? ⟨w.heap.size, 1, none⟩ = false ∧ W.frozen? ⟨w.heap.size + 1, 0, none⟩ = false ∧ W.frozen? ⟨w.heap.size + 1, 1, none⟩ = false :=
  ⟨cell_of_row _ _ 0 _ _ _ h.a, cell_of_row _ _ 1 _ _ _ h.a, cell_of_row _ _ 0 _ _ _ h.b, cell_of_row _ _ 1 _ _ _ h.b, cell_of_row _ _ 0 _ _ _ h.r, cell_of_row _ _ 1 _ _ _ h.r,
    frozen_of_row _ _ 0 _ _ h.r, frozen_of_row _ _ 1 _ _ h.r, frozen_of_row _ _ 0 _ _ h.a, frozen_of_row _ _ 1 _ _ h.a, frozen_of_row _ _ 0 _ _ h.b, frozen_of_row _ _ 1 _ _ h.b⟩

set_option maxRecDepth 100000 in
set_option maxHeartbeats 4000000 in
theorem simplest_any : ∀ (k : Nat) (ln ld hn hd : Int) (w : World), (ld + hd).toNat ≤ k → Rng ln ld hn hd →
    Calls Tryd.prog 48 #[frV ln ld, frV hn hd] w fun e w' => ∃ p q, e = .returned (frV p q) ∧ Smp ln ld hn hd p q ∧ Below w.heap.size w w' := by
  intro k
  induction k with
  | zero => intro ln ld hn hd w hk h; exfalso; obtain ⟨h1, h2, h3, h4, h5, h6, h7, h8, h9⟩ := h; omega
  | succ k ih =>
    intro ln ld hn hd w hk h
    have HRn := Lib.hid h
    obtain ⟨h1, h2, h3, h4, h5, h6, h7, h8, h9⟩ := h
    obtain ⟨g1, g2⟩ := ceil_facts ln ld (by omega)
    obtain ⟨f1, f2⟩ := floor_facts ln ld (by omega)
    have cc : ∀ W, _ := fun W => rceil_any ln ld W (by omega) (by omega) (by omega) (by omega)
    have cf : ∀ W, _ := fun W => rfloor_any ln ld W (by omega) (by omega) (by omega) (by omega)
    have hc1 : 1 ≤ ceilF ln ld := by
      have : 0 < ceilF ln ld := lt_of_mul (k := ld) (by omega) (by omega)
      omega
    have hc2 : ceilF ln ld ≤ 2147483647 := by
      have := le_mul_self (show 0 ≤ ceilF ln ld - 1 by omega) (show 1 ≤ ld by omega)
      omega
    generalize ceilF ln ld = c at *
    generalize ln / ld = u at *
    have cp : ∀ W, _ := fun W => rcmp_any c 1 hn hd W ⟨by omega, by omega, by omega, by omega⟩ ⟨by omega, by omega, by omega, by omega⟩
    have hcl := cmpF_le c 1 hn hd
    rw [Int.mul_one] at hcl
    generalize cmpF c 1 hn hd = C at *
    have HS0 := Lib.hid (Box3.start w ln ld hn hd 0 0)
    by_cases hx : c * hd ≤ hn
    · have HS := Lib.hid (Smp.whole (hn := hn) (show 0 < ld by omega) (show 0 < hd by omega) g1 g2 hx)
      have hC0 := hcl.2 hx
      clear hcl cf f1 f2 g1 g2 h9 hx
      go_enter Tryd.func48, Tryd.ntmps48
      go_wp2_with fail
      refine (cc _).mono ?_
      rintro e w1 ⟨rfl, hB1⟩
      have HB1 := Lib.hid (HS0.out.step hB1)
      obtain ⟨a0, a1, b0, b1, r0, r1, q0, q1, -, -, -, -⟩ := HB1.out.facts
      clear hB1 cc
      go_wp2_with fail
      refine (cp _).mono ?_
      rintro e w2 ⟨rfl, hB2⟩
      have HB2 := Lib.hid (HB1.out.step hB2)
      clear a0 a1 b0 b1 r0 r1 q0 q1
      obtain ⟨a0, a1, b0, b1, r0, r1, q0, q1, -, -, -, -⟩ := HB2.out.facts
      clear hB2 cp
      go_wp2
      exact bodyPost_ret (v := frV c 1) (by simp [results, Tryd.results48, go_sem, *]) rfl ⟨_, _, rfl, HS.out, bel_set (by omega) (bel_set (by omega) HB2.out.low)⟩
    · obtain ⟨hcw, hz⟩ := ceil_floor HRn.out g1 g2 f1 f2 (by omega)
      subst hcw
      have hC0 : 0 < C := by rcases Int.lt_or_le 0 C with h | h; exact h; exact absurd (hcl.1 h) hx
      have hxx : hn < (u + 1) * hd := by omega
      obtain ⟨n1, n2, n3, n4, n5, n6, hRng, hdec⟩ := HRn.out.next f1 f2 hxx hz
      have cr : ∀ W, _ := fun W => ih hd (hn - u * hd) ld (ln - u * ld) W (by omega) hRng
      have hg3 : 0 < hn - u * hd := by have := hRng.2.2.1; omega
      have hlt : u * ld < ln := by omega
      have HR2 := Lib.hid hRng
      have HD : Hid (∀ p q, Smp hd (hn - u * hd) ld (ln - u * ld) p q → Smp ln ld hn hd (u * p + q) p) := fun p q h => Smp.deep (by omega) (by omega) hg3 hlt f2 hxx h
      clear hcl f1 f2 g1 g2 h9 hx hxx hRng hz hlt hg3 ih hdec
      go_enter Tryd.func48, Tryd.ntmps48
      go_wp2_with fail
      refine (cc _).mono ?_
      rintro e w1 ⟨rfl, hB1⟩
      have HB1 := Lib.hid (HS0.out.step hB1)
      obtain ⟨a0, a1, b0, b1, r0, r1, q0, q1, -, -, -, -⟩ := HB1.out.facts
      clear hB1 cc
      go_wp2_with fail
      refine (cp _).mono ?_
      rintro e w2 ⟨rfl, hB2⟩
      have HB2 := Lib.hid (HB1.out.step hB2)
      clear a0 a1 b0 b1 r0 r1 q0 q1
      obtain ⟨a0, a1, b0, b1, r0, r1, q0, q1, -, -, -, -⟩ := HB2.out.facts
      clear hB2 cp
      go_wp2_with fail
      refine (cf _).mono ?_
      rintro e w3 ⟨rfl, hB3⟩
      have HB3 := Lib.hid (HB2.out.step hB3)
      clear a0 a1 b0 b1 r0 r1 q0 q1
      obtain ⟨a0, a1, b0, b1, r0, r1, q0, q1, -, -, -, -⟩ := HB3.out.facts
      clear hB3 cf
      go_wp2_with fail
      refine (cr _).mono ?_
      rintro e w4 ⟨p, q, rfl, hS, hB4⟩
      have HB4 := Lib.hid (HB3.out.step hB4)
      clear a0 a1 b0 b1 r0 r1 q0 q1
      obtain ⟨a0, a1, b0, b1, r0, r1, q0, q1, -, -, -, -⟩ := HB4.out.facts
      obtain ⟨x1, x2, x3, x4, x5, x6⟩ := hS.bounds (by have := HR2.out.1; omega)
      have hSS := HD.out p q hS
      obtain ⟨y1, y2, y3, y4, y5, y6⟩ := hSS.bounds (by omega)
      have hm := Int.mul_nonneg n1 (show 0 ≤ p by omega)
      have hmu : u * p ≤ 2147483647 := by omega
      have HSS := Lib.hid hSS
      have hsz4 := HB4.out.size
      have HB5 := Lib.hid (HB4.out.step ((Below.refl w4.heap.size w4).alloc (Nat.le_refl _) (.cells #[.int .i64 p, .int .i64 q] 23)))
      obtain ⟨-, -, -, -, r0', r1', q0', q1', -, -, -, -⟩ := HB5.out.facts
      clear hB4 cr hS hSS
      go_wp2_with fail
      exact bodyPost_ret (v := frV (u * p + q) p) (by simp [results, Tryd.results48, go_sem, *]) rfl ⟨_, _, rfl, HSS.out, bel_set (by omega) (bel_set (by omega) HB5.out.low)⟩

end Go.Proofs.YtckedklopgnloaaDoor
