/- Near on both sides (by program: wip/tools/gen_near.py). -/
import Derived.Test.YtckedklopgnloaaDoorFrac8
namespace Go.Proofs.YtckedklopgnloaaDoor
open Go.RowKit

/-- what Near answers -/
def NearR (ln ld hn hd n d : Int) (ok : Bool) : Prop :=
  (hn * ld < ln * hd ∧ n = 0 ∧ d = 0 ∧ ok = false) ∨
  (ln * hd ≤ hn * ld ∧ ok = true ∧
    ((ln ≤ 0 ∧ 0 ≤ hn ∧ n = 0 ∧ d = 1) ∨ (hn < 0 ∧ Smp (-hn) hd (-ln) ld (-n) d) ∨ (0 < ln ∧ Smp ln ld hn hd n d)))
theorem NearR.only {ln ld hn hd n d n' d' : Int} {ok ok' : Bool} (hl : 0 < ld) (hh : 0 < hd) (h : NearR ln ld hn hd n d ok) (h' : NearR ln ld hn hd n' d' ok') : n' = n ∧ d' = d ∧ ok' = ok := by
  rcases h with ⟨a, rfl, rfl, rfl⟩ | ⟨a, rfl, b⟩
  · rcases h' with ⟨_, rfl, rfl, rfl⟩ | ⟨a', _⟩
    · exact ⟨rfl, rfl, rfl⟩
    · omega
  · rcases h' with ⟨a', _⟩ | ⟨_, rfl, b'⟩
    · omega
    · have key : hn < 0 → 0 < ln → False := fun h1 h2 => by
        have e1 := Int.mul_pos h2 hh
        have e2 := Int.mul_neg_of_neg_of_pos h1 hl
        omega
      rcases b with ⟨b1, b2, rfl, rfl⟩ | ⟨b1, b2⟩ | ⟨b1, b2⟩ <;> rcases b' with ⟨c1, c2, rfl, rfl⟩ | ⟨c1, c2⟩ | ⟨c1, c2⟩
      · exact ⟨rfl, rfl, rfl⟩
      · omega
      · omega
      · omega
      · obtain ⟨e1, e2⟩ := b2.only _ _ c2
        exact ⟨by omega, e2, rfl⟩
      · exact (key b1 c1).elim
      · omega
      · exact (key c1 b1).elim
      · obtain ⟨e1, e2⟩ := b2.only _ _ c2
        exact ⟨e1, e2, rfl⟩
abbrev nearV (n d : Int) (ok : Bool) : Value := .tuple #[frV n d, .bool ok]
theorem rng_pos {ln ld hn hd : Int} (hl : Val ln ld) (hh : Val hn hd) (h : ln * hd ≤ hn * ld) (hp : 0 < ln) : Rng ln ld hn hd := by
  obtain ⟨a1, a2, a3, a4, _⟩ := hl
  obtain ⟨b1, b2, b3, b4, _⟩ := hh
  have hn0 : 0 < hn := by
    rcases Int.lt_or_le 0 hn with h0 | h0
    · exact h0
    · have e1 := Int.mul_pos hp (show 0 < hd by omega)
      have e2 := Int.mul_nonneg (show 0 ≤ -hn by omega) (show 0 ≤ ld by omega)
      rw [Int.neg_mul] at e2
      omega
  exact ⟨by omega, a4, a1, a2, by omega, b4, b1, b2, h⟩
theorem Val.neg {n d : Int} (h : Val n d) : Val (-n) d := by
  obtain ⟨a1, a2, a3, a4, a5⟩ := h
  exact ⟨a1, a2, by omega, by omega, by rw [Int.natAbs_neg]; exact a5⟩


set_option maxRecDepth 100000 in
set_option maxHeartbeats 2000000 in
theorem near_pos (ln ld hn hd : Int) (w : World) (hl : Val ln ld) (hh : Val hn hd) (hle : ln * hd ≤ hn * ld) (hp : 0 < ln) :
    Calls Tryd.prog 17 #[frV ln ld, frV hn hd] w fun e w' => ∃ n d, e = .returned (nearV n d true) ∧ Smp ln ld hn hd n d ∧ Below w.heap.size w w' := by
  have hR := rng_pos hl hh hle hp
  have cb : ∀ W, _ := fun W => between_any ln ld hn hd W hR
  have HVl := Lib.hid hl
  have HVh := Lib.hid hh
  have cp : ∀ W, _ := fun W => cmp_any ln ld hn hd W hl.fit hh.fit
  have hcl := cmpF_le ln ld hn hd
  generalize cmpF ln ld hn hd = C at *
  obtain ⟨l1, l2, l3, l4, -⟩ := hl
  obtain ⟨g1, g2, g3, g4, -⟩ := hh
  have hC := hcl.2 hle
  have hpn : 0 < hn := by have := hR.2.2.2.2.1; omega
  have d1 : decide (ln ≤ 0) = false := by rw [decide_eq_false_iff_not]; omega
  have HRn := Lib.hid hR
  clear hcl hle hR
  have HS0 := Lib.hid (Box3.start w ln ld hn hd 0 0)
  obtain ⟨a0, a1, b0, b1, r0, r1, q0, q1, -, -, -, -⟩ := HS0.out.facts
  go_enter Tryd.func17, Tryd.ntmps17
  go_wp2_with fail
  refine (cp _).mono ?_
  rintro e w1 ⟨rfl, hB⟩
  have HB1 := Lib.hid (HS0.out.step hB)
  clear a0 a1 b0 b1 r0 r1 q0 q1 hB
  obtain ⟨a0, a1, b0, b1, r0, r1, q0, q1, -, -, -, -⟩ := HB1.out.facts
  go_wp2_with fail
  refine (cb _).mono ?_
  rintro e w2 ⟨p, q, rfl, hS, hB⟩
  have HB2 := Lib.hid (HB1.out.step hB)
  clear a0 a1 b0 b1 r0 r1 q0 q1 hB
  obtain ⟨a0, a1, b0, b1, r0, r1, q0, q1, -, -, -, -⟩ := HB2.out.facts
  have HS := Lib.hid hS
  clear hS cp cb
  go_wp2_with fail
  exact bodyPost_ret (v := nearV p q true) (by simp [results, Tryd.results17, go_sem, *]) rfl ⟨_, _, rfl, HS.out, bel_set (by omega) (bel_set (by omega) HB2.out.low)⟩


set_option maxRecDepth 100000 in
set_option maxHeartbeats 2000000 in
theorem near_any (ln ld hn hd : Int) (w : World) (hl : Val ln ld) (hh : Val hn hd) :
    Calls Tryd.prog 17 #[frV ln ld, frV hn hd] w fun e w' => ∃ n d ok, e = .returned (nearV n d ok) ∧ NearR ln ld hn hd n d ok ∧ Below w.heap.size w w' := by
  by_cases hle : ln * hd ≤ hn * ld
  · by_cases hp : 0 < ln
    · refine (near_pos ln ld hn hd w hl hh hle hp).mono ?_
      rintro e w' ⟨p, q, rfl, hS, hB⟩
      exact ⟨p, q, true, rfl, .inr ⟨hle, rfl, .inr (.inr ⟨hp, hS⟩)⟩, hB⟩
    by_cases hz : 0 ≤ hn
    · have hrel : NearR ln ld hn hd 0 1 true := .inr ⟨hle, rfl, .inl ⟨by omega, hz, rfl, rfl⟩⟩
      have HRl := Lib.hid hrel
      have HVl := Lib.hid hl
      have HVh := Lib.hid hh
      have cp : ∀ W, _ := fun W => cmp_any ln ld hn hd W hl.fit hh.fit
      have hcl := cmpF_le ln ld hn hd
      generalize cmpF ln ld hn hd = C at *
      obtain ⟨l1, l2, l3, l4, -⟩ := hl
      obtain ⟨g1, g2, g3, g4, -⟩ := hh
      have hC := hcl.2 hle
      have d1 : decide (ln ≤ 0) = true := by rw [decide_eq_true_iff]; omega
      have d2 : decide (0 ≤ hn) = true := by rw [decide_eq_true_iff]; omega
      clear hcl hle hrel hp
      have HS0 := Lib.hid (Box3.start w ln ld hn hd 0 0)
      obtain ⟨a0, a1, b0, b1, r0, r1, q0, q1, -, -, -, -⟩ := HS0.out.facts
      go_enter Tryd.func17, Tryd.ntmps17
      go_wp2_with fail
      refine (cp _).mono ?_
      rintro e w1 ⟨rfl, hB⟩
      have HB1 := Lib.hid (HS0.out.step hB)
      clear a0 a1 b0 b1 r0 r1 q0 q1 hB
      obtain ⟨a0, a1, b0, b1, r0, r1, q0, q1, -, -, -, -⟩ := HB1.out.facts
      clear cp
      go_wp2_with fail
      exact bodyPost_ret (v := nearV (0) (1) true) (by simp [results, Tryd.results17, go_sem, *]) rfl ⟨_, _, _, rfl, HRl.out, bel_set (by omega) (bel_set (by omega) HB1.out.low)⟩
    · have hC0 : hn < 0 := by omega
      have hle2 : -hn * ld ≤ -ln * hd := by rw [Int.neg_mul, Int.neg_mul]; omega
      have cn : ∀ W, _ := fun W => near_pos (-hn) hd (-ln) ld W hh.neg hl.neg hle2 (by omega)
      have HRl : Hid (∀ p q, Smp (-hn) hd (-ln) ld p q → NearR ln ld hn hd (-p) q true) := fun p q h => .inr ⟨hle, rfl, .inr (.inl ⟨hC0, by rw [Int.neg_neg]; exact h⟩)⟩
      have HVl := Lib.hid hl
      have HVh := Lib.hid hh
      have cp : ∀ W, _ := fun W => cmp_any ln ld hn hd W hl.fit hh.fit
      have hcl := cmpF_le ln ld hn hd
      generalize cmpF ln ld hn hd = C at *
      obtain ⟨l1, l2, l3, l4, -⟩ := hl
      obtain ⟨g1, g2, g3, g4, -⟩ := hh
      have hC := hcl.2 hle
      have d1 : decide (ln ≤ 0) = true := by rw [decide_eq_true_iff]; omega
      have d2 : decide (0 ≤ hn) = false := by rw [decide_eq_false_iff_not]; omega
      clear hcl hle hle2 hp hz
      have HS0 := Lib.hid (Box3.start w ln ld hn hd 0 0)
      obtain ⟨a0, a1, b0, b1, r0, r1, q0, q1, -, -, -, -⟩ := HS0.out.facts
      go_enter Tryd.func17, Tryd.ntmps17
      go_wp2_with fail
      refine (cp _).mono ?_
      rintro e w1 ⟨rfl, hB⟩
      have HB1 := Lib.hid (HS0.out.step hB)
      clear a0 a1 b0 b1 r0 r1 q0 q1 hB
      obtain ⟨a0, a1, b0, b1, r0, r1, q0, q1, -, -, -, -⟩ := HB1.out.facts
      go_wp2_with fail
      refine (cn _).mono ?_
      rintro e w2 ⟨p, q, rfl, hS, hB⟩
      have HB2 := Lib.hid (HB1.out.step hB)
      clear a0 a1 b0 b1 r0 r1 q0 q1 hB
      obtain ⟨a0, a1, b0, b1, r0, r1, q0, q1, -, -, -, -⟩ := HB2.out.facts
      have HSm := Lib.hid (HRl.out p q hS)
      obtain ⟨x1, x2, x3, x4, x5, x6⟩ := hS.bounds (by omega)
      have HB3 := Lib.hid (HB2.out.step ((Below.refl w2.heap.size w2).alloc (Nat.le_refl _) (.cells #[.int .i64 p, .int .i64 q] 23)))
      obtain ⟨-, -, -, -, r0', r1', q0', q1', -, -, -, -⟩ := HB3.out.facts
      have HB4 := Lib.hid (HB2.out.step ((Below.refl w2.heap.size w2).alloc (Nat.le_refl _) (.cells #[.int .i64 (-p), .int .i64 q] 23)))
      obtain ⟨-, -, -, -, s0', s1', t0', t1', -, -, -, -⟩ := HB4.out.facts
      clear hS cp cn
      go_wp2_with fail
      exact bodyPost_ret (v := nearV (-p) (q) true) (by simp [results, Tryd.results17, go_sem, *]) rfl ⟨_, _, _, rfl, HSm.out, bel_set (by omega) (bel_set (by omega) (by first | exact HB4.out.low | exact HB3.out.low))⟩
  · have hrel : NearR ln ld hn hd 0 0 false := .inl ⟨by omega, rfl, rfl, rfl⟩
    have HRl := Lib.hid hrel
    have HVl := Lib.hid hl
    have HVh := Lib.hid hh
    have cp : ∀ W, _ := fun W => cmp_any ln ld hn hd W hl.fit hh.fit
    have hcl := cmpF_le ln ld hn hd
    generalize cmpF ln ld hn hd = C at *
    obtain ⟨l1, l2, l3, l4, -⟩ := hl
    obtain ⟨g1, g2, g3, g4, -⟩ := hh
    have hC : 0 < C := by rcases Int.lt_or_le 0 C with h | h; exact h; exact absurd (hcl.1 h) hle
    clear hcl hle hrel
    have HS0 := Lib.hid (Box3.start w ln ld hn hd 0 0)
    obtain ⟨a0, a1, b0, b1, r0, r1, q0, q1, -, -, -, -⟩ := HS0.out.facts
    go_enter Tryd.func17, Tryd.ntmps17
    go_wp2_with fail
    refine (cp _).mono ?_
    rintro e w1 ⟨rfl, hB⟩
    have HB1 := Lib.hid (HS0.out.step hB)
    clear a0 a1 b0 b1 r0 r1 q0 q1 hB
    obtain ⟨a0, a1, b0, b1, r0, r1, q0, q1, -, -, -, -⟩ := HB1.out.facts
    clear cp
    go_wp2_with fail
    exact bodyPost_ret (v := nearV (0) (0) false) (by simp [results, Tryd.results17, go_sem, *]) rfl ⟨_, _, _, rfl, HRl.out, bel_set (by omega) (bel_set (by omega) HB1.out.low)⟩


set_option maxRecDepth 100000 in
set_option maxHeartbeats 2000000 in
theorem rnear_pos (ln ld hn hd : Int) (w : World) (hl : Val ln ld) (hh : Val hn hd) (hle : ln * hd ≤ hn * ld) (hp : 0 < ln) :
    Calls Tryd.prog 18 #[frV ln ld, frV hn hd] w fun e w' => ∃ n d, e = .returned (nearV n d true) ∧ Smp ln ld hn hd n d ∧ Below w.heap.size w w' := by
  have hR := rng_pos hl hh hle hp
  have cb : ∀ W, _ := fun W => simplest_any _ ln ld hn hd W (Nat.le_refl _) hR
  have HVl := Lib.hid hl
  have HVh := Lib.hid hh
  have cp : ∀ W, _ := fun W => rcmp_any ln ld hn hd W hl.fit hh.fit
  have hcl := cmpF_le ln ld hn hd
  generalize cmpF ln ld hn hd = C at *
  obtain ⟨l1, l2, l3, l4, -⟩ := hl
  obtain ⟨g1, g2, g3, g4, -⟩ := hh
  have hC := hcl.2 hle
  have hpn : 0 < hn := by have := hR.2.2.2.2.1; omega
  have d1 : decide (ln ≤ 0) = false := by rw [decide_eq_false_iff_not]; omega
  have HRn := Lib.hid hR
  clear hcl hle hR
  have HS0 := Lib.hid (Box3.start w ln ld hn hd 0 0)
  obtain ⟨a0, a1, b0, b1, r0, r1, q0, q1, -, -, -, -⟩ := HS0.out.facts
  go_enter Tryd.func18, Tryd.ntmps18
  go_wp2_with fail
  refine (cp _).mono ?_
  rintro e w1 ⟨rfl, hB⟩
  have HB1 := Lib.hid (HS0.out.step hB)
  clear a0 a1 b0 b1 r0 r1 q0 q1 hB
  obtain ⟨a0, a1, b0, b1, r0, r1, q0, q1, -, -, -, -⟩ := HB1.out.facts
  go_wp2_with fail
  refine (cb _).mono ?_
  rintro e w2 ⟨p, q, rfl, hS, hB⟩
  have HB2 := Lib.hid (HB1.out.step hB)
  clear a0 a1 b0 b1 r0 r1 q0 q1 hB
  obtain ⟨a0, a1, b0, b1, r0, r1, q0, q1, -, -, -, -⟩ := HB2.out.facts
  have HS := Lib.hid hS
  clear hS cp cb
  go_wp2_with fail
  exact bodyPost_ret (v := nearV p q true) (by simp [results, Tryd.results18, go_sem, *]) rfl ⟨_, _, rfl, HS.out, bel_set (by omega) (bel_set (by omega) HB2.out.low)⟩


set_option maxRecDepth 100000 in
set_option maxHeartbeats 2000000 in
theorem rnear_any (ln ld hn hd : Int) (w : World) (hl : Val ln ld) (hh : Val hn hd) :
    Calls Tryd.prog 18 #[frV ln ld, frV hn hd] w fun e w' => ∃ n d ok, e = .returned (nearV n d ok) ∧ NearR ln ld hn hd n d ok ∧ Below w.heap.size w w' := by
  by_cases hle : ln * hd ≤ hn * ld
  · by_cases hp : 0 < ln
    · refine (rnear_pos ln ld hn hd w hl hh hle hp).mono ?_
      rintro e w' ⟨p, q, rfl, hS, hB⟩
      exact ⟨p, q, true, rfl, .inr ⟨hle, rfl, .inr (.inr ⟨hp, hS⟩)⟩, hB⟩
    by_cases hz : 0 ≤ hn
    · have hrel : NearR ln ld hn hd 0 1 true := .inr ⟨hle, rfl, .inl ⟨by omega, hz, rfl, rfl⟩⟩
      have HRl := Lib.hid hrel
      have HVl := Lib.hid hl
      have HVh := Lib.hid hh
      have cp : ∀ W, _ := fun W => rcmp_any ln ld hn hd W hl.fit hh.fit
      have hcl := cmpF_le ln ld hn hd
      generalize cmpF ln ld hn hd = C at *
      obtain ⟨l1, l2, l3, l4, -⟩ := hl
      obtain ⟨g1, g2, g3, g4, -⟩ := hh
      have hC := hcl.2 hle
      have d1 : decide (ln ≤ 0) = true := by rw [decide_eq_true_iff]; omega
      have d2 : decide (0 ≤ hn) = true := by rw [decide_eq_true_iff]; omega
      clear hcl hle hrel hp
      have HS0 := Lib.hid (Box3.start w ln ld hn hd 0 0)
      obtain ⟨a0, a1, b0, b1, r0, r1, q0, q1, -, -, -, -⟩ := HS0.out.facts
      go_enter Tryd.func18, Tryd.ntmps18
      go_wp2_with fail
      refine (cp _).mono ?_
      rintro e w1 ⟨rfl, hB⟩
      have HB1 := Lib.hid (HS0.out.step hB)
      clear a0 a1 b0 b1 r0 r1 q0 q1 hB
      obtain ⟨a0, a1, b0, b1, r0, r1, q0, q1, -, -, -, -⟩ := HB1.out.facts
      clear cp
      go_wp2_with fail
      exact bodyPost_ret (v := nearV (0) (1) true) (by simp [results, Tryd.results18, go_sem, *]) rfl ⟨_, _, _, rfl, HRl.out, bel_set (by omega) (bel_set (by omega) HB1.out.low)⟩
    · have hC0 : hn < 0 := by omega
      have hle2 : -hn * ld ≤ -ln * hd := by rw [Int.neg_mul, Int.neg_mul]; omega
      have cn : ∀ W, _ := fun W => simplest_any _ (-hn) hd (-ln) ld W (Nat.le_refl _) (rng_pos hh.neg hl.neg hle2 (by omega))
      have HRl : Hid (∀ p q, Smp (-hn) hd (-ln) ld p q → NearR ln ld hn hd (-p) q true) := fun p q h => .inr ⟨hle, rfl, .inr (.inl ⟨hC0, by rw [Int.neg_neg]; exact h⟩)⟩
      have HVl := Lib.hid hl
      have HVh := Lib.hid hh
      have cp : ∀ W, _ := fun W => rcmp_any ln ld hn hd W hl.fit hh.fit
      have hcl := cmpF_le ln ld hn hd
      generalize cmpF ln ld hn hd = C at *
      obtain ⟨l1, l2, l3, l4, -⟩ := hl
      obtain ⟨g1, g2, g3, g4, -⟩ := hh
      have hC := hcl.2 hle
      have d1 : decide (ln ≤ 0) = true := by rw [decide_eq_true_iff]; omega
      have d2 : decide (0 ≤ hn) = false := by rw [decide_eq_false_iff_not]; omega
      clear hcl hle hle2 hp hz
      have HS0 := Lib.hid (Box3.start w ln ld hn hd 0 0)
      obtain ⟨a0, a1, b0, b1, r0, r1, q0, q1, -, -, -, -⟩ := HS0.out.facts
      go_enter Tryd.func18, Tryd.ntmps18
      go_wp2_with fail
      refine (cp _).mono ?_
      rintro e w1 ⟨rfl, hB⟩
      have HB1 := Lib.hid (HS0.out.step hB)
      clear a0 a1 b0 b1 r0 r1 q0 q1 hB
      obtain ⟨a0, a1, b0, b1, r0, r1, q0, q1, -, -, -, -⟩ := HB1.out.facts
      go_wp2_with fail
      refine (cn _).mono ?_
      rintro e w2 ⟨p, q, rfl, hS, hB⟩
      have HB2 := Lib.hid (HB1.out.step hB)
      clear a0 a1 b0 b1 r0 r1 q0 q1 hB
      obtain ⟨a0, a1, b0, b1, r0, r1, q0, q1, -, -, -, -⟩ := HB2.out.facts
      have HSm := Lib.hid (HRl.out p q hS)
      obtain ⟨x1, x2, x3, x4, x5, x6⟩ := hS.bounds (by omega)
      have HB3 := Lib.hid (HB2.out.step ((Below.refl w2.heap.size w2).alloc (Nat.le_refl _) (.cells #[.int .i64 p, .int .i64 q] 23)))
      obtain ⟨-, -, -, -, r0', r1', q0', q1', -, -, -, -⟩ := HB3.out.facts
      have HB4 := Lib.hid (HB2.out.step ((Below.refl w2.heap.size w2).alloc (Nat.le_refl _) (.cells #[.int .i64 (-p), .int .i64 q] 23)))
      obtain ⟨-, -, -, -, s0', s1', t0', t1', -, -, -, -⟩ := HB4.out.facts
      clear hS cp cn
      go_wp2_with fail
      exact bodyPost_ret (v := nearV (-p) (q) true) (by simp [results, Tryd.results18, go_sem, *]) rfl ⟨_, _, _, rfl, HSm.out, bel_set (by omega) (bel_set (by omega) (by first | exact HB4.out.low | exact HB3.out.low))⟩
  · have hrel : NearR ln ld hn hd 0 0 false := .inl ⟨by omega, rfl, rfl, rfl⟩
    have HRl := Lib.hid hrel
    have HVl := Lib.hid hl
    have HVh := Lib.hid hh
    have cp : ∀ W, _ := fun W => rcmp_any ln ld hn hd W hl.fit hh.fit
    have hcl := cmpF_le ln ld hn hd
    generalize cmpF ln ld hn hd = C at *
    obtain ⟨l1, l2, l3, l4, -⟩ := hl
    obtain ⟨g1, g2, g3, g4, -⟩ := hh
    have hC : 0 < C := by rcases Int.lt_or_le 0 C with h | h; exact h; exact absurd (hcl.1 h) hle
    clear hcl hle hrel
    have HS0 := Lib.hid (Box3.start w ln ld hn hd 0 0)
    obtain ⟨a0, a1, b0, b1, r0, r1, q0, q1, -, -, -, -⟩ := HS0.out.facts
    go_enter Tryd.func18, Tryd.ntmps18
    go_wp2_with fail
    refine (cp _).mono ?_
    rintro e w1 ⟨rfl, hB⟩
    have HB1 := Lib.hid (HS0.out.step hB)
    clear a0 a1 b0 b1 r0 r1 q0 q1 hB
    obtain ⟨a0, a1, b0, b1, r0, r1, q0, q1, -, -, -, -⟩ := HB1.out.facts
    clear cp
    go_wp2_with fail
    exact bodyPost_ret (v := nearV (0) (0) false) (by simp [results, Tryd.results18, go_sem, *]) rfl ⟨_, _, _, rfl, HRl.out, bel_set (by omega) (bel_set (by omega) HB1.out.low)⟩


end Go.Proofs.YtckedklopgnloaaDoor
