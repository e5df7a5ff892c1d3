/- Reading a text: code's reader. -/
import Derived.Test.YtgnpjenpehfjbaaDoorCodeNumR
namespace Go.Proofs.YtgnpjenpehfjbaaDoor
open Go.RowKit

theorem numR_le (l : List UInt8) (f : Nat) : ∀ a acc, a ≤ l.length → (numR l f a acc).2.1 ≤ l.length := by
  induction f with
  | zero => intro a acc h; exact h
  | succ f ih =>
    intro a acc h
    show (if _ then _ else _ : Nat × Nat × Nat).2.1 ≤ _
    by_cases h1 : l.length ≤ a
    · rw [if_pos h1]; exact h
    · rw [if_neg h1]
      by_cases h2 : (f < 9 ∧ (l.getD a 0).toNat = 0) ∨ (f = 0 ∧ 1 < (l.getD a 0).toNat)
      · rw [if_pos h2]; exact h
      · rw [if_neg h2]
        by_cases h3 : (l.getD a 0).toNat < 128
        · rw [if_pos h3]; show a + 1 ≤ _; omega
        · rw [if_neg h3]; exact ih _ _ (by omega)

theorem numR_lt (l : List UInt8) (f : Nat) : ∀ a acc, f ≤ 9 → acc < 128 ^ (9 - f) → (numR l (f + 1) a acc).1 < 18446744073709551616 := by
  induction f with
  | zero =>
    intro a acc _ h
    show (if _ then _ else _ : Nat × Nat × Nat).1 < _
    by_cases h1 : l.length ≤ a
    · rw [if_pos h1]; simp
    · rw [if_neg h1]
      by_cases h2 : (0 < 9 ∧ (l.getD a 0).toNat = 0) ∨ (0 = 0 ∧ 1 < (l.getD a 0).toNat)
      · rw [if_pos h2]; simp
      · rw [if_neg h2]
        have h3 : (l.getD a 0).toNat ≤ 1 := by omega
        rw [if_pos (by omega)]
        show acc + _ * 128 ^ (9 - 0) < _
        have h4 : (l.getD a 0).toNat * 128 ^ (9 - 0) ≤ 1 * 128 ^ (9 - 0) := Nat.mul_le_mul_right _ h3
        have h5 : (128 : Nat) ^ (9 - 0) = 9223372036854775808 := by decide
        rw [h5] at h4 h
        rw [h5]
        omega
  | succ f ih =>
    intro a acc hf h
    show (if _ then _ else _ : Nat × Nat × Nat).1 < _
    have hp : (128 : Nat) ^ (9 - f) = 128 * 128 ^ (9 - (f + 1)) := by rw [show 9 - f = (9 - (f + 1)) + 1 by omega, Nat.pow_succ, Nat.mul_comm]
    have hp8 : (128 : Nat) ^ (9 - f) ≤ 128 ^ 9 := Nat.pow_le_pow_right (by decide) (by omega)
    have h9 : (128 : Nat) ^ 9 = 9223372036854775808 := by decide
    by_cases h1 : l.length ≤ a
    · rw [if_pos h1]; simp
    · rw [if_neg h1]
      by_cases h2 : (f + 1 < 9 ∧ (l.getD a 0).toNat = 0) ∨ (f + 1 = 0 ∧ 1 < (l.getD a 0).toNat)
      · rw [if_pos h2]; simp
      · rw [if_neg h2]
        have hc := (l.getD a 0).toNat_lt
        generalize (l.getD a 0).toNat = c at *
        by_cases h3 : c < 128
        · rw [if_pos h3]
          show acc + c * 128 ^ (9 - (f + 1)) < _
          have h4 : c * 128 ^ (9 - (f + 1)) ≤ 127 * 128 ^ (9 - (f + 1)) := Nat.mul_le_mul_right _ (by omega)
          omega
        · rw [if_neg h3]
          refine ih _ _ (by omega) ?_
          have h4 : (c - 128) * 128 ^ (9 - (f + 1)) ≤ 127 * 128 ^ (9 - (f + 1)) := Nat.mul_le_mul_right _ (by omega)
          omega

/-- the text, the place behind it, the code -/
def textR (l : List UInt8) (a : Nat) : List UInt8 × Nat × Nat :=
  if (numR l 10 a 0).2.2 ≠ 0 then ([], a, (numR l 10 a 0).2.2)
  else if l.length - (numR l 10 a 0).2.1 < (numR l 10 a 0).1 then ([], a, 21)
  else ((l.take ((numR l 10 a 0).2.1 + (numR l 10 a 0).1)).drop (numR l 10 a 0).2.1, (numR l 10 a 0).2.1 + (numR l 10 a 0).1, 0)

abbrev TextPost (rb : Nat) (vb : Value) (w : World) (T : List UInt8 × Nat × Nat) (x : Ending) (w' : World) : Prop :=
  (T.2.2 = 0 ∧ x = .returned (.string ⟨T.1.toArray⟩) ∧ Rd rb vb w w' T.2.1) ∨ (T.2.2 ≠ 0 ∧ x = gaveUp (T.2.2 : Int) ∧ ∃ a, Rd rb vb w w' a)

set_option maxRecDepth 100000 in
set_option maxHeartbeats 1000000 in
theorem reader_text (rb : Nat) (vb : Value) (l : List UInt8) (at_ : Nat) (w : World) (hc : w.heap[rb]? = some (curO vb at_)) (hb : Bts w rb vb l) (hat : at_ ≤ l.length) (hl : l.length ≤ 1000000000000) :
    Calls Tryd.prog 92 #[.pointer (some ⟨rb, 0, none⟩)] w fun x w' => TextPost rb vb w (textR l at_) x w' := by
  have c1 := reader_number rb vb l at_ w hc hb
  have hle := numR_le l 10 at_ 0 hat
  have hlt := numR_lt l 9 at_ 0 (by decide) (by decide)
  have hT : textR l at_ = if (numR l 10 at_ 0).2.2 ≠ 0 then ([], at_, (numR l 10 at_ 0).2.2)
    else if l.length - (numR l 10 at_ 0).2.1 < (numR l 10 at_ 0).1 then ([], at_, 21)
    else ((l.take ((numR l 10 at_ 0).2.1 + (numR l 10 at_ 0).1)).drop (numR l 10 at_ 0).2.1, (numR l 10 at_ 0).2.1 + (numR l 10 at_ 0).1, 0) := rfl
  generalize textR l at_ = T at *
  generalize numR l 10 at_ 0 = R at *
  obtain ⟨x, a, e⟩ := R
  simp only at hT hle hlt
  have HBB := Lib.hid hb
  have HTT := Lib.hid hT
  obtain ⟨ao, cap, hv, hcap, _⟩ := id hb
  clear hb hT hc
  go_enter Tryd.func92, Tryd.ntmps92
  go_wp2_with fail
  refine c1.mono ?_
  rintro en w1 hp
  rcases hp with ⟨he, hx, hD⟩ | ⟨he, hx, b, hD⟩
  · simp only at he hx hD
    subst he hx
    have h0 : w1.cell? ⟨rb, 0, none⟩ = some vb := cell_of_row w1 rb 0 _ _ _ hD.cur
    have h1 : w1.cell? ⟨rb, 1, none⟩ = some (.int .i64 (a : Int)) := cell_of_row w1 rb 1 _ _ _ hD.cur
    have hf : w1.frozen? ⟨rb, 1, none⟩ = false := frozen_of_row w1 rb 1 _ _ hD.cur
    have hb1 := hD.bts HBB.out
    by_cases hbig : l.length - a < x
    · have hT2 : Hid (T = ([], at_, 21)) := by show T = _; rw [HTT.out, if_neg (by simp), if_pos hbig]
      have HD := Lib.hid hD
      clear HTT hD c1 HBB hb1 hf
      generalize l.length = n at *
      subst hv
      go_wp2
      go_quiet (fail)
      go_wp2_with (go_at_call 91; refine (fail_calls _ _ _).mono ?_; rintro e w' ⟨rfl, rfl⟩)
      refine ⟨rfl, .inr ?_⟩
      rw [hT2.out]
      exact ⟨by simp, rfl, a, HD.out.drew _⟩
    · obtain ⟨v1, hb2, hr1⟩ := hb1.cutB a (a + x) (by omega) (by omega)
      have hT2 : Hid (T = ((l.take (a + x)).drop a, a + x, 0)) := by show T = _; rw [HTT.out, if_neg (by simp), if_neg hbig]
      have HD := Lib.hid hD
      have hs : ∀ n m, (convert 27 9 v1).run Tryd.prog (((w1.drewN m).setCell ⟨rb, 1, none⟩ (.int .i64 ((a + x : Nat) : Int))).drewN n) = .ok (.string ⟨((l.take (a + x)).drop a).toArray⟩) (((w1.drewN m).setCell ⟨rb, 1, none⟩ (.int .i64 ((a + x : Nat) : Int))).drewN n) := fun n m =>
        (hb2.below ((((Rd.refl hD.cur).drew m).step (a + x)).drew n).below (Nat.le_refl _)).strB
      have hcast : (((a + x : Nat)) : Int) = (a : Int) + (x : Int) := by omega
      rw [hcast] at hs hr1
      clear HTT hD c1 HBB hb1 hcast
      generalize (l.take (a + x)).drop a = tx at *
      generalize l.length = n at *
      subst hv
      go_wp2
      go_quiet (fail)
      go_wp2
      go_quiet (fail)
      go_wp2
      go_ret
      refine .inl ?_
      rw [hT2.out]
      exact ⟨rfl, rfl, ((HD.out.drew _).step (a + x)).drew _⟩
  · simp only at he hx hD
    subst hx
    refine ⟨rfl, .inr ?_⟩
    rw [HTT.out, if_pos he]
    exact ⟨he, rfl, b, hD⟩

end Go.Proofs.YtgnpjenpehfjbaaDoor
