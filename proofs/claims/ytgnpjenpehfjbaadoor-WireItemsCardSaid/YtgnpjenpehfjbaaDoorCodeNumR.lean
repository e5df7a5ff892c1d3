/- Reading a number: code's reader. -/
import Derived.Test.YtgnpjenpehfjbaaDoorCodeCur
namespace Go.Proofs.YtgnpjenpehfjbaaDoor
open Go.RowKit

/-- the number, the place behind it, the code; f: how many bytes may still come, less one is the weight's distance from 9 -/
def numR (l : List UInt8) : Nat → Nat → Nat → Nat × Nat × Nat
  | 0, a, acc => (acc, a, 0)
  | f + 1, a, acc =>
    if l.length ≤ a then (0, a, 21)
    else if (f < 9 ∧ (l.getD a 0).toNat = 0) ∨ (f = 0 ∧ 1 < (l.getD a 0).toNat) then (0, a, 20)
    else if (l.getD a 0).toNat < 128 then (acc + (l.getD a 0).toNat * 128 ^ (9 - f), a + 1, 0)
    else numR l f (a + 1) (acc + ((l.getD a 0).toNat - 128) * 128 ^ (9 - f))

theorem and127_all : ∀ c : Fin 256, bits .and .u8 ((c.1 : Nat) : Int) 127 = ((c.1 % 128 : Nat) : Int) := by decide +kernel
theorem and127 (c : UInt8) : bits .and .u8 (c.toNat : Int) 127 = ((c.toNat % 128 : Nat) : Int) := and127_all ⟨c.toNat, c.toNat_lt⟩

theorem pow128 (k : Nat) : 128 ^ k = 2 ^ (7 * k) := by rw [Nat.pow_mul]

theorem wrap7 (m i : Nat) (hm : m * 128 ^ i < 18446744073709551616) : IntKind.u64.wrap ((m : Int) * 2 ^ (7 * i)) = ((m * 128 ^ i : Nat) : Int) := by
  rw [IntKind.wrap_u64]
  have e2 : (m : Int) * 2 ^ (7 * i) = ((m * 128 ^ i : Nat) : Int) := by rw [pow128]; simp
  rw [e2]
  omega

theorem or_add (acc q k : Nat) (h : acc < 128 ^ k) : acc ||| q * 128 ^ k = acc + q * 128 ^ k := by
  have := Nat.two_pow_add_eq_or_of_lt (i := 7 * k) (b := acc) (by rw [← pow128]; exact h) q
  rw [Nat.or_comm, pow128, Nat.mul_comm q, ← this, Nat.add_comm]

theorem mul_bound (m i : Nat) (hm : m < 128) (hi : i < 9) : m * 128 ^ i < 18446744073709551616 := by
  have h1 : m * 128 ^ i ≤ 127 * 128 ^ i := Nat.mul_le_mul_right _ (by omega)
  have h2 : 127 * 128 ^ i ≤ 127 * 128 ^ 8 := Nat.mul_le_mul_left _ (Nat.pow_le_pow_right (by decide) (by omega))
  exact Nat.lt_of_le_of_lt (Nat.le_trans h1 h2) (by decide)

abbrev NumPost (rb : Nat) (vb : Value) (w : World) (R : Nat × Nat × Nat) (x : Ending) (w' : World) : Prop :=
  (R.2.2 = 0 ∧ x = .returned (.int .u64 (R.1 : Int)) ∧ Rd rb vb w w' R.2.1) ∨ (R.2.2 ≠ 0 ∧ x = gaveUp (R.2.2 : Int) ∧ ∃ a, Rd rb vb w w' a)

set_option maxRecDepth 100000 in
set_option maxHeartbeats 1000000 in
theorem reader_number (rb : Nat) (vb : Value) (l : List UInt8) (at_ : Nat) (w : World) (hc : w.heap[rb]? = some (curO vb at_)) (hb : Bts w rb vb l) :
    Calls Tryd.prog 90 #[.pointer (some ⟨rb, 0, none⟩)] w fun x w' => NumPost rb vb w (numR l 10 at_ 0) x w' := by
  have hR0 : Hid (numR l 10 at_ 0 = numR l 10 at_ 0) := rfl
  generalize hRR : numR l 10 at_ 0 = R at *
  have HR := Lib.hid hRR
  clear hRR hR0
  have HC := Lib.hid (Rd.refl hc)
  have HBB := Lib.hid hb
  clear hc hb
  go_enter Tryd.func90, Tryd.ntmps90
  go_wp2_with fail
  go_loopw [3, 4, 5, 6] (fun x k1 c k wr => ∃ (i f a acc : Nat), i + f = 9 ∧ k = .int .i64 (i : Int) ∧ x = .int .u64 (acc : Int) ∧ Hid (acc < 128 ^ i) ∧ Hid (R = numR l (f + 1) a acc) ∧ Hid (Rd rb vb w wr a)) (fun _ _ _ k _ => 10 - (intOf k).toNat)
  case atStart => exact ⟨0, 9, at_, 0, by omega, rfl, rfl, by show 0 < _; decide, HR.out.symm, HC⟩
  case round =>
    obtain ⟨i, f, a, acc, hf, rfl, rfl, HA, HQ, HD⟩ := hrel
    have hQ := HQ.out
    have hst : numR l (f + 1) a acc = if l.length ≤ a then (0, a, 21)
      else if (f < 9 ∧ (l.getD a 0).toNat = 0) ∨ (f = 0 ∧ 1 < (l.getD a 0).toNat) then (0, a, 20)
      else if (l.getD a 0).toNat < 128 then (acc + (l.getD a 0).toNat * 128 ^ (9 - f), a + 1, 0)
      else numR l f (a + 1) (acc + ((l.getD a 0).toNat - 128) * 128 ^ (9 - f)) := rfl
    rw [hst, show 9 - f = i by omega] at hQ
    clear hst
    have hbr := HD.out.bts HBB.out
    by_cases hat : l.length ≤ a
    · rw [if_pos hat] at hQ
      have HQ' := Lib.hid hQ
      obtain ⟨ao, cap, hv, _⟩ := id hbr
      have c1 : Calls Tryd.prog 93 #[.pointer (some ⟨rb, 0, none⟩)] wr fun x w' => x = gaveUp 21 ∧ Rd rb vb wr w' a := by
        have := HD.out.cur
        subst hv
        exact byte_end rb ao l.length cap a wr this hat
      clear hQ hbr hv hat
      go_wp2_with fail
      refine c1.mono ?_
      rintro e w1 ⟨rfl, hD1⟩
      refine ⟨rfl, .inr ?_⟩
      rw [HQ'.out]
      exact ⟨by simp, rfl, a, HD.out.trans hD1⟩
    · rw [if_neg hat] at hQ
      have c1 := byte_ok rb vb l a wr HD.out.cur hbr (by omega)
      clear hbr
      have haccb : acc < 18446744073709551616 := Nat.lt_of_lt_of_le HA.out (Nat.le_trans (Nat.pow_le_pow_right (by decide) (show i ≤ 9 by omega)) (by decide))
      generalize l.getD a 0 = c at *
      by_cases hb1 : f < 9 ∧ c.toNat = 0
      · rw [if_pos (.inl hb1)] at hQ
        obtain ⟨hf9, hc0⟩ := hb1
        have hc0' : ((c.toNat : Int) == 0) = true := by rw [hc0]; rfl
        have hi0 : 0 < i := by omega
        clear hc0 hf9
        have HQ' := Lib.hid hQ
        clear hQ HQ
        go_wp2_with fail
        refine c1.mono ?_
        rintro e w1 ⟨rfl, hD1⟩
        have HD1 := Lib.hid (HD.out.trans hD1)
        clear c1 hD1
        go_wp2_with (go_at_call 91; refine (fail_calls _ _ _).mono ?_; rintro e w' ⟨rfl, rfl⟩)
        refine ⟨rfl, .inr ?_⟩
        rw [HQ'.out]
        exact ⟨by simp, rfl, _, HD1.out⟩
      by_cases hb2 : f = 0 ∧ 1 < c.toNat
      · rw [if_pos (.inr hb2)] at hQ
        obtain ⟨hf0, hc1⟩ := hb2
        have hc0' : ((c.toNat : Int) == 0) = false := by rw [beq_eq_false_iff_ne]; omega
        obtain rfl : i = 9 := by omega
        clear hb1
        have HQ' := Lib.hid hQ
        clear hQ HQ
        go_wp2_with fail
        refine c1.mono ?_
        rintro e w1 ⟨rfl, hD1⟩
        have HD1 := Lib.hid (HD.out.trans hD1)
        clear c1 hD1
        go_wp2_with (go_at_call 91; refine (fail_calls _ _ _).mono ?_; rintro e w' ⟨rfl, rfl⟩)
        refine ⟨rfl, .inr ?_⟩
        rw [HQ'.out]
        exact ⟨by simp, rfl, _, HD1.out⟩
      rw [if_neg (by intro h; exact h.elim hb1 hb2)] at hQ
      by_cases h128 : c.toNat < 128
      · rw [if_pos h128] at hQ
        by_cases hi0 : i < 1
        · have hi9' : ((i : Int) == 9) = false := by rw [beq_eq_false_iff_ne]; omega
          have hmul : c.toNat * 128 ^ i < 18446744073709551616 := mul_bound _ i (by omega) (by omega)
          have hsh := wrap7 c.toNat i hmul
          have hmod : c.toNat % 128 = c.toNat := Nat.mod_eq_of_lt h128
          have hand := and127 c
          rw [hmod] at hand
          have hq := or_add acc c.toNat i HA.out
          have hor := bits_or_u64 acc (c.toNat * 128 ^ i) haccb hmul
          rw [hq] at hor
          have HQ' := Lib.hid hQ
          clear hQ hmod hq HQ hmul
          generalize hG : c.toNat * 128 ^ i = q at *
          clear hG
          go_wp2_with fail
          refine c1.mono ?_
          rintro e w1 ⟨rfl, hD1⟩
          have HD1 := Lib.hid (HD.out.trans hD1)
          clear c1 hD1
          go_wp2_with fail
          go_ret
          refine .inl ?_
          rw [HQ'.out]
          exact ⟨rfl, rfl, HD1.out⟩
        · by_cases hi9 : 8 < i
          · have hi9' : ((i : Int) == 9) = true := by rw [beq_iff_eq]; omega
            have hcle : c.toNat ≤ 1 := by omega
            have hc0' : ((c.toNat : Int) == 0) = false := by rw [beq_eq_false_iff_ne]; omega
            have hmul : c.toNat * 128 ^ i < 18446744073709551616 := by
              have h1 : c.toNat * 128 ^ i ≤ 1 * 128 ^ i := Nat.mul_le_mul_right _ hcle
              have h2 : 128 ^ i ≤ 128 ^ 9 := Nat.pow_le_pow_right (by decide) (by omega)
              exact Nat.lt_of_le_of_lt (Nat.le_trans h1 (by omega)) (show 128 ^ 9 < 18446744073709551616 by decide)
            have hsh := wrap7 c.toNat i hmul
            have hmod : c.toNat % 128 = c.toNat := Nat.mod_eq_of_lt h128
            have hand := and127 c
            rw [hmod] at hand
            have hq := or_add acc c.toNat i HA.out
            have hor := bits_or_u64 acc (c.toNat * 128 ^ i) haccb hmul
            rw [hq] at hor
            have HQ' := Lib.hid hQ
            clear hQ hmod hq HQ hmul
            generalize hG : c.toNat * 128 ^ i = q at *
            clear hG
            go_wp2_with fail
            refine c1.mono ?_
            rintro e w1 ⟨rfl, hD1⟩
            have HD1 := Lib.hid (HD.out.trans hD1)
            clear c1 hD1
            go_wp2_with fail
            go_ret
            refine .inl ?_
            rw [HQ'.out]
            exact ⟨rfl, rfl, HD1.out⟩
          · have hip : 0 < i := by omega
            have hi8 : i < 9 := by omega
            have hi9' : ((i : Int) == 9) = false := by rw [beq_eq_false_iff_ne]; omega
            have hc0' : ((c.toNat : Int) == 0) = false := by rw [beq_eq_false_iff_ne]; omega
            have hmul : c.toNat * 128 ^ i < 18446744073709551616 := mul_bound c.toNat i h128 hi8
            have hsh := wrap7 c.toNat i hmul
            have hmod : c.toNat % 128 = c.toNat := Nat.mod_eq_of_lt h128
            have hand := and127 c
            rw [hmod] at hand
            have hq := or_add acc c.toNat i HA.out
            have hor := bits_or_u64 acc (c.toNat * 128 ^ i) haccb hmul
            rw [hq] at hor
            have HQ' := Lib.hid hQ
            clear hQ hmod hq HQ hmul
            generalize hG : c.toNat * 128 ^ i = q at *
            clear hG
            go_wp2_with fail
            refine c1.mono ?_
            rintro e w1 ⟨rfl, hD1⟩
            have HD1 := Lib.hid (HD.out.trans hD1)
            clear c1 hD1
            go_wp2_with fail
            go_ret
            refine .inl ?_
            rw [HQ'.out]
            exact ⟨rfl, rfl, HD1.out⟩
      · rw [if_neg h128] at hQ
        have hcl0 := c.toNat_lt
        by_cases hi0 : i < 1
        · have hi9' : ((i : Int) == 9) = false := by rw [beq_eq_false_iff_ne]; omega
          have hmul : (c.toNat - 128) * 128 ^ i < 18446744073709551616 := mul_bound _ i (by omega) (by omega)
          have hsh := wrap7 (c.toNat - 128) i hmul
          have hcl := c.toNat_lt
          have hmod : c.toNat % 128 = c.toNat - 128 := by omega
          have hand := and127 c
          rw [hmod] at hand
          have hq := or_add acc (c.toNat - 128) i HA.out
          have hor := bits_or_u64 acc ((c.toNat - 128) * 128 ^ i) haccb hmul
          rw [hq] at hor
          have HQ' := Lib.hid hQ
          have HA' : Hid (acc + (c.toNat - 128) * 128 ^ i < 128 ^ (i + 1)) := by
            show _ < _
            have h1 := HA.out
            have h2 : (c.toNat - 128) * 128 ^ i ≤ 127 * 128 ^ i := Nat.mul_le_mul_right _ (by omega)
            rw [Nat.pow_succ]; omega
          have hc7 : c.toNat - 128 < 128 := by omega
          clear hQ hmod hq HQ hmul hcl
          generalize hG : (c.toNat - 128) * 128 ^ i = q at *
          clear hG
          generalize hG : c.toNat - 128 = c7 at *
          clear hG
          go_wp2_with fail
          refine c1.mono ?_
          rintro e w1 ⟨rfl, hD1⟩
          have HD1 := Lib.hid (HD.out.trans hD1)
          clear c1 hD1
          go_wp2_with fail
          go_roundw
          case rel => exact ⟨i + 1, f - 1, a + 1, acc + q, by omega, by go_num, by go_num, HA', by show R = _; rw [show f - 1 + 1 = f by omega]; exact HQ'.out, HD1⟩
          case measure => simp [intOf]; omega
        · have hip : 0 < i := by omega
          have hi8 : i < 9 := by omega
          have hi9' : ((i : Int) == 9) = false := by rw [beq_eq_false_iff_ne]; omega
          have hc0' : ((c.toNat : Int) == 0) = false := by rw [beq_eq_false_iff_ne]; omega
          have hmul : (c.toNat - 128) * 128 ^ i < 18446744073709551616 := mul_bound (c.toNat - 128) i (by omega) hi8
          have hsh := wrap7 (c.toNat - 128) i hmul
          have hcl := c.toNat_lt
          have hmod : c.toNat % 128 = c.toNat - 128 := by omega
          have hand := and127 c
          rw [hmod] at hand
          have hq := or_add acc (c.toNat - 128) i HA.out
          have hor := bits_or_u64 acc ((c.toNat - 128) * 128 ^ i) haccb hmul
          rw [hq] at hor
          have HQ' := Lib.hid hQ
          have HA' : Hid (acc + (c.toNat - 128) * 128 ^ i < 128 ^ (i + 1)) := by
            show _ < _
            have h1 := HA.out
            have h2 : (c.toNat - 128) * 128 ^ i ≤ 127 * 128 ^ i := Nat.mul_le_mul_right _ (by omega)
            rw [Nat.pow_succ]; omega
          have hc7 : c.toNat - 128 < 128 := by omega
          clear hQ hmod hq HQ hmul hcl
          generalize hG : (c.toNat - 128) * 128 ^ i = q at *
          clear hG
          generalize hG : c.toNat - 128 = c7 at *
          clear hG
          go_wp2_with fail
          refine c1.mono ?_
          rintro e w1 ⟨rfl, hD1⟩
          have HD1 := Lib.hid (HD.out.trans hD1)
          clear c1 hD1
          go_wp2_with fail
          go_roundw
          case rel => exact ⟨i + 1, f - 1, a + 1, acc + q, by omega, by go_num, by go_num, HA', by show R = _; rw [show f - 1 + 1 = f by omega]; exact HQ'.out, HD1⟩
          case measure => simp [intOf]; omega

end Go.Proofs.YtgnpjenpehfjbaaDoor
