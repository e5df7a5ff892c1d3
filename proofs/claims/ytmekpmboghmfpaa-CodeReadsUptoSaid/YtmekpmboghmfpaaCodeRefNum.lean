/- The document's reader: its number (by program: wip/tools/gen_refnum.py). -/
import Derived.Test.YtmekpmboghmfpaaCodeText
namespace Go.Proofs.Ytmekpmboghmfpaa
open Go.RowKit

/-- the document's reader's block: its bytes, its place, its code -/
abbrev refO (vb : Value) (at_ c : Nat) : Obj := .cells #[vb, .int .i64 (at_ : Int), .int .i64 (c : Int)] 52 (0, 0)
/-- all but block rb as it was, and that block as o says -/
structure Rx (rb : Nat) (o : Obj) (w w' : World) : Prop where
  os : w'.os = w.os
  tape : w'.tape = w.tape
  output : w'.output = w.output
  size : w.heap.size ≤ w'.heap.size
  block : ∀ k, k < w.heap.size → k ≠ rb → w'.heap[k]? = w.heap[k]?
  cur : w'.heap[rb]? = some o
  lt : rb < w.heap.size
theorem Rx.refl {rb : Nat} {o : Obj} {w : World} (h : w.heap[rb]? = some o) : Rx rb o w w := ⟨rfl, rfl, rfl, Nat.le_refl _, fun _ _ _ => rfl, h, (Array.getElem?_eq_some_iff.1 h).1⟩
theorem Rx.trans {rb : Nat} {o o2 : Obj} {w w1 w2 : World} (h : Rx rb o w w1) (g : Rx rb o2 w1 w2) : Rx rb o2 w w2 :=
  ⟨g.os.trans h.os, g.tape.trans h.tape, g.output.trans h.output, Nat.le_trans h.size g.size, fun k hk hne => (g.block k (Nat.lt_of_lt_of_le hk h.size) hne).trans (h.block k hk hne), g.cur, h.lt⟩
theorem Rx.drew {rb : Nat} {o : Obj} {w w' : World} (h : Rx rb o w w') (n : Nat) : Rx rb o w (w'.drewN n) := ⟨h.os, h.tape, h.output, h.size, h.block, h.cur, h.lt⟩
theorem Rx.alloc {rb : Nat} {o : Obj} {w w' : World} (h : Rx rb o w w') (o2 : Obj) : Rx rb o w (w'.alloc o2) := by
  have hrb := (Array.getElem?_eq_some_iff.1 h.cur).1
  refine ⟨h.os, h.tape, h.output, by simp; exact Nat.le_succ_of_le h.size, fun k hk hne => ?_, ?_, h.lt⟩
  · rw [Below.heap_alloc _ _ _ (Nat.lt_of_lt_of_le hk h.size)]; exact h.block k hk hne
  · rw [Below.heap_alloc _ _ _ hrb]; exact h.cur
theorem Rx.below {rb : Nat} {o : Obj} {w w' : World} (h : Rx rb o w w') : Below rb w w' := ⟨h.os, h.tape, h.output, h.size, fun k hk => h.block k (by have := h.lt; omega) (by omega)⟩
theorem Rx.bts {rb : Nat} {o : Obj} {w w' : World} (h : Rx rb o w w') {v : Value} {l : List UInt8} (hb : Bts w rb v l) : Bts w' rb v l := hb.below h.below (Nat.le_refl _)
theorem Rx.step {rb : Nat} {vb : Value} {w w' : World} {a c : Nat} (h : Rx rb (refO vb a c) w w') (b : Nat) : Rx rb (refO vb b c) w (w'.setCell ⟨rb, 1, none⟩ (.int .i64 (b : Int))) := by
  refine ⟨h.os, h.tape, h.output, by simpa [World.setCell] using h.size, fun k hk hne => ?_, ?_, h.lt⟩
  · rw [Below.heap_setCell _ _ _ _ hne]; exact h.block k hk hne
  · rw [heap_setCell_same w' rb 1 _ _ _ h.cur]; rfl
theorem Rx.code {rb : Nat} {vb : Value} {w w' : World} {a c : Nat} (h : Rx rb (refO vb a c) w w') (b : Nat) : Rx rb (refO vb a b) w (w'.setCell ⟨rb, 2, none⟩ (.int .i64 (b : Int))) := by
  refine ⟨h.os, h.tape, h.output, by simpa [World.setCell] using h.size, fun k hk hne => ?_, ?_, h.lt⟩
  · rw [Below.heap_setCell _ _ _ _ hne]; exact h.block k hk hne
  · rw [heap_setCell_same w' rb 2 _ _ _ h.cur]; rfl
theorem Rx.fresh {rb : Nat} {o : Obj} {w w' : World} (h : Rx rb o w w') {g : Nat} (hg : w.heap.size ≤ g) (j : Nat) (v : Value) : Rx rb o w (w'.setCell ⟨g, j, none⟩ v) := by
  have := h.lt
  refine ⟨h.os, h.tape, h.output, by simpa [World.setCell] using h.size, fun k hk hne => ?_, ?_, h.lt⟩
  · rw [Below.heap_setCell _ _ _ _ (show k ≠ g by omega)]; exact h.block k hk hne
  · rw [Below.heap_setCell _ _ _ _ (show rb ≠ g by omega)]; exact h.cur

abbrev RNumPost (rb : Nat) (vb : Value) (w : World) (R : Nat × Nat × Nat) (x : Ending) (w' : World) : Prop :=
  (R.2.2 = 0 ∧ x = .returned (.int .u64 (R.1 : Int)) ∧ Rx rb (refO vb R.2.1 0) w w') ∨ (R.2.2 ≠ 0 ∧ x = .returned (.int .u64 0) ∧ ∃ a, Rx rb (refO vb a R.2.2) w w')

set_option maxRecDepth 100000 in
set_option maxHeartbeats 4000000 in
theorem ref_Num (rb : Nat) (vb : Value) (l : List UInt8) (at_ : Nat) (w : World) (hc : w.heap[rb]? = some (refO vb at_ 0)) (hb : Bts w rb vb l) :
    Calls Try.prog 33 #[.pointer (some ⟨rb, 0, none⟩)] w fun x w' => RNumPost rb vb w (numR l 10 at_ 0) x w' := by
  have hR0 : Hid (numR l 10 at_ 0 = numR l 10 at_ 0) := rfl
  generalize hRR : numR l 10 at_ 0 = R at *
  have HR := Lib.hid hRR
  clear hRR hR0
  have HC := Lib.hid (Rx.refl hc)
  have HBB := Lib.hid hb
  obtain ⟨ao, cap, hv, _⟩ := id hb
  clear hc hb
  generalize hn : l.length = n at *
  have HN := Lib.hid hn
  clear hn
  subst hv
  go_enter Try.func33, Try.ntmps33
  go_wp2_with fail
  go_loopw [3, 4, 5] (fun x k c wr => ∃ (i f a acc : Nat), i + f = 9 ∧ k = .int .i64 (i : Int) ∧ x = .int .u64 (acc : Int) ∧ Hid (acc < 128 ^ i) ∧ Hid (R = numR l (f + 1) a acc) ∧ Hid (Rx rb (refO (.slice ao n cap) a 0) w wr)) (fun _ k _ _ => 10 - (intOf k).toNat)
  case atStart => exact ⟨0, 9, at_, 0, by omega, rfl, rfl, by show 0 < _; decide, HR.out.symm, HC⟩
  case round =>
    obtain ⟨i, f, a, acc, hf, rfl, rfl, HA, HQ, HD⟩ := hrel
    have hQ := HQ.out
    have hst : numR l (f + 1) a acc = if l.length ≤ a then (0, a, 21)
      else if (f < 9 ∧ (l.getD a 0).toNat = 0) ∨ (f = 0 ∧ 1 < (l.getD a 0).toNat) then (0, a, 20)
      else if (l.getD a 0).toNat < 128 then (acc + (l.getD a 0).toNat * 128 ^ (9 - f), a + 1, 0)
      else numR l f (a + 1) (acc + ((l.getD a 0).toNat - 128) * 128 ^ (9 - f)) := rfl
    rw [hst, show 9 - f = i by omega, HN.out] at hQ
    clear hst
    have hbr := HD.out.bts HBB.out
    have h0 : wr.cell? ⟨rb, 0, none⟩ = some (.slice ao n cap) := cell_of_row wr rb 0 _ _ _ HD.out.cur
    have h1 : wr.cell? ⟨rb, 1, none⟩ = some (.int .i64 (a : Int)) := cell_of_row wr rb 1 _ _ _ HD.out.cur
    have h2 : wr.cell? ⟨rb, 2, none⟩ = some (.int .i64 0) := cell_of_row wr rb 2 _ _ _ HD.out.cur
    have hf1 : wr.frozen? ⟨rb, 1, none⟩ = false := frozen_of_row wr rb 1 _ _ HD.out.cur
    have hf2 : wr.frozen? ⟨rb, 2, none⟩ = false := frozen_of_row wr rb 2 _ _ HD.out.cur
    have hnl : n ≤ 9223372036854775807 := by have := hbr.len; rw [HN.out] at this; exact this
    by_cases hat : n ≤ a
    · rw [if_pos hat] at hQ
      have HQ' := Lib.hid hQ
      clear hQ hbr HQ
      go_wp2
      go_quiet (fail)
      go_wp2
      go_ret
      refine .inr ?_
      rw [HQ'.out]
      exact ⟨by simp, rfl, a, (HD.out.drew _).code 21⟩
    · rw [if_neg hat] at hQ
      obtain ⟨ao', cap', he, hcp, _, _, hx⟩ := hbr
      injection he with e1 e2 e3
      subst e1 e3
      obtain ⟨b, off, rfl, hbrb, hcell⟩ := hx (fun h => by have := HN.out; rw [h] at this; simp at this; omega)
      have hca := hcell a (by have := HN.out; omega)
      have haccb : acc < 18446744073709551616 := Nat.lt_of_lt_of_le HA.out (Nat.le_trans (Nat.pow_le_pow_right (by decide) (show i ≤ 9 by omega)) (by decide))
      have hne : b ≠ rb := by omega
      have hlt : a < n := by omega
      clear hcell hx hcp e2 hat
      generalize l.getD a 0 = c at *
      have hcl0 := c.toNat_lt

      by_cases hb1 : f < 9 ∧ c.toNat = 0
      · rw [if_pos (.inl hb1)] at hQ
        obtain ⟨hf9, hc0⟩ := hb1
        have hc0' : ((c.toNat : Int) == 0) = true := by rw [hc0]; rfl
        have hc1' : ¬ 1 < c.toNat := by omega
        have hi0 : 0 < i := by omega
        have hdi : (decide (1 < c.toNat)) = false := by rw [decide_eq_false_iff_not]; omega
        clear hf9 hc0
        have HQ' := Lib.hid hQ
        clear hQ HQ
        by_cases h9 : 8 < i
        · have hi9' : ((i : Int) == 9) = true := by rw [beq_iff_eq]; omega
          go_wp2
          go_quiet (fail)
          go_wp2
          go_quiet (fail)
          go_wp2
          go_ret
          refine .inr ?_
          rw [HQ'.out]
          exact ⟨by simp, rfl, a, (HD.out.drew _).code 20⟩
        · have hi9' : ((i : Int) == 9) = false := by rw [beq_eq_false_iff_ne]; omega
          go_wp2
          go_quiet (fail)
          go_wp2
          go_quiet (fail)
          go_wp2
          go_ret
          refine .inr ?_
          rw [HQ'.out]
          exact ⟨by simp, rfl, a, (HD.out.drew _).code 20⟩
      by_cases hb2 : f = 0 ∧ 1 < c.toNat
      · rw [if_pos (.inr hb2)] at hQ
        obtain ⟨hf0, hc1⟩ := hb2
        have hc0' : ((c.toNat : Int) == 0) = false := by rw [beq_eq_false_iff_ne]; omega
        obtain rfl : i = 9 := by omega
        clear hb1
        have HQ' := Lib.hid hQ
        clear hQ HQ
        go_wp2
        go_quiet (fail)
        go_wp2
        go_quiet (fail)
        go_wp2
        go_ret
        refine .inr ?_
        rw [HQ'.out]
        exact ⟨by simp, rfl, a, (HD.out.drew _).code 20⟩

      rw [if_neg (by intro h; exact h.elim hb1 hb2)] at hQ

      by_cases h128 : c.toNat < 128
      · rw [if_pos h128] at hQ
        by_cases hi0 : i < 1
        · by_cases hcz : c.toNat = 0
          · have hmul : c.toNat * 128 ^ i < 18446744073709551616 := mul_bound _ i (by omega) (by omega)
            have hi9' : ((i : Int) == 9) = false := by rw [beq_eq_false_iff_ne]; omega
            have hc0' : ((c.toNat : Int) == 0) = true := by rw [beq_iff_eq]; omega
            clear hcz
            have hsh := wrap7 c.toNat i hmul
            have hmod : c.toNat % 128 = c.toNat := Nat.mod_eq_of_lt h128
            have hand := and127 c
            rw [hmod] at hand
            have hq := or_add acc c.toNat i HA.out
            have hor := bits_or_u64 acc (c.toNat * 128 ^ i) haccb hmul
            rw [hq] at hor
            have HQ' := Lib.hid hQ
            clear hQ hmod hq HQ hmul hb1 hb2
            generalize hG : c.toNat * 128 ^ i = q at *
            clear hG
            go_wp2
            go_quiet (fail)
            go_wp2
            go_quiet (fail)
            go_wp2
            go_ret
            refine .inl ?_
            rw [HQ'.out]
            exact ⟨rfl, rfl, (HD.out.drew _).step (a + 1)⟩
          · have hmul : c.toNat * 128 ^ i < 18446744073709551616 := mul_bound _ i (by omega) (by omega)
            have hi9' : ((i : Int) == 9) = false := by rw [beq_eq_false_iff_ne]; omega
            have hc0' : ((c.toNat : Int) == 0) = false := by rw [beq_eq_false_iff_ne]; omega
            clear hcz
            have hsh := wrap7 c.toNat i hmul
            have hmod : c.toNat % 128 = c.toNat := Nat.mod_eq_of_lt h128
            have hand := and127 c
            rw [hmod] at hand
            have hq := or_add acc c.toNat i HA.out
            have hor := bits_or_u64 acc (c.toNat * 128 ^ i) haccb hmul
            rw [hq] at hor
            have HQ' := Lib.hid hQ
            clear hQ hmod hq HQ hmul hb1 hb2
            generalize hG : c.toNat * 128 ^ i = q at *
            clear hG
            go_wp2
            go_quiet (fail)
            go_wp2
            go_quiet (fail)
            go_wp2
            go_ret
            refine .inl ?_
            rw [HQ'.out]
            exact ⟨rfl, rfl, (HD.out.drew _).step (a + 1)⟩
        · by_cases hi9 : 8 < i
          · have hcle : c.toNat ≤ 1 := by omega
            have hcn : ¬ 1 < c.toNat := by omega
            have hmul : c.toNat * 128 ^ i < 18446744073709551616 := by
              have h1 : c.toNat * 128 ^ i ≤ 1 * 128 ^ i := Nat.mul_le_mul_right _ hcle
              have h2 : 128 ^ i ≤ 128 ^ 9 := Nat.pow_le_pow_right (by decide) (by omega)
              exact Nat.lt_of_le_of_lt (Nat.le_trans h1 (by omega)) (show 128 ^ 9 < 18446744073709551616 by decide)
            have hi9' : ((i : Int) == 9) = true := by rw [beq_iff_eq]; omega
            have hc0' : ((c.toNat : Int) == 0) = false := by rw [beq_eq_false_iff_ne]; omega
            have hsh := wrap7 c.toNat i hmul
            have hmod : c.toNat % 128 = c.toNat := Nat.mod_eq_of_lt h128
            have hand := and127 c
            rw [hmod] at hand
            have hq := or_add acc c.toNat i HA.out
            have hor := bits_or_u64 acc (c.toNat * 128 ^ i) haccb hmul
            rw [hq] at hor
            have HQ' := Lib.hid hQ
            clear hQ hmod hq HQ hmul hb1 hb2
            generalize hG : c.toNat * 128 ^ i = q at *
            clear hG
            go_wp2
            go_quiet (fail)
            go_wp2
            go_quiet (fail)
            go_wp2
            go_ret
            refine .inl ?_
            rw [HQ'.out]
            exact ⟨rfl, rfl, (HD.out.drew _).step (a + 1)⟩
          · have hmul : c.toNat * 128 ^ i < 18446744073709551616 := mul_bound _ i (by omega) (by omega)
            have hi9' : ((i : Int) == 9) = false := by rw [beq_eq_false_iff_ne]; omega
            have hc0' : ((c.toNat : Int) == 0) = false := by rw [beq_eq_false_iff_ne]; omega
            have hsh := wrap7 c.toNat i hmul
            have hmod : c.toNat % 128 = c.toNat := Nat.mod_eq_of_lt h128
            have hand := and127 c
            rw [hmod] at hand
            have hq := or_add acc c.toNat i HA.out
            have hor := bits_or_u64 acc (c.toNat * 128 ^ i) haccb hmul
            rw [hq] at hor
            have HQ' := Lib.hid hQ
            clear hQ hmod hq HQ hmul hb1 hb2
            generalize hG : c.toNat * 128 ^ i = q at *
            clear hG
            go_wp2
            go_quiet (fail)
            go_wp2
            go_quiet (fail)
            go_wp2
            go_ret
            refine .inl ?_
            rw [HQ'.out]
            exact ⟨rfl, rfl, (HD.out.drew _).step (a + 1)⟩
      · rw [if_neg h128] at hQ
        by_cases hi0 : i < 1
        · have hi9' : ((i : Int) == 9) = false := by rw [beq_eq_false_iff_ne]; omega
          have hc0' : ((c.toNat : Int) == 0) = false := by rw [beq_eq_false_iff_ne]; omega
          have hmul : (c.toNat - 128) * 128 ^ i < 18446744073709551616 := mul_bound (c.toNat - 128) i (by omega) (by omega)
          have hsh := wrap7 (c.toNat - 128) i hmul
          have hmod : c.toNat % 128 = c.toNat - 128 := by omega
          have hand := and127 c
          rw [hmod] at hand
          have hq := or_add acc (c.toNat - 128) i HA.out
          have hor := bits_or_u64 acc ((c.toNat - 128) * 128 ^ i) haccb hmul
          rw [hq] at hor
          have HQ' := Lib.hid hQ
          have HA' : Hid (acc + (c.toNat - 128) * 128 ^ i < 128 ^ (i + 1)) := by
            show _ < _
            have h1 := HA.out
            have h2 : (c.toNat - 128) * 128 ^ i ≤ 127 * 128 ^ i := Nat.mul_le_mul_right _ (by omega)
            rw [Nat.pow_succ]; omega
          have hc7 : c.toNat - 128 < 128 := by omega
          clear hQ hmod hq HQ hmul hb1 hb2
          generalize hG : (c.toNat - 128) * 128 ^ i = q at *
          clear hG
          generalize hG : c.toNat - 128 = c7 at *
          clear hG
          go_wp2
          go_quiet (fail)
          go_wp2
          go_quiet (fail)
          go_wp2
          go_roundw
          case rel => exact ⟨i + 1, f - 1, a + 1, acc + q, by omega, by go_num, by go_num, HA', by show R = _; rw [show f - 1 + 1 = f by omega]; exact HQ'.out, (HD.out.drew _).step (a + 1)⟩
          case measure => simp [intOf]; omega
        · have hip : 0 < i := by omega
          have hi8 : i < 9 := by omega
          have hi9' : ((i : Int) == 9) = false := by rw [beq_eq_false_iff_ne]; omega
          have hc0' : ((c.toNat : Int) == 0) = false := by rw [beq_eq_false_iff_ne]; omega
          have hmul : (c.toNat - 128) * 128 ^ i < 18446744073709551616 := mul_bound (c.toNat - 128) i (by omega) (by omega)
          have hsh := wrap7 (c.toNat - 128) i hmul
          have hmod : c.toNat % 128 = c.toNat - 128 := by omega
          have hand := and127 c
          rw [hmod] at hand
          have hq := or_add acc (c.toNat - 128) i HA.out
          have hor := bits_or_u64 acc ((c.toNat - 128) * 128 ^ i) haccb hmul
          rw [hq] at hor
          have HQ' := Lib.hid hQ
          have HA' : Hid (acc + (c.toNat - 128) * 128 ^ i < 128 ^ (i + 1)) := by
            show _ < _
            have h1 := HA.out
            have h2 : (c.toNat - 128) * 128 ^ i ≤ 127 * 128 ^ i := Nat.mul_le_mul_right _ (by omega)
            rw [Nat.pow_succ]; omega
          have hc7 : c.toNat - 128 < 128 := by omega
          clear hQ hmod hq HQ hmul hb1 hb2
          generalize hG : (c.toNat - 128) * 128 ^ i = q at *
          clear hG
          generalize hG : c.toNat - 128 = c7 at *
          clear hG
          go_wp2
          go_quiet (fail)
          go_wp2
          go_quiet (fail)
          go_wp2
          go_roundw
          case rel => exact ⟨i + 1, f - 1, a + 1, acc + q, by omega, by go_num, by go_num, HA', by show R = _; rw [show f - 1 + 1 = f by omega]; exact HQ'.out, (HD.out.drew _).step (a + 1)⟩
          case measure => simp [intOf]; omega

end Go.Proofs.Ytmekpmboghmfpaa
