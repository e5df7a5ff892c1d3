/- Terms: the program's iterator. -/
import Derived.Test.YtckedklopgnloaaDoorFracTerms1
import Derived.Test.YtckedklopgnloaaDoorRangeB
import Derived.Deep.QuietTactic
import Derived.BigQuiet
namespace Go.Proofs.YtckedklopgnloaaDoor
open Go.RowKit

attribute [local go_sem] Oper.semAt_some

def encT (x : Int × Bool) : Array Value := #[.int .i64 x.1, .bool x.2]
def frO (n d : Int) : Obj := .cells #[.int .i64 n, .int .i64 d] 23 (0, 0)

set_option maxRecDepth 100000 in
set_option maxHeartbeats 4000000 in
theorem terms1_iter (bx : Nat) (n d : Int) (hd0 : 1 ≤ d) (hd1 : d ≤ 2147483647) (hn0 : -2147483647 ≤ n) (hn1 : n ≤ 2147483647) (m : Nat) :
    IteratesB Fence.wide m Tryd.prog 55 #[.pointer (some ⟨bx, 0, none⟩)] encT bx (frO n d) (fun pre x => ∃ rest, pre.map (·.1) ++ x.1 :: rest = termsI n d) (fun xs => xs.map (·.1) = termsI n d) := by
  intro yl J W hJ hY h0 hbx
  have HJ := Lib.hid hJ
  have HY := Lib.hid hY
  clear hJ hY
  refine callsIn_of_wp Tryd.func55 rfl trivial ?_ rfl
  simp only [Tryd.ntmps55, List.size_toArray, List.length_cons, List.length_nil, Nat.reduceAdd, Nat.reduceSub, Array.replicate_succ, Array.replicate_zero, List.push_toArray, List.append_toArray, List.nil_append, List.cons_append]
  gi_wp2
  gi_loopw [3] (fun _ wr => ∃ (a b : Int) (pre : List (Int × Bool)), 1 ≤ b ∧ b ≤ 2147483647 ∧ -2147483647 ≤ a ∧ a ≤ 2147483647 ∧ Hid (pre.map (·.1) ++ termsI a b = termsI n d) ∧ Hid (J pre wr) ∧ Hid (wr.heap[bx]? = some (frO a b))) (fun _ wr => (intOf ((wr.cell? ⟨bx, 1, none⟩).getD undef)).toNat)
  case atStart => exact ⟨n, d, [], hd0, hd1, hn0, hn1, rfl, h0, hbx⟩
  case round =>
    obtain ⟨a, b, pre, hb0, hb1, ha0, ha1, HE, HI, HB⟩ := hrel
    have hz : b ≠ 0 := by omega
    have f1 := Int.ediv_mul_le a hz
    have f2 := Int.lt_ediv_add_one_mul_self a (show 0 < b by omega)
    rw [Int.add_mul] at f2
    have cf := floor_any a b wr (by omega) (by omega) (by omega) (by omega)
    have HS := Lib.hid (termsI_step a b (by omega))
    have hE := HE.out
    rw [HS.out] at hE
    have HE2 := Lib.hid hE
    clear hE HE HS
    generalize a / b = u at *
    have hu0 : -2147483648 ≤ u := by
      rcases Int.lt_or_le u (-2147483648) with h | h
      · have := Int.mul_le_mul_of_nonneg_right (show u + 1 ≤ -2147483648 by omega) (show 0 ≤ b by omega)
        rw [Int.add_mul] at this; omega
      · exact h
    have hu1 : u ≤ 2147483647 := by
      rcases Int.lt_or_le 2147483647 u with h | h
      · have := Int.mul_le_mul_of_nonneg_right (show 2147483648 ≤ u by omega) (show 0 ≤ b by omega)
        omega
      · exact h
    have a0 : wr.cell? ⟨bx, 0, none⟩ = some (.int .i64 a) := cell_of_row _ _ 0 _ _ _ HB.out
    have a1 : wr.cell? ⟨bx, 1, none⟩ = some (.int .i64 b) := cell_of_row _ _ 1 _ _ _ HB.out
    have HZ := Lib.hid hz
    clear hz
    gi_wp2_with (fail)
    refine ⟨trivial, wide_room _, ?_⟩
    refine (callsIn_wide.2 cf).mono ?_
    rintro e w1 ⟨rfl, hB1⟩
    have HW := Lib.hid HB.out
    have HI1 := Lib.hid (HJ.out _ _ _ HI.out (Turns.of_below hB1))
    have HB1 := Lib.hid ((hB1.block _ (Array.getElem?_eq_some_iff.1 HB.out).1).trans HB.out)
    clear a0 a1 hB1 cf HI HB
    have a0 : w1.cell? ⟨bx, 0, none⟩ = some (.int .i64 a) := cell_of_row _ _ 0 _ _ _ HB1.out
    have a1 : w1.cell? ⟨bx, 1, none⟩ = some (.int .i64 b) := cell_of_row _ _ 1 _ _ _ HB1.out
    have q0 : w1.frozen? ⟨bx, 0, none⟩ = false := frozen_of_row _ _ 0 _ _ HB1.out
    have hset : (w1.setCell ⟨bx, 0, none⟩ (.int .i64 (a - u * b))).heap[bx]? = some (frO (a - u * b) b) := by
      have := heap_setCell_same w1 bx 0 _ _ (.int .i64 (a - u * b)) HB1.out
      rw [this]; rfl
    have HB2 := Lib.hid hset
    have HI2 := Lib.hid (HJ.out _ _ _ HI1.out (Turns.set (i := 0) (v := .int .i64 (a - u * b)) (Turns.of_below (b := bx) (Below.refl _ w1))))
    clear hset
    by_cases hr : a - u * b = 0
    · have hrb : (a - u * b != 0) = false := by rw [hr]; rfl
      obtain ⟨fn, tmps, assign, body, hy, hR⟩ := HY.out pre (u, false) _ HI2.out ⟨[], by have := HE2.out; rw [if_pos hr] at this; exact this⟩
      have HE3 : Hid (pre.map (·.1) ++ [u] = termsI n d) := by have := HE2.out; rw [if_pos hr] at this; exact this
      simp only [encT] at hy
      have HRR := Lib.hid hr
      clear hr
      gi_wp2
      refine ⟨wide_room _, ?_⟩
      refine hR.mono ?_
      rintro e w2 ⟨rfl, hJ2, hb2⟩
      have HJ2 := Lib.hid hJ2
      have c0 : w2.cell? ⟨bx, 0, none⟩ = some (.int .i64 (a - u * b)) := cell_of_row _ _ 0 _ _ _ (hb2.trans HB2.out)
      have hre : (a - u * b == 0) = true := by rw [HRR.out]; rfl
      clear hy hR hJ2 hb2
      gi_wp2
      try rw [Exit.noGoto_ret]
      refine bodyPost_ret (results_none rfl _ _ _) rfl ?_
      exact ⟨⟨_, rfl⟩, pre ++ [(u, false)], by rw [List.map_append]; exact HE3.out, HJ2.out⟩
    · have hrb : (a - u * b != 0) = true := by rw [bne_iff_ne]; exact hr
      obtain ⟨fn, tmps, assign, body, hy, hR⟩ := HY.out pre (u, true) _ HI2.out ⟨_, HE2.out⟩
      have HE3 : Hid (pre.map (·.1) ++ u :: termsI b (a - u * b) = termsI n d) := by have := HE2.out; rw [if_neg hr] at this; exact this
      simp only [encT] at hy
      have HRR := Lib.hid hr
      have hrp : 1 ≤ a - u * b := by omega
      clear hr
      gi_wp2
      refine ⟨wide_room _, ?_⟩
      refine hR.mono ?_
      rintro e w2 ⟨rfl, hJ2, hb2⟩
      have HJ2 := Lib.hid hJ2
      have HB3 := Lib.hid (hb2.trans HB2.out)
      have c0 : w2.cell? ⟨bx, 0, none⟩ = some (.int .i64 (a - u * b)) := cell_of_row _ _ 0 _ _ _ HB3.out
      have c1 : w2.cell? ⟨bx, 1, none⟩ = some (.int .i64 b) := cell_of_row _ _ 1 _ _ _ HB3.out
      have p0 : w2.frozen? ⟨bx, 0, none⟩ = false := frozen_of_row _ _ 0 _ _ HB3.out
      have p1 : w2.frozen? ⟨bx, 1, none⟩ = false := frozen_of_row _ _ 1 _ _ HB3.out
      have hre : (a - u * b == 0) = false := by rw [beq_eq_false_iff_ne]; exact HRR.out
      have h1 := heap_setCell_same w2 bx 0 _ _ (.int .i64 b) HB3.out
      have h2 := heap_setCell_same _ bx 1 _ _ (.int .i64 (a - u * b)) h1
      have HB4 : Hid (((w2.setCell ⟨bx, 0, none⟩ (.int .i64 b)).setCell ⟨bx, 1, none⟩ (.int .i64 (a - u * b))).heap[bx]? = some (frO b (a - u * b))) := by show _ = _; rw [h2]; rfl
      have HJ4 := Lib.hid (HJ.out _ _ _ HJ2.out (Turns.set (i := 1) (v := .int .i64 (a - u * b)) (Turns.set (i := 0) (v := .int .i64 b) (Turns.of_below (b := bx) (Below.refl _ w2)))))
      clear hy hR hJ2 hb2 h1 h2
      gi_wp2
      go_roundw
      case rel =>
        refine ⟨b, a - u * b, pre ++ [(u, true)], by omega, by omega, by omega, by omega, ?_, HJ4, HB4⟩
        show _ = _; rw [List.map_append, List.append_assoc]; exact HE3.out
      case measure =>
        have m1 := cell_of_row _ bx 1 _ _ _ HB4.out
        have m2 := cell_of_row _ bx 1 _ _ _ HW.out
        rw [m1, m2]
        simp [intOf]; omega

end Go.Proofs.YtckedklopgnloaaDoor
