/- Cuts: Fit of the document, walked (by program: wip/tools/gen_cl2.py, which prints both into one). -/
import Derived.Test.YtenilbofncfbdaaCK
set_option linter.unusedSimpArgs false
set_option linter.unusedVariables false
namespace Go.Proofs.Ytenilbofncfbdaa
open Go.RowKit

set_option maxRecDepth 100000 in
set_option maxHeartbeats 4000000 in
theorem rfit_any (W : World) (n : Int) (v : Value) (xs : Ipr) (hx : Lks W W.heap.size v xs) :
  Calls Try.prog 17 #[.int .i64 n, v] W fun e w' => e = .returned (.bool (fitB n xs)) ∧ Below W.heap.size W w' := by
 obtain ⟨ao, ac, rfl, hac, hal⟩ := hx.slice
 have HX := Lib.hid hx
 obtain ⟨R, hR⟩ : ∃ R, R = fitB n xs := ⟨_, rfl⟩
 rw [← hR]
 have HT : Hid (FitX n xs → R = true) := fun h => by rw [hR]; exact fitB_true h
 have HFL : Hid (¬ FitX n xs → R = false) := fun h => by rw [hR]; exact fitB_false h
 obtain ⟨m, hm⟩ : ∃ m, m = xs.length := ⟨_, rfl⟩
 have HM := Lib.hid hm
 rw [← hm] at HX hac hal ⊢
 clear hx hR hm
 by_cases h1 : n < 1
 ·have HE : Hid (R = false) := HFL.out (by rintro ⟨a, -⟩; omega)
  go_enter Try.func17, Try.ntmps17
  go_wp2_with (fail)
  go_ret
  rw [HE.out]
  exact ⟨rfl, Below.refl _ _⟩
 ·by_cases h2 : 16 < n
  ·have HE : Hid (R = false) := HFL.out (by rintro ⟨-, a, -⟩; omega)
   go_enter Try.func17, Try.ntmps17
   go_wp2_with (fail)
   go_ret
   rw [HE.out]
   exact ⟨rfl, Below.refl _ _⟩
  ·have HNN : Hid (1 ≤ n ∧ n ≤ 16) := ⟨by omega, by omega⟩
   go_enter Try.func17, Try.ntmps17
   go_wp2_with (fail)
   clear h1 h2
   go_loopw [5] (fun kv wx => ∃ k : Nat, kv = .int .i64 (k : Int) ∧ k ≤ m ∧ Hid (∀ j, j < k → fitAt n xs j) ∧ Hid (Below W.heap.size W wx)) (fun kv _ => m - (intOf kv).toNat)
   case atStart => exact ⟨0, rfl, Nat.zero_le _, (by show ∀ j, _; omega), Below.refl _ _⟩
   case round =>
    obtain ⟨k, rfl, hk, HK, HB⟩ := hrel
    by_cases hlt : k < m
    ·have hkx : k < xs.length := by have := HM.out; omega
     obtain ⟨bl, ol, e1, hl1, cA, cB⟩ := Lks.at (HX.out.below HB.out (Nat.le_refl _)) k hkx
     subst e1
     obtain ⟨x, hx⟩ : ∃ x, x = (xs.getD k (0, 0)).1 := ⟨_, rfl⟩
     obtain ⟨y, hy⟩ : ∃ x, x = (xs.getD k (0, 0)).2 := ⟨_, rfl⟩
     rw [← hx] at cA
     rw [← hy] at cB
     have HXY : Hid (x = (xs.getD k (0, 0)).1 ∧ y = (xs.getD k (0, 0)).2) := ⟨hx, hy⟩
     have HBAD : Hid (¬ fitAt n xs k → R = false) := fun h => HFL.out fun hf => h (hf.2.2 k hkx)
     have HOK : Hid (fitAt n xs k → ∀ j, j < k + 1 → fitAt n xs j) := fun h j hj => by
      by_cases e : j = k
      ·rw [e]; exact h
      ·exact HK.out j (by omega)
     have hbw : bl < wr.heap.size := by have := HB.out.size; omega
     obtain ⟨q, hq⟩ : ∃ q, q = wr.heap.size := ⟨_, rfl⟩
     obtain ⟨W1, hW1⟩ : ∃ W1, W1 = wr.alloc (.cells #[.int .i64 x, .int .i64 y] 38) := ⟨_, rfl⟩
     have m1 := new_block wr (.cells #[.int .i64 x, .int .i64 y] 38)
     rw [← hW1, ← hq] at m1
     have HB2 : Hid (Below W.heap.size W W1.drew) := (HB.out.trans (m1.1.mono (by rw [hq]; exact HB.out.size))).trans (bdN _ _ 1)
     have HB3 : Hid (Below W.heap.size W W1) := HB.out.trans (m1.1.mono (by rw [hq]; exact HB.out.size))
     have cq0 : W1.drew.cell? ⟨q, 0, none⟩ = some (.int .i64 x) := cell_of_row _ _ 0 _ _ _ m1.2
     have cq1 : W1.drew.cell? ⟨q, 1, none⟩ = some (.int .i64 y) := cell_of_row _ _ 1 _ _ _ m1.2
     have HW1 := Lib.hid hW1
     have HQ := Lib.hid hq
     clear hx hy hkx m1 hq hW1
     by_cases c1 : x < 0
     ·
      have HE : Hid (R = false) := HBAD.out (by unfold fitAt; rw [← HXY.out.1, ← HXY.out.2]; omega)
      go_wp2_with (fail)
      go_ret
      rw [HE.out]
      exact ⟨rfl, by rw [HW1.out] at HB3; exact HB3.out⟩
     ·by_cases c2 : y ≤ x
      ·
       have HE : Hid (R = false) := HBAD.out (by unfold fitAt; rw [← HXY.out.1, ← HXY.out.2]; omega)
       go_wp2_with (fail)
       go_ret
       rw [HE.out]
       exact ⟨rfl, by rw [HW1.out] at HB3; exact HB3.out⟩
      ·by_cases c3 : n ≤ y
       ·
        have HE : Hid (R = false) := HBAD.out (by unfold fitAt; rw [← HXY.out.1, ← HXY.out.2]; omega)
        go_wp2_with (fail)
        go_ret
        rw [HE.out]
        exact ⟨rfl, by rw [HW1.out] at HB3; exact HB3.out⟩
       ·by_cases c4 : 0 < k
        ·obtain ⟨kp, hjk⟩ : ∃ q, k = q + 1 := ⟨k - 1, by omega⟩
         obtain ⟨b2, o2, e2, -, cA2, cB2⟩ := Lks.at (HX.out.below HB3.out (Nat.le_refl _)) kp (by have := HM.out; omega)
         injection e2 with e2
         injection e2 with e3 e4
         subst e3 e4
         obtain ⟨px, hpx⟩ : ∃ x, x = (xs.getD kp (0, 0)).1 := ⟨_, rfl⟩
         obtain ⟨py, hpy⟩ : ∃ x, x = (xs.getD kp (0, 0)).2 := ⟨_, rfl⟩
         rw [← hpx] at cA2
         rw [← hpy] at cB2
         have HPP : Hid (px = (xs.getD (k - 1) (0, 0)).1 ∧ py = (xs.getD (k - 1) (0, 0)).2) := by rw [show k - 1 = kp by omega]; exact ⟨hpx, hpy⟩
         have cpA : W1.drew.cell? ⟨bl, ol + kp * 2, none⟩ = some (.int .i64 px) := cA2
         have cpB : W1.drew.cell? ⟨bl, ol + kp * 2 + 1, none⟩ = some (.int .i64 py) := cB2
         have hj : IntKind.i64.wrap ((k : Int) - 1) = (kp : Int) := by rw [IntKind.wrap_i64]; omega
         have hjm : 0 ≤ (kp : Int) ∧ (kp : Int) < (m : Int) := by omega
         clear hpx hpy hjk cA2 cB2
         by_cases c5 : x < px
         ·
          have HE : Hid (R = false) := HBAD.out (by unfold fitAt; rw [← HXY.out.1, ← HXY.out.2, ← HPP.out.1, ← HPP.out.2]; omega)
          go_wp2_with (fail)
          rw [← HQ.out, ← HW1.out]
          refine wpIn_wide (n := 5).1 (wpIn_flowM (F0 := Fence.wide) (n0 := 5) (fun _ => trivial) (fun h => by cases h) (by kernel_rfl) (by kernel_rfl) 35 35 (by kernel_rfl) (fun j => ([0, 1, 2, 3, 4, 5, 6, 7, 8, 9, 10, 11, 12, 13, 14, 15, 16, 17, 18, 19, 20, 21, 22, 23, 24, 25, 26, 27, 28, 29, 30, 31, 32, 33, 34] : List Nat).getD j 0) (fun j => ([39, 40, 41, 42, 43, 44, 45, 46, 47, 48, 49, 50, 51, 52, 53, 54, 55, 56, 57, 58, 59, 60, 61, 62, 63, 64, 65, 66, 67, 68, 69, 70, 71, 72, 73] : List Nat).getD j 0) (by kernel_rfl) (by kernel_rfl) (by kernel_rfl) (by kernel_rfl) (by kernel_rfl) (by kernel_rfl) (by kernel_rfl) (fun j zv => ([(fun zv => zv = (.int .i64 (k : Int))), (fun zv => zv = (.bool true)), (fun zv => zv = (.bool true)), (fun zv => zv = (.slice (some ⟨bl, ol, none⟩) m ac)), (fun zv => zv = (.int .i64 (k : Int))), (fun zv => zv = (.int .i64 (kp : Int))), (fun zv => zv = (.pointer (some ⟨bl, ol + kp * 2, none⟩))), (fun zv => zv = (.pointer (some ⟨bl, ol + kp * 2, none⟩))), (fun zv => zv = (.int .i64 px)), (fun zv => zv = (.pointer (some ⟨q, 0, none⟩))), (fun zv => zv = (.int .i64 x)), (fun zv => zv = (.bool true)), (fun zv => zv = (.bool true)), (fun zv => zv = undef), (fun zv => zv = undef), (fun zv => zv = undef), (fun zv => zv = undef), (fun zv => zv = undef), (fun zv => zv = undef), (fun zv => zv = undef), (fun zv => zv = undef), (fun zv => zv = undef), (fun zv => zv = undef), (fun zv => zv = undef), (fun zv => zv = undef), (fun zv => zv = undef), (fun zv => zv = undef), (fun zv => zv = undef), (fun zv => zv = undef), (fun zv => zv = undef), (fun zv => zv = undef), (fun zv => zv = undef), (fun zv => zv = undef), (fun zv => zv = (.bool true)), (fun zv => zv = (.bool true))] : List (Value → Prop)).getD j (fun _ => True) zv) (fun _ _ W => W = W1.drew) ?h0vt ?stepvt ?finvt)
          case h0vt => exact fun _ => rfl
          case stepvt =>
           intro i o a W d vs hi ho hdi hJ hf hr hF
           replace hi : i < 35 := hi
           rcases (show i = 0 ∨ i = 1 ∨ i = 2 ∨ i = 3 ∨ i = 4 ∨ i = 5 ∨ i = 6 ∨ i = 7 ∨ i = 8 ∨ i = 9 ∨ i = 10 ∨ i = 11 ∨ i = 12 ∨ i = 13 ∨ i = 14 ∨ i = 15 ∨ i = 16 ∨ i = 17 ∨ i = 18 ∨ i = 19 ∨ i = 20 ∨ i = 21 ∨ i = 22 ∨ i = 23 ∨ i = 24 ∨ i = 25 ∨ i = 26 ∨ i = 27 ∨ i = 28 ∨ i = 29 ∨ i = 30 ∨ i = 31 ∨ i = 32 ∨ i = 33 ∨ i = 34 by omega) with rfl | rfl | rfl | rfl | rfl | rfl | rfl | rfl | rfl | rfl | rfl | rfl | rfl | rfl | rfl | rfl | rfl | rfl | rfl | rfl | rfl | rfl | rfl | rfl | rfl | rfl | rfl | rfl | rfl | rfl | rfl | rfl | rfl | rfl | rfl
           all_goals
            replace ho := op_at ho (by rfl)
            subst ho
           ·have f5 : a.tmps.getD 5 undef = (.int .i64 (k : Int)) := hf 5 (by kernel_rfl)
            subst hJ
            exact .inl ⟨(fun k b h => by cases h), .inl ⟨0, by decide, rfl, (.int .i64 (k : Int)), W1.drew, (by simp [go_sem, Act.eval, f5]), rfl, rfl⟩⟩
           ·have d0 : a.tmps.getD 39 undef = (.int .i64 (k : Int)) := fdn (hF 0 (by decide) (hr 0 (by kernel_rfl)))
            subst hJ
            exact .inl ⟨(fun k b h => by cases h), .inl ⟨1, by decide, rfl, (.bool true), W1.drew, (by simp [go_sem, Act.eval, d0, c4]), rfl, rfl⟩⟩
           ·have d1 : a.tmps.getD 40 undef = (.bool true) := fdn (hF 1 (by decide) (hr 1 (by kernel_rfl)))
            subst hJ
            exact .inl ⟨(fun k b h => by cases h), .inl ⟨2, by decide, rfl, (.bool true), W1.drew, (by simp [go_sem, Act.eval, d1]), rfl, rfl⟩⟩
           ·have d2 : a.tmps.getD 41 undef = (.bool true) := fdn (hF 2 (by decide) (hr 2 (by kernel_rfl)))
            have f1 : a.tmps.getD 1 undef = (.slice (some ⟨bl, ol, none⟩) m ac) := hf 1 (by kernel_rfl)
            subst hJ
            exact .inl ⟨(fun k b h => by cases h; exact ⟨2, by decide, rfl, d2⟩), .inl ⟨3, by decide, rfl, (.slice (some ⟨bl, ol, none⟩) m ac), W1.drew, (by simp [go_sem, Act.eval, d2, f1]), rfl, rfl⟩⟩
           ·have d2 : a.tmps.getD 41 undef = (.bool true) := fdn (hF 2 (by decide) (hr 2 (by kernel_rfl)))
            have f5 : a.tmps.getD 5 undef = (.int .i64 (k : Int)) := hf 5 (by kernel_rfl)
            subst hJ
            exact .inl ⟨(fun k b h => by cases h; exact ⟨2, by decide, rfl, d2⟩), .inl ⟨4, by decide, rfl, (.int .i64 (k : Int)), W1.drew, (by simp [go_sem, Act.eval, d2, f5]), rfl, rfl⟩⟩
           ·have d4 : a.tmps.getD 43 undef = (.int .i64 (k : Int)) := fdn (hF 4 (by decide) (hr 4 (by kernel_rfl)))
            have d2 : a.tmps.getD 41 undef = (.bool true) := fdn (hF 2 (by decide) (hr 2 (by kernel_rfl)))
            subst hJ
            exact .inl ⟨(fun k b h => by cases h; exact ⟨2, by decide, rfl, d2⟩), .inl ⟨5, by decide, rfl, (.int .i64 (kp : Int)), W1.drew, (by simp [go_sem, Act.eval, d4, d2, hj]), rfl, rfl⟩⟩
           ·have d3 : a.tmps.getD 42 undef = (.slice (some ⟨bl, ol, none⟩) m ac) := fdn (hF 3 (by decide) (hr 3 (by kernel_rfl)))
            have d5 : a.tmps.getD 44 undef = (.int .i64 (kp : Int)) := fdn (hF 5 (by decide) (hr 5 (by kernel_rfl)))
            have d2 : a.tmps.getD 41 undef = (.bool true) := fdn (hF 2 (by decide) (hr 2 (by kernel_rfl)))
            subst hJ
            exact .inl ⟨(fun k b h => by cases h; exact ⟨2, by decide, rfl, d2⟩), .inl ⟨6, by decide, rfl, (.pointer (some ⟨bl, ol + kp * 2, none⟩)), W1.drew, (by simp [go_sem, Act.eval, d3, d5, d2, hjm]), rfl, rfl⟩⟩
           ·have d6 : a.tmps.getD 45 undef = (.pointer (some ⟨bl, ol + kp * 2, none⟩)) := fdn (hF 6 (by decide) (hr 6 (by kernel_rfl)))
            have d2 : a.tmps.getD 41 undef = (.bool true) := fdn (hF 2 (by decide) (hr 2 (by kernel_rfl)))
            subst hJ
            exact .inl ⟨(fun k b h => by cases h; exact ⟨2, by decide, rfl, d2⟩), .inl ⟨7, by decide, rfl, (.pointer (some ⟨bl, ol + kp * 2, none⟩)), W1.drew, (by simp [go_sem, Act.eval, d6, d2]), rfl, rfl⟩⟩
           ·have d7 : a.tmps.getD 46 undef = (.pointer (some ⟨bl, ol + kp * 2, none⟩)) := fdn (hF 7 (by decide) (hr 7 (by kernel_rfl)))
            have d2 : a.tmps.getD 41 undef = (.bool true) := fdn (hF 2 (by decide) (hr 2 (by kernel_rfl)))
            subst hJ
            exact .inl ⟨(fun k b h => by cases h; exact ⟨2, by decide, rfl, d2⟩), .inl ⟨8, by decide, rfl, (.int .i64 px), W1.drew, (by simp [go_sem, Act.eval, d7, d2, cpA]), rfl, rfl⟩⟩
           ·have d2 : a.tmps.getD 41 undef = (.bool true) := fdn (hF 2 (by decide) (hr 2 (by kernel_rfl)))
            have f6 : a.tmps.getD 6 undef = (.pointer (some ⟨q, 0, none⟩)) := hf 6 (by kernel_rfl)
            subst hJ
            exact .inl ⟨(fun k b h => by cases h; exact ⟨2, by decide, rfl, d2⟩), .inl ⟨9, by decide, rfl, (.pointer (some ⟨q, 0, none⟩)), W1.drew, (by simp [go_sem, Act.eval, d2, f6]), rfl, rfl⟩⟩
           ·have d9 : a.tmps.getD 48 undef = (.pointer (some ⟨q, 0, none⟩)) := fdn (hF 9 (by decide) (hr 9 (by kernel_rfl)))
            have d2 : a.tmps.getD 41 undef = (.bool true) := fdn (hF 2 (by decide) (hr 2 (by kernel_rfl)))
            subst hJ
            exact .inl ⟨(fun k b h => by cases h; exact ⟨2, by decide, rfl, d2⟩), .inl ⟨10, by decide, rfl, (.int .i64 x), W1.drew, (by simp [go_sem, Act.eval, d9, d2, cq0]), rfl, rfl⟩⟩
           ·have d8 : a.tmps.getD 47 undef = (.int .i64 px) := fdn (hF 8 (by decide) (hr 8 (by kernel_rfl)))
            have d10 : a.tmps.getD 49 undef = (.int .i64 x) := fdn (hF 10 (by decide) (hr 10 (by kernel_rfl)))
            have d2 : a.tmps.getD 41 undef = (.bool true) := fdn (hF 2 (by decide) (hr 2 (by kernel_rfl)))
            subst hJ
            exact .inl ⟨(fun k b h => by cases h; exact ⟨2, by decide, rfl, d2⟩), .inl ⟨11, by decide, rfl, (.bool true), W1.drew, (by simp [go_sem, Act.eval, d8, d10, d2, c5]), rfl, rfl⟩⟩
           ·have d11 : a.tmps.getD 50 undef = (.bool true) := fdn (hF 11 (by decide) (hr 11 (by kernel_rfl)))
            have d2 : a.tmps.getD 41 undef = (.bool true) := fdn (hF 2 (by decide) (hr 2 (by kernel_rfl)))
            subst hJ
            exact .inl ⟨(fun k b h => by cases h; exact ⟨2, by decide, rfl, d2⟩), .inl ⟨12, by decide, rfl, (.bool true), W1.drew, (by simp [go_sem, Act.eval, d11, d2]), rfl, rfl⟩⟩
           ·have d12 : a.tmps.getD 51 undef = (.bool true) := fdn (hF 12 (by decide) (hr 12 (by kernel_rfl)))
            subst hJ
            exact .inr ⟨12, false, 12, rfl, by decide, rfl, (nhB d12 rfl), .inl ⟨13, by decide, rfl, rfl, rfl⟩⟩
           ·have d12 : a.tmps.getD 51 undef = (.bool true) := fdn (hF 12 (by decide) (hr 12 (by kernel_rfl)))
            subst hJ
            exact .inr ⟨12, false, 12, rfl, by decide, rfl, (nhB d12 rfl), .inl ⟨14, by decide, rfl, rfl, rfl⟩⟩
           ·have d12 : a.tmps.getD 51 undef = (.bool true) := fdn (hF 12 (by decide) (hr 12 (by kernel_rfl)))
            subst hJ
            exact .inr ⟨12, false, 12, rfl, by decide, rfl, (nhB d12 rfl), .inl ⟨15, by decide, rfl, rfl, rfl⟩⟩
           ·have d12 : a.tmps.getD 51 undef = (.bool true) := fdn (hF 12 (by decide) (hr 12 (by kernel_rfl)))
            subst hJ
            exact .inr ⟨12, false, 12, rfl, by decide, rfl, (nhB d12 rfl), .inl ⟨16, by decide, rfl, rfl, rfl⟩⟩
           ·have d12 : a.tmps.getD 51 undef = (.bool true) := fdn (hF 12 (by decide) (hr 12 (by kernel_rfl)))
            subst hJ
            exact .inr ⟨12, false, 12, rfl, by decide, rfl, (nhB d12 rfl), .inl ⟨17, by decide, rfl, rfl, rfl⟩⟩
           ·have d12 : a.tmps.getD 51 undef = (.bool true) := fdn (hF 12 (by decide) (hr 12 (by kernel_rfl)))
            subst hJ
            exact .inr ⟨12, false, 12, rfl, by decide, rfl, (nhB d12 rfl), .inl ⟨18, by decide, rfl, rfl, rfl⟩⟩
           ·have d12 : a.tmps.getD 51 undef = (.bool true) := fdn (hF 12 (by decide) (hr 12 (by kernel_rfl)))
            subst hJ
            exact .inr ⟨12, false, 12, rfl, by decide, rfl, (nhB d12 rfl), .inl ⟨19, by decide, rfl, rfl, rfl⟩⟩
           ·have d12 : a.tmps.getD 51 undef = (.bool true) := fdn (hF 12 (by decide) (hr 12 (by kernel_rfl)))
            subst hJ
            exact .inr ⟨12, false, 12, rfl, by decide, rfl, (nhB d12 rfl), .inl ⟨20, by decide, rfl, rfl, rfl⟩⟩
           ·have d12 : a.tmps.getD 51 undef = (.bool true) := fdn (hF 12 (by decide) (hr 12 (by kernel_rfl)))
            subst hJ
            exact .inr ⟨12, false, 12, rfl, by decide, rfl, (nhB d12 rfl), .inl ⟨21, by decide, rfl, rfl, rfl⟩⟩
           ·have d12 : a.tmps.getD 51 undef = (.bool true) := fdn (hF 12 (by decide) (hr 12 (by kernel_rfl)))
            subst hJ
            exact .inr ⟨12, false, 12, rfl, by decide, rfl, (nhB d12 rfl), .inl ⟨22, by decide, rfl, rfl, rfl⟩⟩
           ·have d22 : a.tmps.getD 61 undef = undef := fdn (hF 22 (by decide) (hr 22 (by kernel_rfl)))
            subst hJ
            exact .inr ⟨22, true, 22, rfl, by decide, rfl, (nhU d22), .inl ⟨23, by decide, rfl, rfl, rfl⟩⟩
           ·have d22 : a.tmps.getD 61 undef = undef := fdn (hF 22 (by decide) (hr 22 (by kernel_rfl)))
            subst hJ
            exact .inr ⟨22, true, 22, rfl, by decide, rfl, (nhU d22), .inl ⟨24, by decide, rfl, rfl, rfl⟩⟩
           ·have d22 : a.tmps.getD 61 undef = undef := fdn (hF 22 (by decide) (hr 22 (by kernel_rfl)))
            subst hJ
            exact .inr ⟨22, true, 22, rfl, by decide, rfl, (nhU d22), .inl ⟨25, by decide, rfl, rfl, rfl⟩⟩
           ·have d22 : a.tmps.getD 61 undef = undef := fdn (hF 22 (by decide) (hr 22 (by kernel_rfl)))
            subst hJ
            exact .inr ⟨22, true, 22, rfl, by decide, rfl, (nhU d22), .inl ⟨26, by decide, rfl, rfl, rfl⟩⟩
           ·have d22 : a.tmps.getD 61 undef = undef := fdn (hF 22 (by decide) (hr 22 (by kernel_rfl)))
            subst hJ
            exact .inr ⟨22, true, 22, rfl, by decide, rfl, (nhU d22), .inl ⟨27, by decide, rfl, rfl, rfl⟩⟩
           ·have d22 : a.tmps.getD 61 undef = undef := fdn (hF 22 (by decide) (hr 22 (by kernel_rfl)))
            subst hJ
            exact .inr ⟨22, true, 22, rfl, by decide, rfl, (nhU d22), .inl ⟨28, by decide, rfl, rfl, rfl⟩⟩
           ·have d22 : a.tmps.getD 61 undef = undef := fdn (hF 22 (by decide) (hr 22 (by kernel_rfl)))
            subst hJ
            exact .inr ⟨22, true, 22, rfl, by decide, rfl, (nhU d22), .inl ⟨29, by decide, rfl, rfl, rfl⟩⟩
           ·have d22 : a.tmps.getD 61 undef = undef := fdn (hF 22 (by decide) (hr 22 (by kernel_rfl)))
            subst hJ
            exact .inr ⟨22, true, 22, rfl, by decide, rfl, (nhU d22), .inl ⟨30, by decide, rfl, rfl, rfl⟩⟩
           ·have d22 : a.tmps.getD 61 undef = undef := fdn (hF 22 (by decide) (hr 22 (by kernel_rfl)))
            subst hJ
            exact .inr ⟨22, true, 22, rfl, by decide, rfl, (nhU d22), .inl ⟨31, by decide, rfl, rfl, rfl⟩⟩
           ·have d12 : a.tmps.getD 51 undef = (.bool true) := fdn (hF 12 (by decide) (hr 12 (by kernel_rfl)))
            subst hJ
            exact .inr ⟨12, false, 12, rfl, by decide, rfl, (nhB d12 rfl), .inl ⟨32, by decide, rfl, rfl, rfl⟩⟩
           ·have d12 : a.tmps.getD 51 undef = (.bool true) := fdn (hF 12 (by decide) (hr 12 (by kernel_rfl)))
            have d2 : a.tmps.getD 41 undef = (.bool true) := fdn (hF 2 (by decide) (hr 2 (by kernel_rfl)))
            subst hJ
            exact .inl ⟨(fun k b h => by cases h; exact ⟨2, by decide, rfl, d2⟩), .inl ⟨33, by decide, rfl, (.bool true), W1.drew, (by simp [go_sem, Act.eval, d12, d2]), rfl, rfl⟩⟩
           ·have d2 : a.tmps.getD 41 undef = (.bool true) := fdn (hF 2 (by decide) (hr 2 (by kernel_rfl)))
            have d33 : a.tmps.getD 72 undef = (.bool true) := fdn (hF 33 (by decide) (hr 33 (by kernel_rfl)))
            subst hJ
            exact .inl ⟨(fun k b h => by cases h), .inl ⟨34, by decide, rfl, (.bool true), W1.drew, (by simp [go_sem, Act.eval, d2, d33]), rfl, rfl⟩⟩
          case finvt =>
           intro d vs Wvt hall hJ hF
           have h0 : vs 0 = (.int .i64 (k : Int)) := hF 0 (by decide)
           have h1 : vs 1 = (.bool true) := hF 1 (by decide)
           have h2 : vs 2 = (.bool true) := hF 2 (by decide)
           have h3 : vs 3 = (.slice (some ⟨bl, ol, none⟩) m ac) := hF 3 (by decide)
           have h4 : vs 4 = (.int .i64 (k : Int)) := hF 4 (by decide)
           have h5 : vs 5 = (.int .i64 (kp : Int)) := hF 5 (by decide)
           have h6 : vs 6 = (.pointer (some ⟨bl, ol + kp * 2, none⟩)) := hF 6 (by decide)
           have h7 : vs 7 = (.pointer (some ⟨bl, ol + kp * 2, none⟩)) := hF 7 (by decide)
           have h8 : vs 8 = (.int .i64 px) := hF 8 (by decide)
           have h9 : vs 9 = (.pointer (some ⟨q, 0, none⟩)) := hF 9 (by decide)
           have h10 : vs 10 = (.int .i64 x) := hF 10 (by decide)
           have h11 : vs 11 = (.bool true) := hF 11 (by decide)
           have h12 : vs 12 = (.bool true) := hF 12 (by decide)
           have h13 : vs 13 = undef := hF 13 (by decide)
           have h14 : vs 14 = undef := hF 14 (by decide)
           have h15 : vs 15 = undef := hF 15 (by decide)
           have h16 : vs 16 = undef := hF 16 (by decide)
           have h17 : vs 17 = undef := hF 17 (by decide)
           have h18 : vs 18 = undef := hF 18 (by decide)
           have h19 : vs 19 = undef := hF 19 (by decide)
           have h20 : vs 20 = undef := hF 20 (by decide)
           have h21 : vs 21 = undef := hF 21 (by decide)
           have h22 : vs 22 = undef := hF 22 (by decide)
           have h23 : vs 23 = undef := hF 23 (by decide)
           have h24 : vs 24 = undef := hF 24 (by decide)
           have h25 : vs 25 = undef := hF 25 (by decide)
           have h26 : vs 26 = undef := hF 26 (by decide)
           have h27 : vs 27 = undef := hF 27 (by decide)
           have h28 : vs 28 = undef := hF 28 (by decide)
           have h29 : vs 29 = undef := hF 29 (by decide)
           have h30 : vs 30 = undef := hF 30 (by decide)
           have h31 : vs 31 = undef := hF 31 (by decide)
           have h32 : vs 32 = undef := hF 32 (by decide)
           have h33 : vs 33 = (.bool true) := hF 33 (by decide)
           have h34 : vs 34 = (.bool true) := hF 34 (by decide)
           clear hF
           show (_ : Exit → Act → World → Prop) Exit.normal (puts _ vs 35 _) Wvt
           simp only [puts, h0, h1, h2, h3, h4, h5, h6, h7, h8, h9, h10, h11, h12, h13, h14, h15, h16, h17, h18, h19, h20, h21, h22, h23, h24, h25, h26, h27, h28, h29, h30, h31, h32, h33, h34, List.getD_cons_zero, List.getD_cons_succ]
           clear h0 h1 h2 h3 h4 h5 h6 h7 h8 h9 h10 h11 h12 h13 h14 h15 h16 h17 h18 h19 h20 h21 h22 h23 h24 h25 h26 h27 h28 h29 h30 h31 h32 h33 h34
           subst hJ
           simp only [Act.put, List.setIfInBounds_toArray, List.set_cons_succ, List.set_cons_zero]
           clear hall
           go_wp2_with (fail)
           go_ret
           rw [HE.out]
           exact ⟨rfl, HB2.out⟩
         ·by_cases c6 : px = x
          ·have hpb : (px == x) = true := by simpa using c6
           by_cases c7 : y ≤ py
           ·
            have HE : Hid (R = false) := HBAD.out (by unfold fitAt; rw [← HXY.out.1, ← HXY.out.2, ← HPP.out.1, ← HPP.out.2]; omega)
            go_wp2_with (fail)
            rw [← HQ.out, ← HW1.out]
            refine wpIn_wide (n := 5).1 (wpIn_flowM (F0 := Fence.wide) (n0 := 5) (fun _ => trivial) (fun h => by cases h) (by kernel_rfl) (by kernel_rfl) 35 35 (by kernel_rfl) (fun j => ([0, 1, 2, 3, 4, 5, 6, 7, 8, 9, 10, 11, 12, 13, 14, 15, 16, 17, 18, 19, 20, 21, 22, 23, 24, 25, 26, 27, 28, 29, 30, 31, 32, 33, 34] : List Nat).getD j 0) (fun j => ([39, 40, 41, 42, 43, 44, 45, 46, 47, 48, 49, 50, 51, 52, 53, 54, 55, 56, 57, 58, 59, 60, 61, 62, 63, 64, 65, 66, 67, 68, 69, 70, 71, 72, 73] : List Nat).getD j 0) (by kernel_rfl) (by kernel_rfl) (by kernel_rfl) (by kernel_rfl) (by kernel_rfl) (by kernel_rfl) (by kernel_rfl) (fun j zv => ([(fun zv => zv = (.int .i64 (k : Int))), (fun zv => zv = (.bool true)), (fun zv => zv = (.bool true)), (fun zv => zv = (.slice (some ⟨bl, ol, none⟩) m ac)), (fun zv => zv = (.int .i64 (k : Int))), (fun zv => zv = (.int .i64 (kp : Int))), (fun zv => zv = (.pointer (some ⟨bl, ol + kp * 2, none⟩))), (fun zv => zv = (.pointer (some ⟨bl, ol + kp * 2, none⟩))), (fun zv => zv = (.int .i64 px)), (fun zv => zv = (.pointer (some ⟨q, 0, none⟩))), (fun zv => zv = (.int .i64 x)), (fun zv => zv = (.bool false)), (fun zv => zv = (.bool false)), (fun zv => zv = (.slice (some ⟨bl, ol, none⟩) m ac)), (fun zv => zv = (.int .i64 (k : Int))), (fun zv => zv = (.int .i64 (kp : Int))), (fun zv => zv = (.pointer (some ⟨bl, ol + kp * 2, none⟩))), (fun zv => zv = (.pointer (some ⟨bl, ol + kp * 2, none⟩))), (fun zv => zv = (.int .i64 px)), (fun zv => zv = (.pointer (some ⟨q, 0, none⟩))), (fun zv => zv = (.int .i64 x)), (fun zv => zv = (.bool true)), (fun zv => zv = (.bool true)), (fun zv => zv = (.slice (some ⟨bl, ol, none⟩) m ac)), (fun zv => zv = (.int .i64 (k : Int))), (fun zv => zv = (.int .i64 (kp : Int))), (fun zv => zv = (.pointer (some ⟨bl, ol + kp * 2, none⟩))), (fun zv => zv = (.pointer (some ⟨bl, ol + kp * 2 + 1, none⟩))), (fun zv => zv = (.int .i64 py)), (fun zv => zv = (.pointer (some ⟨q, 1, none⟩))), (fun zv => zv = (.int .i64 y)), (fun zv => zv = (.bool true)), (fun zv => zv = (.bool true)), (fun zv => zv = (.bool true)), (fun zv => zv = (.bool true))] : List (Value → Prop)).getD j (fun _ => True) zv) (fun _ _ W => W = W1.drew) ?h0ut ?steput ?finut)
            case h0ut => exact fun _ => rfl
            case steput =>
             intro i o a W d vs hi ho hdi hJ hf hr hF
             replace hi : i < 35 := hi
             rcases (show i = 0 ∨ i = 1 ∨ i = 2 ∨ i = 3 ∨ i = 4 ∨ i = 5 ∨ i = 6 ∨ i = 7 ∨ i = 8 ∨ i = 9 ∨ i = 10 ∨ i = 11 ∨ i = 12 ∨ i = 13 ∨ i = 14 ∨ i = 15 ∨ i = 16 ∨ i = 17 ∨ i = 18 ∨ i = 19 ∨ i = 20 ∨ i = 21 ∨ i = 22 ∨ i = 23 ∨ i = 24 ∨ i = 25 ∨ i = 26 ∨ i = 27 ∨ i = 28 ∨ i = 29 ∨ i = 30 ∨ i = 31 ∨ i = 32 ∨ i = 33 ∨ i = 34 by omega) with rfl | rfl | rfl | rfl | rfl | rfl | rfl | rfl | rfl | rfl | rfl | rfl | rfl | rfl | rfl | rfl | rfl | rfl | rfl | rfl | rfl | rfl | rfl | rfl | rfl | rfl | rfl | rfl | rfl | rfl | rfl | rfl | rfl | rfl | rfl
             all_goals
              replace ho := op_at ho (by rfl)
              subst ho
             ·have f5 : a.tmps.getD 5 undef = (.int .i64 (k : Int)) := hf 5 (by kernel_rfl)
              subst hJ
              exact .inl ⟨(fun k b h => by cases h), .inl ⟨0, by decide, rfl, (.int .i64 (k : Int)), W1.drew, (by simp [go_sem, Act.eval, f5]), rfl, rfl⟩⟩
             ·have d0 : a.tmps.getD 39 undef = (.int .i64 (k : Int)) := fdn (hF 0 (by decide) (hr 0 (by kernel_rfl)))
              subst hJ
              exact .inl ⟨(fun k b h => by cases h), .inl ⟨1, by decide, rfl, (.bool true), W1.drew, (by simp [go_sem, Act.eval, d0, c4]), rfl, rfl⟩⟩
             ·have d1 : a.tmps.getD 40 undef = (.bool true) := fdn (hF 1 (by decide) (hr 1 (by kernel_rfl)))
              subst hJ
              exact .inl ⟨(fun k b h => by cases h), .inl ⟨2, by decide, rfl, (.bool true), W1.drew, (by simp [go_sem, Act.eval, d1]), rfl, rfl⟩⟩
             ·have d2 : a.tmps.getD 41 undef = (.bool true) := fdn (hF 2 (by decide) (hr 2 (by kernel_rfl)))
              have f1 : a.tmps.getD 1 undef = (.slice (some ⟨bl, ol, none⟩) m ac) := hf 1 (by kernel_rfl)
              subst hJ
              exact .inl ⟨(fun k b h => by cases h; exact ⟨2, by decide, rfl, d2⟩), .inl ⟨3, by decide, rfl, (.slice (some ⟨bl, ol, none⟩) m ac), W1.drew, (by simp [go_sem, Act.eval, d2, f1]), rfl, rfl⟩⟩
             ·have d2 : a.tmps.getD 41 undef = (.bool true) := fdn (hF 2 (by decide) (hr 2 (by kernel_rfl)))
              have f5 : a.tmps.getD 5 undef = (.int .i64 (k : Int)) := hf 5 (by kernel_rfl)
              subst hJ
              exact .inl ⟨(fun k b h => by cases h; exact ⟨2, by decide, rfl, d2⟩), .inl ⟨4, by decide, rfl, (.int .i64 (k : Int)), W1.drew, (by simp [go_sem, Act.eval, d2, f5]), rfl, rfl⟩⟩
             ·have d4 : a.tmps.getD 43 undef = (.int .i64 (k : Int)) := fdn (hF 4 (by decide) (hr 4 (by kernel_rfl)))
              have d2 : a.tmps.getD 41 undef = (.bool true) := fdn (hF 2 (by decide) (hr 2 (by kernel_rfl)))
              subst hJ
              exact .inl ⟨(fun k b h => by cases h; exact ⟨2, by decide, rfl, d2⟩), .inl ⟨5, by decide, rfl, (.int .i64 (kp : Int)), W1.drew, (by simp [go_sem, Act.eval, d4, d2, hj]), rfl, rfl⟩⟩
             ·have d3 : a.tmps.getD 42 undef = (.slice (some ⟨bl, ol, none⟩) m ac) := fdn (hF 3 (by decide) (hr 3 (by kernel_rfl)))
              have d5 : a.tmps.getD 44 undef = (.int .i64 (kp : Int)) := fdn (hF 5 (by decide) (hr 5 (by kernel_rfl)))
              have d2 : a.tmps.getD 41 undef = (.bool true) := fdn (hF 2 (by decide) (hr 2 (by kernel_rfl)))
              subst hJ
              exact .inl ⟨(fun k b h => by cases h; exact ⟨2, by decide, rfl, d2⟩), .inl ⟨6, by decide, rfl, (.pointer (some ⟨bl, ol + kp * 2, none⟩)), W1.drew, (by simp [go_sem, Act.eval, d3, d5, d2, hjm]), rfl, rfl⟩⟩
             ·have d6 : a.tmps.getD 45 undef = (.pointer (some ⟨bl, ol + kp * 2, none⟩)) := fdn (hF 6 (by decide) (hr 6 (by kernel_rfl)))
              have d2 : a.tmps.getD 41 undef = (.bool true) := fdn (hF 2 (by decide) (hr 2 (by kernel_rfl)))
              subst hJ
              exact .inl ⟨(fun k b h => by cases h; exact ⟨2, by decide, rfl, d2⟩), .inl ⟨7, by decide, rfl, (.pointer (some ⟨bl, ol + kp * 2, none⟩)), W1.drew, (by simp [go_sem, Act.eval, d6, d2]), rfl, rfl⟩⟩
             ·have d7 : a.tmps.getD 46 undef = (.pointer (some ⟨bl, ol + kp * 2, none⟩)) := fdn (hF 7 (by decide) (hr 7 (by kernel_rfl)))
              have d2 : a.tmps.getD 41 undef = (.bool true) := fdn (hF 2 (by decide) (hr 2 (by kernel_rfl)))
              subst hJ
              exact .inl ⟨(fun k b h => by cases h; exact ⟨2, by decide, rfl, d2⟩), .inl ⟨8, by decide, rfl, (.int .i64 px), W1.drew, (by simp [go_sem, Act.eval, d7, d2, cpA]), rfl, rfl⟩⟩
             ·have d2 : a.tmps.getD 41 undef = (.bool true) := fdn (hF 2 (by decide) (hr 2 (by kernel_rfl)))
              have f6 : a.tmps.getD 6 undef = (.pointer (some ⟨q, 0, none⟩)) := hf 6 (by kernel_rfl)
              subst hJ
              exact .inl ⟨(fun k b h => by cases h; exact ⟨2, by decide, rfl, d2⟩), .inl ⟨9, by decide, rfl, (.pointer (some ⟨q, 0, none⟩)), W1.drew, (by simp [go_sem, Act.eval, d2, f6]), rfl, rfl⟩⟩
             ·have d9 : a.tmps.getD 48 undef = (.pointer (some ⟨q, 0, none⟩)) := fdn (hF 9 (by decide) (hr 9 (by kernel_rfl)))
              have d2 : a.tmps.getD 41 undef = (.bool true) := fdn (hF 2 (by decide) (hr 2 (by kernel_rfl)))
              subst hJ
              exact .inl ⟨(fun k b h => by cases h; exact ⟨2, by decide, rfl, d2⟩), .inl ⟨10, by decide, rfl, (.int .i64 x), W1.drew, (by simp [go_sem, Act.eval, d9, d2, cq0]), rfl, rfl⟩⟩
             ·have d8 : a.tmps.getD 47 undef = (.int .i64 px) := fdn (hF 8 (by decide) (hr 8 (by kernel_rfl)))
              have d10 : a.tmps.getD 49 undef = (.int .i64 x) := fdn (hF 10 (by decide) (hr 10 (by kernel_rfl)))
              have d2 : a.tmps.getD 41 undef = (.bool true) := fdn (hF 2 (by decide) (hr 2 (by kernel_rfl)))
              subst hJ
              exact .inl ⟨(fun k b h => by cases h; exact ⟨2, by decide, rfl, d2⟩), .inl ⟨11, by decide, rfl, (.bool false), W1.drew, (by simp [go_sem, Act.eval, d8, d10, d2, c5]), rfl, rfl⟩⟩
             ·have d11 : a.tmps.getD 50 undef = (.bool false) := fdn (hF 11 (by decide) (hr 11 (by kernel_rfl)))
              have d2 : a.tmps.getD 41 undef = (.bool true) := fdn (hF 2 (by decide) (hr 2 (by kernel_rfl)))
              subst hJ
              exact .inl ⟨(fun k b h => by cases h; exact ⟨2, by decide, rfl, d2⟩), .inl ⟨12, by decide, rfl, (.bool false), W1.drew, (by simp [go_sem, Act.eval, d11, d2]), rfl, rfl⟩⟩
             ·have d12 : a.tmps.getD 51 undef = (.bool false) := fdn (hF 12 (by decide) (hr 12 (by kernel_rfl)))
              have f1 : a.tmps.getD 1 undef = (.slice (some ⟨bl, ol, none⟩) m ac) := hf 1 (by kernel_rfl)
              subst hJ
              exact .inl ⟨(fun k b h => by cases h; exact ⟨12, by decide, rfl, d12⟩), .inl ⟨13, by decide, rfl, (.slice (some ⟨bl, ol, none⟩) m ac), W1.drew, (by simp [go_sem, Act.eval, d12, f1]), rfl, rfl⟩⟩
             ·have d12 : a.tmps.getD 51 undef = (.bool false) := fdn (hF 12 (by decide) (hr 12 (by kernel_rfl)))
              have f5 : a.tmps.getD 5 undef = (.int .i64 (k : Int)) := hf 5 (by kernel_rfl)
              subst hJ
              exact .inl ⟨(fun k b h => by cases h; exact ⟨12, by decide, rfl, d12⟩), .inl ⟨14, by decide, rfl, (.int .i64 (k : Int)), W1.drew, (by simp [go_sem, Act.eval, d12, f5]), rfl, rfl⟩⟩
             ·have d14 : a.tmps.getD 53 undef = (.int .i64 (k : Int)) := fdn (hF 14 (by decide) (hr 14 (by kernel_rfl)))
              have d12 : a.tmps.getD 51 undef = (.bool false) := fdn (hF 12 (by decide) (hr 12 (by kernel_rfl)))
              subst hJ
              exact .inl ⟨(fun k b h => by cases h; exact ⟨12, by decide, rfl, d12⟩), .inl ⟨15, by decide, rfl, (.int .i64 (kp : Int)), W1.drew, (by simp [go_sem, Act.eval, d14, d12, hj]), rfl, rfl⟩⟩
             ·have d13 : a.tmps.getD 52 undef = (.slice (some ⟨bl, ol, none⟩) m ac) := fdn (hF 13 (by decide) (hr 13 (by kernel_rfl)))
              have d15 : a.tmps.getD 54 undef = (.int .i64 (kp : Int)) := fdn (hF 15 (by decide) (hr 15 (by kernel_rfl)))
              have d12 : a.tmps.getD 51 undef = (.bool false) := fdn (hF 12 (by decide) (hr 12 (by kernel_rfl)))
              subst hJ
              exact .inl ⟨(fun k b h => by cases h; exact ⟨12, by decide, rfl, d12⟩), .inl ⟨16, by decide, rfl, (.pointer (some ⟨bl, ol + kp * 2, none⟩)), W1.drew, (by simp [go_sem, Act.eval, d13, d15, d12, hjm]), rfl, rfl⟩⟩
             ·have d16 : a.tmps.getD 55 undef = (.pointer (some ⟨bl, ol + kp * 2, none⟩)) := fdn (hF 16 (by decide) (hr 16 (by kernel_rfl)))
              have d12 : a.tmps.getD 51 undef = (.bool false) := fdn (hF 12 (by decide) (hr 12 (by kernel_rfl)))
              subst hJ
              exact .inl ⟨(fun k b h => by cases h; exact ⟨12, by decide, rfl, d12⟩), .inl ⟨17, by decide, rfl, (.pointer (some ⟨bl, ol + kp * 2, none⟩)), W1.drew, (by simp [go_sem, Act.eval, d16, d12]), rfl, rfl⟩⟩
             ·have d17 : a.tmps.getD 56 undef = (.pointer (some ⟨bl, ol + kp * 2, none⟩)) := fdn (hF 17 (by decide) (hr 17 (by kernel_rfl)))
              have d12 : a.tmps.getD 51 undef = (.bool false) := fdn (hF 12 (by decide) (hr 12 (by kernel_rfl)))
              subst hJ
              exact .inl ⟨(fun k b h => by cases h; exact ⟨12, by decide, rfl, d12⟩), .inl ⟨18, by decide, rfl, (.int .i64 px), W1.drew, (by simp [go_sem, Act.eval, d17, d12, cpA]), rfl, rfl⟩⟩
             ·have d12 : a.tmps.getD 51 undef = (.bool false) := fdn (hF 12 (by decide) (hr 12 (by kernel_rfl)))
              have f6 : a.tmps.getD 6 undef = (.pointer (some ⟨q, 0, none⟩)) := hf 6 (by kernel_rfl)
              subst hJ
              exact .inl ⟨(fun k b h => by cases h; exact ⟨12, by decide, rfl, d12⟩), .inl ⟨19, by decide, rfl, (.pointer (some ⟨q, 0, none⟩)), W1.drew, (by simp [go_sem, Act.eval, d12, f6]), rfl, rfl⟩⟩
             ·have d19 : a.tmps.getD 58 undef = (.pointer (some ⟨q, 0, none⟩)) := fdn (hF 19 (by decide) (hr 19 (by kernel_rfl)))
              have d12 : a.tmps.getD 51 undef = (.bool false) := fdn (hF 12 (by decide) (hr 12 (by kernel_rfl)))
              subst hJ
              exact .inl ⟨(fun k b h => by cases h; exact ⟨12, by decide, rfl, d12⟩), .inl ⟨20, by decide, rfl, (.int .i64 x), W1.drew, (by simp [go_sem, Act.eval, d19, d12, cq0]), rfl, rfl⟩⟩
             ·have d18 : a.tmps.getD 57 undef = (.int .i64 px) := fdn (hF 18 (by decide) (hr 18 (by kernel_rfl)))
              have d20 : a.tmps.getD 59 undef = (.int .i64 x) := fdn (hF 20 (by decide) (hr 20 (by kernel_rfl)))
              have d12 : a.tmps.getD 51 undef = (.bool false) := fdn (hF 12 (by decide) (hr 12 (by kernel_rfl)))
              subst hJ
              exact .inl ⟨(fun k b h => by cases h; exact ⟨12, by decide, rfl, d12⟩), .inl ⟨21, by decide, rfl, (.bool true), W1.drew, (by simp [go_sem, Act.eval, d18, d20, d12, hpb]), rfl, rfl⟩⟩
             ·have d21 : a.tmps.getD 60 undef = (.bool true) := fdn (hF 21 (by decide) (hr 21 (by kernel_rfl)))
              have d12 : a.tmps.getD 51 undef = (.bool false) := fdn (hF 12 (by decide) (hr 12 (by kernel_rfl)))
              subst hJ
              exact .inl ⟨(fun k b h => by cases h; exact ⟨12, by decide, rfl, d12⟩), .inl ⟨22, by decide, rfl, (.bool true), W1.drew, (by simp [go_sem, Act.eval, d21, d12]), rfl, rfl⟩⟩
             ·have d22 : a.tmps.getD 61 undef = (.bool true) := fdn (hF 22 (by decide) (hr 22 (by kernel_rfl)))
              have f1 : a.tmps.getD 1 undef = (.slice (some ⟨bl, ol, none⟩) m ac) := hf 1 (by kernel_rfl)
              subst hJ
              exact .inl ⟨(fun k b h => by cases h; exact ⟨22, by decide, rfl, d22⟩), .inl ⟨23, by decide, rfl, (.slice (some ⟨bl, ol, none⟩) m ac), W1.drew, (by simp [go_sem, Act.eval, d22, f1]), rfl, rfl⟩⟩
             ·have d22 : a.tmps.getD 61 undef = (.bool true) := fdn (hF 22 (by decide) (hr 22 (by kernel_rfl)))
              have f5 : a.tmps.getD 5 undef = (.int .i64 (k : Int)) := hf 5 (by kernel_rfl)
              subst hJ
              exact .inl ⟨(fun k b h => by cases h; exact ⟨22, by decide, rfl, d22⟩), .inl ⟨24, by decide, rfl, (.int .i64 (k : Int)), W1.drew, (by simp [go_sem, Act.eval, d22, f5]), rfl, rfl⟩⟩
             ·have d24 : a.tmps.getD 63 undef = (.int .i64 (k : Int)) := fdn (hF 24 (by decide) (hr 24 (by kernel_rfl)))
              have d22 : a.tmps.getD 61 undef = (.bool true) := fdn (hF 22 (by decide) (hr 22 (by kernel_rfl)))
              subst hJ
              exact .inl ⟨(fun k b h => by cases h; exact ⟨22, by decide, rfl, d22⟩), .inl ⟨25, by decide, rfl, (.int .i64 (kp : Int)), W1.drew, (by simp [go_sem, Act.eval, d24, d22, hj]), rfl, rfl⟩⟩
             ·have d23 : a.tmps.getD 62 undef = (.slice (some ⟨bl, ol, none⟩) m ac) := fdn (hF 23 (by decide) (hr 23 (by kernel_rfl)))
              have d25 : a.tmps.getD 64 undef = (.int .i64 (kp : Int)) := fdn (hF 25 (by decide) (hr 25 (by kernel_rfl)))
              have d22 : a.tmps.getD 61 undef = (.bool true) := fdn (hF 22 (by decide) (hr 22 (by kernel_rfl)))
              subst hJ
              exact .inl ⟨(fun k b h => by cases h; exact ⟨22, by decide, rfl, d22⟩), .inl ⟨26, by decide, rfl, (.pointer (some ⟨bl, ol + kp * 2, none⟩)), W1.drew, (by simp [go_sem, Act.eval, d23, d25, d22, hjm]), rfl, rfl⟩⟩
             ·have d26 : a.tmps.getD 65 undef = (.pointer (some ⟨bl, ol + kp * 2, none⟩)) := fdn (hF 26 (by decide) (hr 26 (by kernel_rfl)))
              have d22 : a.tmps.getD 61 undef = (.bool true) := fdn (hF 22 (by decide) (hr 22 (by kernel_rfl)))
              subst hJ
              exact .inl ⟨(fun k b h => by cases h; exact ⟨22, by decide, rfl, d22⟩), .inl ⟨27, by decide, rfl, (.pointer (some ⟨bl, ol + kp * 2 + 1, none⟩)), W1.drew, (by simp [go_sem, Act.eval, d26, d22]), rfl, rfl⟩⟩
             ·have d27 : a.tmps.getD 66 undef = (.pointer (some ⟨bl, ol + kp * 2 + 1, none⟩)) := fdn (hF 27 (by decide) (hr 27 (by kernel_rfl)))
              have d22 : a.tmps.getD 61 undef = (.bool true) := fdn (hF 22 (by decide) (hr 22 (by kernel_rfl)))
              subst hJ
              exact .inl ⟨(fun k b h => by cases h; exact ⟨22, by decide, rfl, d22⟩), .inl ⟨28, by decide, rfl, (.int .i64 py), W1.drew, (by simp [go_sem, Act.eval, d27, d22, cpB]), rfl, rfl⟩⟩
             ·have d22 : a.tmps.getD 61 undef = (.bool true) := fdn (hF 22 (by decide) (hr 22 (by kernel_rfl)))
              have f6 : a.tmps.getD 6 undef = (.pointer (some ⟨q, 0, none⟩)) := hf 6 (by kernel_rfl)
              subst hJ
              exact .inl ⟨(fun k b h => by cases h; exact ⟨22, by decide, rfl, d22⟩), .inl ⟨29, by decide, rfl, (.pointer (some ⟨q, 1, none⟩)), W1.drew, (by simp [go_sem, Act.eval, d22, f6]), rfl, rfl⟩⟩
             ·have d29 : a.tmps.getD 68 undef = (.pointer (some ⟨q, 1, none⟩)) := fdn (hF 29 (by decide) (hr 29 (by kernel_rfl)))
              have d22 : a.tmps.getD 61 undef = (.bool true) := fdn (hF 22 (by decide) (hr 22 (by kernel_rfl)))
              subst hJ
              exact .inl ⟨(fun k b h => by cases h; exact ⟨22, by decide, rfl, d22⟩), .inl ⟨30, by decide, rfl, (.int .i64 y), W1.drew, (by simp [go_sem, Act.eval, d29, d22, cq1]), rfl, rfl⟩⟩
             ·have d28 : a.tmps.getD 67 undef = (.int .i64 py) := fdn (hF 28 (by decide) (hr 28 (by kernel_rfl)))
              have d30 : a.tmps.getD 69 undef = (.int .i64 y) := fdn (hF 30 (by decide) (hr 30 (by kernel_rfl)))
              have d22 : a.tmps.getD 61 undef = (.bool true) := fdn (hF 22 (by decide) (hr 22 (by kernel_rfl)))
              subst hJ
              exact .inl ⟨(fun k b h => by cases h; exact ⟨22, by decide, rfl, d22⟩), .inl ⟨31, by decide, rfl, (.bool true), W1.drew, (by simp [go_sem, Act.eval, d28, d30, d22, c7]), rfl, rfl⟩⟩
             ·have d22 : a.tmps.getD 61 undef = (.bool true) := fdn (hF 22 (by decide) (hr 22 (by kernel_rfl)))
              have d31 : a.tmps.getD 70 undef = (.bool true) := fdn (hF 31 (by decide) (hr 31 (by kernel_rfl)))
              have d12 : a.tmps.getD 51 undef = (.bool false) := fdn (hF 12 (by decide) (hr 12 (by kernel_rfl)))
              subst hJ
              exact .inl ⟨(fun k b h => by cases h; exact ⟨12, by decide, rfl, d12⟩), .inl ⟨32, by decide, rfl, (.bool true), W1.drew, (by simp [go_sem, Act.eval, d22, d31, d12]), rfl, rfl⟩⟩
             ·have d12 : a.tmps.getD 51 undef = (.bool false) := fdn (hF 12 (by decide) (hr 12 (by kernel_rfl)))
              have d32 : a.tmps.getD 71 undef = (.bool true) := fdn (hF 32 (by decide) (hr 32 (by kernel_rfl)))
              have d2 : a.tmps.getD 41 undef = (.bool true) := fdn (hF 2 (by decide) (hr 2 (by kernel_rfl)))
              subst hJ
              exact .inl ⟨(fun k b h => by cases h; exact ⟨2, by decide, rfl, d2⟩), .inl ⟨33, by decide, rfl, (.bool true), W1.drew, (by simp [go_sem, Act.eval, d12, d32, d2]), rfl, rfl⟩⟩
             ·have d2 : a.tmps.getD 41 undef = (.bool true) := fdn (hF 2 (by decide) (hr 2 (by kernel_rfl)))
              have d33 : a.tmps.getD 72 undef = (.bool true) := fdn (hF 33 (by decide) (hr 33 (by kernel_rfl)))
              subst hJ
              exact .inl ⟨(fun k b h => by cases h), .inl ⟨34, by decide, rfl, (.bool true), W1.drew, (by simp [go_sem, Act.eval, d2, d33]), rfl, rfl⟩⟩
            case finut =>
             intro d vs Wut hall hJ hF
             have h0 : vs 0 = (.int .i64 (k : Int)) := hF 0 (by decide)
             have h1 : vs 1 = (.bool true) := hF 1 (by decide)
             have h2 : vs 2 = (.bool true) := hF 2 (by decide)
             have h3 : vs 3 = (.slice (some ⟨bl, ol, none⟩) m ac) := hF 3 (by decide)
             have h4 : vs 4 = (.int .i64 (k : Int)) := hF 4 (by decide)
             have h5 : vs 5 = (.int .i64 (kp : Int)) := hF 5 (by decide)
             have h6 : vs 6 = (.pointer (some ⟨bl, ol + kp * 2, none⟩)) := hF 6 (by decide)
             have h7 : vs 7 = (.pointer (some ⟨bl, ol + kp * 2, none⟩)) := hF 7 (by decide)
             have h8 : vs 8 = (.int .i64 px) := hF 8 (by decide)
             have h9 : vs 9 = (.pointer (some ⟨q, 0, none⟩)) := hF 9 (by decide)
             have h10 : vs 10 = (.int .i64 x) := hF 10 (by decide)
             have h11 : vs 11 = (.bool false) := hF 11 (by decide)
             have h12 : vs 12 = (.bool false) := hF 12 (by decide)
             have h13 : vs 13 = (.slice (some ⟨bl, ol, none⟩) m ac) := hF 13 (by decide)
             have h14 : vs 14 = (.int .i64 (k : Int)) := hF 14 (by decide)
             have h15 : vs 15 = (.int .i64 (kp : Int)) := hF 15 (by decide)
             have h16 : vs 16 = (.pointer (some ⟨bl, ol + kp * 2, none⟩)) := hF 16 (by decide)
             have h17 : vs 17 = (.pointer (some ⟨bl, ol + kp * 2, none⟩)) := hF 17 (by decide)
             have h18 : vs 18 = (.int .i64 px) := hF 18 (by decide)
             have h19 : vs 19 = (.pointer (some ⟨q, 0, none⟩)) := hF 19 (by decide)
             have h20 : vs 20 = (.int .i64 x) := hF 20 (by decide)
             have h21 : vs 21 = (.bool true) := hF 21 (by decide)
             have h22 : vs 22 = (.bool true) := hF 22 (by decide)
             have h23 : vs 23 = (.slice (some ⟨bl, ol, none⟩) m ac) := hF 23 (by decide)
             have h24 : vs 24 = (.int .i64 (k : Int)) := hF 24 (by decide)
             have h25 : vs 25 = (.int .i64 (kp : Int)) := hF 25 (by decide)
             have h26 : vs 26 = (.pointer (some ⟨bl, ol + kp * 2, none⟩)) := hF 26 (by decide)
             have h27 : vs 27 = (.pointer (some ⟨bl, ol + kp * 2 + 1, none⟩)) := hF 27 (by decide)
             have h28 : vs 28 = (.int .i64 py) := hF 28 (by decide)
             have h29 : vs 29 = (.pointer (some ⟨q, 1, none⟩)) := hF 29 (by decide)
             have h30 : vs 30 = (.int .i64 y) := hF 30 (by decide)
             have h31 : vs 31 = (.bool true) := hF 31 (by decide)
             have h32 : vs 32 = (.bool true) := hF 32 (by decide)
             have h33 : vs 33 = (.bool true) := hF 33 (by decide)
             have h34 : vs 34 = (.bool true) := hF 34 (by decide)
             clear hF
             show (_ : Exit → Act → World → Prop) Exit.normal (puts _ vs 35 _) Wut
             simp only [puts, h0, h1, h2, h3, h4, h5, h6, h7, h8, h9, h10, h11, h12, h13, h14, h15, h16, h17, h18, h19, h20, h21, h22, h23, h24, h25, h26, h27, h28, h29, h30, h31, h32, h33, h34, List.getD_cons_zero, List.getD_cons_succ]
             clear h0 h1 h2 h3 h4 h5 h6 h7 h8 h9 h10 h11 h12 h13 h14 h15 h16 h17 h18 h19 h20 h21 h22 h23 h24 h25 h26 h27 h28 h29 h30 h31 h32 h33 h34
             subst hJ
             simp only [Act.put, List.setIfInBounds_toArray, List.set_cons_succ, List.set_cons_zero]
             clear hall
             go_wp2_with (fail)
             go_ret
             rw [HE.out]
             exact ⟨rfl, HB2.out⟩
           ·
            have HE := Lib.hid (HOK.out (by unfold fitAt; rw [← HXY.out.1, ← HXY.out.2, ← HPP.out.1, ← HPP.out.2]; omega))
            go_wp2_with (fail)
            rw [← HQ.out, ← HW1.out]
            refine wpIn_wide (n := 5).1 (wpIn_flowM (F0 := Fence.wide) (n0 := 5) (fun _ => trivial) (fun h => by cases h) (by kernel_rfl) (by kernel_rfl) 35 35 (by kernel_rfl) (fun j => ([0, 1, 2, 3, 4, 5, 6, 7, 8, 9, 10, 11, 12, 13, 14, 15, 16, 17, 18, 19, 20, 21, 22, 23, 24, 25, 26, 27, 28, 29, 30, 31, 32, 33, 34] : List Nat).getD j 0) (fun j => ([39, 40, 41, 42, 43, 44, 45, 46, 47, 48, 49, 50, 51, 52, 53, 54, 55, 56, 57, 58, 59, 60, 61, 62, 63, 64, 65, 66, 67, 68, 69, 70, 71, 72, 73] : List Nat).getD j 0) (by kernel_rfl) (by kernel_rfl) (by kernel_rfl) (by kernel_rfl) (by kernel_rfl) (by kernel_rfl) (by kernel_rfl) (fun j zv => ([(fun zv => zv = (.int .i64 (k : Int))), (fun zv => zv = (.bool true)), (fun zv => zv = (.bool true)), (fun zv => zv = (.slice (some ⟨bl, ol, none⟩) m ac)), (fun zv => zv = (.int .i64 (k : Int))), (fun zv => zv = (.int .i64 (kp : Int))), (fun zv => zv = (.pointer (some ⟨bl, ol + kp * 2, none⟩))), (fun zv => zv = (.pointer (some ⟨bl, ol + kp * 2, none⟩))), (fun zv => zv = (.int .i64 px)), (fun zv => zv = (.pointer (some ⟨q, 0, none⟩))), (fun zv => zv = (.int .i64 x)), (fun zv => zv = (.bool false)), (fun zv => zv = (.bool false)), (fun zv => zv = (.slice (some ⟨bl, ol, none⟩) m ac)), (fun zv => zv = (.int .i64 (k : Int))), (fun zv => zv = (.int .i64 (kp : Int))), (fun zv => zv = (.pointer (some ⟨bl, ol + kp * 2, none⟩))), (fun zv => zv = (.pointer (some ⟨bl, ol + kp * 2, none⟩))), (fun zv => zv = (.int .i64 px)), (fun zv => zv = (.pointer (some ⟨q, 0, none⟩))), (fun zv => zv = (.int .i64 x)), (fun zv => zv = (.bool true)), (fun zv => zv = (.bool true)), (fun zv => zv = (.slice (some ⟨bl, ol, none⟩) m ac)), (fun zv => zv = (.int .i64 (k : Int))), (fun zv => zv = (.int .i64 (kp : Int))), (fun zv => zv = (.pointer (some ⟨bl, ol + kp * 2, none⟩))), (fun zv => zv = (.pointer (some ⟨bl, ol + kp * 2 + 1, none⟩))), (fun zv => zv = (.int .i64 py)), (fun zv => zv = (.pointer (some ⟨q, 1, none⟩))), (fun zv => zv = (.int .i64 y)), (fun zv => zv = (.bool false)), (fun zv => zv = (.bool false)), (fun zv => zv = (.bool false)), (fun zv => zv = (.bool false))] : List (Value → Prop)).getD j (fun _ => True) zv) (fun _ _ W => W = W1.drew) ?h0tt ?steptt ?fintt)
            case h0tt => exact fun _ => rfl
            case steptt =>
             intro i o a W d vs hi ho hdi hJ hf hr hF
             replace hi : i < 35 := hi
             rcases (show i = 0 ∨ i = 1 ∨ i = 2 ∨ i = 3 ∨ i = 4 ∨ i = 5 ∨ i = 6 ∨ i = 7 ∨ i = 8 ∨ i = 9 ∨ i = 10 ∨ i = 11 ∨ i = 12 ∨ i = 13 ∨ i = 14 ∨ i = 15 ∨ i = 16 ∨ i = 17 ∨ i = 18 ∨ i = 19 ∨ i = 20 ∨ i = 21 ∨ i = 22 ∨ i = 23 ∨ i = 24 ∨ i = 25 ∨ i = 26 ∨ i = 27 ∨ i = 28 ∨ i = 29 ∨ i = 30 ∨ i = 31 ∨ i = 32 ∨ i = 33 ∨ i = 34 by omega) with rfl | rfl | rfl | rfl | rfl | rfl | rfl | rfl | rfl | rfl | rfl | rfl | rfl | rfl | rfl | rfl | rfl | rfl | rfl | rfl | rfl | rfl | rfl | rfl | rfl | rfl | rfl | rfl | rfl | rfl | rfl | rfl | rfl | rfl | rfl
             all_goals
              replace ho := op_at ho (by rfl)
              subst ho
             ·have f5 : a.tmps.getD 5 undef = (.int .i64 (k : Int)) := hf 5 (by kernel_rfl)
              subst hJ
              exact .inl ⟨(fun k b h => by cases h), .inl ⟨0, by decide, rfl, (.int .i64 (k : Int)), W1.drew, (by simp [go_sem, Act.eval, f5]), rfl, rfl⟩⟩
             ·have d0 : a.tmps.getD 39 undef = (.int .i64 (k : Int)) := fdn (hF 0 (by decide) (hr 0 (by kernel_rfl)))
              subst hJ
              exact .inl ⟨(fun k b h => by cases h), .inl ⟨1, by decide, rfl, (.bool true), W1.drew, (by simp [go_sem, Act.eval, d0, c4]), rfl, rfl⟩⟩
             ·have d1 : a.tmps.getD 40 undef = (.bool true) := fdn (hF 1 (by decide) (hr 1 (by kernel_rfl)))
              subst hJ
              exact .inl ⟨(fun k b h => by cases h), .inl ⟨2, by decide, rfl, (.bool true), W1.drew, (by simp [go_sem, Act.eval, d1]), rfl, rfl⟩⟩
             ·have d2 : a.tmps.getD 41 undef = (.bool true) := fdn (hF 2 (by decide) (hr 2 (by kernel_rfl)))
              have f1 : a.tmps.getD 1 undef = (.slice (some ⟨bl, ol, none⟩) m ac) := hf 1 (by kernel_rfl)
              subst hJ
              exact .inl ⟨(fun k b h => by cases h; exact ⟨2, by decide, rfl, d2⟩), .inl ⟨3, by decide, rfl, (.slice (some ⟨bl, ol, none⟩) m ac), W1.drew, (by simp [go_sem, Act.eval, d2, f1]), rfl, rfl⟩⟩
             ·have d2 : a.tmps.getD 41 undef = (.bool true) := fdn (hF 2 (by decide) (hr 2 (by kernel_rfl)))
              have f5 : a.tmps.getD 5 undef = (.int .i64 (k : Int)) := hf 5 (by kernel_rfl)
              subst hJ
              exact .inl ⟨(fun k b h => by cases h; exact ⟨2, by decide, rfl, d2⟩), .inl ⟨4, by decide, rfl, (.int .i64 (k : Int)), W1.drew, (by simp [go_sem, Act.eval, d2, f5]), rfl, rfl⟩⟩
             ·have d4 : a.tmps.getD 43 undef = (.int .i64 (k : Int)) := fdn (hF 4 (by decide) (hr 4 (by kernel_rfl)))
              have d2 : a.tmps.getD 41 undef = (.bool true) := fdn (hF 2 (by decide) (hr 2 (by kernel_rfl)))
              subst hJ
              exact .inl ⟨(fun k b h => by cases h; exact ⟨2, by decide, rfl, d2⟩), .inl ⟨5, by decide, rfl, (.int .i64 (kp : Int)), W1.drew, (by simp [go_sem, Act.eval, d4, d2, hj]), rfl, rfl⟩⟩
             ·have d3 : a.tmps.getD 42 undef = (.slice (some ⟨bl, ol, none⟩) m ac) := fdn (hF 3 (by decide) (hr 3 (by kernel_rfl)))
              have d5 : a.tmps.getD 44 undef = (.int .i64 (kp : Int)) := fdn (hF 5 (by decide) (hr 5 (by kernel_rfl)))
              have d2 : a.tmps.getD 41 undef = (.bool true) := fdn (hF 2 (by decide) (hr 2 (by kernel_rfl)))
              subst hJ
              exact .inl ⟨(fun k b h => by cases h; exact ⟨2, by decide, rfl, d2⟩), .inl ⟨6, by decide, rfl, (.pointer (some ⟨bl, ol + kp * 2, none⟩)), W1.drew, (by simp [go_sem, Act.eval, d3, d5, d2, hjm]), rfl, rfl⟩⟩
             ·have d6 : a.tmps.getD 45 undef = (.pointer (some ⟨bl, ol + kp * 2, none⟩)) := fdn (hF 6 (by decide) (hr 6 (by kernel_rfl)))
              have d2 : a.tmps.getD 41 undef = (.bool true) := fdn (hF 2 (by decide) (hr 2 (by kernel_rfl)))
              subst hJ
              exact .inl ⟨(fun k b h => by cases h; exact ⟨2, by decide, rfl, d2⟩), .inl ⟨7, by decide, rfl, (.pointer (some ⟨bl, ol + kp * 2, none⟩)), W1.drew, (by simp [go_sem, Act.eval, d6, d2]), rfl, rfl⟩⟩
             ·have d7 : a.tmps.getD 46 undef = (.pointer (some ⟨bl, ol + kp * 2, none⟩)) := fdn (hF 7 (by decide) (hr 7 (by kernel_rfl)))
              have d2 : a.tmps.getD 41 undef = (.bool true) := fdn (hF 2 (by decide) (hr 2 (by kernel_rfl)))
              subst hJ
              exact .inl ⟨(fun k b h => by cases h; exact ⟨2, by decide, rfl, d2⟩), .inl ⟨8, by decide, rfl, (.int .i64 px), W1.drew, (by simp [go_sem, Act.eval, d7, d2, cpA]), rfl, rfl⟩⟩
             ·have d2 : a.tmps.getD 41 undef = (.bool true) := fdn (hF 2 (by decide) (hr 2 (by kernel_rfl)))
              have f6 : a.tmps.getD 6 undef = (.pointer (some ⟨q, 0, none⟩)) := hf 6 (by kernel_rfl)
              subst hJ
              exact .inl ⟨(fun k b h => by cases h; exact ⟨2, by decide, rfl, d2⟩), .inl ⟨9, by decide, rfl, (.pointer (some ⟨q, 0, none⟩)), W1.drew, (by simp [go_sem, Act.eval, d2, f6]), rfl, rfl⟩⟩
             ·have d9 : a.tmps.getD 48 undef = (.pointer (some ⟨q, 0, none⟩)) := fdn (hF 9 (by decide) (hr 9 (by kernel_rfl)))
              have d2 : a.tmps.getD 41 undef = (.bool true) := fdn (hF 2 (by decide) (hr 2 (by kernel_rfl)))
              subst hJ
              exact .inl ⟨(fun k b h => by cases h; exact ⟨2, by decide, rfl, d2⟩), .inl ⟨10, by decide, rfl, (.int .i64 x), W1.drew, (by simp [go_sem, Act.eval, d9, d2, cq0]), rfl, rfl⟩⟩
             ·have d8 : a.tmps.getD 47 undef = (.int .i64 px) := fdn (hF 8 (by decide) (hr 8 (by kernel_rfl)))
              have d10 : a.tmps.getD 49 undef = (.int .i64 x) := fdn (hF 10 (by decide) (hr 10 (by kernel_rfl)))
              have d2 : a.tmps.getD 41 undef = (.bool true) := fdn (hF 2 (by decide) (hr 2 (by kernel_rfl)))
              subst hJ
              exact .inl ⟨(fun k b h => by cases h; exact ⟨2, by decide, rfl, d2⟩), .inl ⟨11, by decide, rfl, (.bool false), W1.drew, (by simp [go_sem, Act.eval, d8, d10, d2, c5]), rfl, rfl⟩⟩
             ·have d11 : a.tmps.getD 50 undef = (.bool false) := fdn (hF 11 (by decide) (hr 11 (by kernel_rfl)))
              have d2 : a.tmps.getD 41 undef = (.bool true) := fdn (hF 2 (by decide) (hr 2 (by kernel_rfl)))
              subst hJ
              exact .inl ⟨(fun k b h => by cases h; exact ⟨2, by decide, rfl, d2⟩), .inl ⟨12, by decide, rfl, (.bool false), W1.drew, (by simp [go_sem, Act.eval, d11, d2]), rfl, rfl⟩⟩
             ·have d12 : a.tmps.getD 51 undef = (.bool false) := fdn (hF 12 (by decide) (hr 12 (by kernel_rfl)))
              have f1 : a.tmps.getD 1 undef = (.slice (some ⟨bl, ol, none⟩) m ac) := hf 1 (by kernel_rfl)
              subst hJ
              exact .inl ⟨(fun k b h => by cases h; exact ⟨12, by decide, rfl, d12⟩), .inl ⟨13, by decide, rfl, (.slice (some ⟨bl, ol, none⟩) m ac), W1.drew, (by simp [go_sem, Act.eval, d12, f1]), rfl, rfl⟩⟩
             ·have d12 : a.tmps.getD 51 undef = (.bool false) := fdn (hF 12 (by decide) (hr 12 (by kernel_rfl)))
              have f5 : a.tmps.getD 5 undef = (.int .i64 (k : Int)) := hf 5 (by kernel_rfl)
              subst hJ
              exact .inl ⟨(fun k b h => by cases h; exact ⟨12, by decide, rfl, d12⟩), .inl ⟨14, by decide, rfl, (.int .i64 (k : Int)), W1.drew, (by simp [go_sem, Act.eval, d12, f5]), rfl, rfl⟩⟩
             ·have d14 : a.tmps.getD 53 undef = (.int .i64 (k : Int)) := fdn (hF 14 (by decide) (hr 14 (by kernel_rfl)))
              have d12 : a.tmps.getD 51 undef = (.bool false) := fdn (hF 12 (by decide) (hr 12 (by kernel_rfl)))
              subst hJ
              exact .inl ⟨(fun k b h => by cases h; exact ⟨12, by decide, rfl, d12⟩), .inl ⟨15, by decide, rfl, (.int .i64 (kp : Int)), W1.drew, (by simp [go_sem, Act.eval, d14, d12, hj]), rfl, rfl⟩⟩
             ·have d13 : a.tmps.getD 52 undef = (.slice (some ⟨bl, ol, none⟩) m ac) := fdn (hF 13 (by decide) (hr 13 (by kernel_rfl)))
              have d15 : a.tmps.getD 54 undef = (.int .i64 (kp : Int)) := fdn (hF 15 (by decide) (hr 15 (by kernel_rfl)))
              have d12 : a.tmps.getD 51 undef = (.bool false) := fdn (hF 12 (by decide) (hr 12 (by kernel_rfl)))
              subst hJ
              exact .inl ⟨(fun k b h => by cases h; exact ⟨12, by decide, rfl, d12⟩), .inl ⟨16, by decide, rfl, (.pointer (some ⟨bl, ol + kp * 2, none⟩)), W1.drew, (by simp [go_sem, Act.eval, d13, d15, d12, hjm]), rfl, rfl⟩⟩
             ·have d16 : a.tmps.getD 55 undef = (.pointer (some ⟨bl, ol + kp * 2, none⟩)) := fdn (hF 16 (by decide) (hr 16 (by kernel_rfl)))
              have d12 : a.tmps.getD 51 undef = (.bool false) := fdn (hF 12 (by decide) (hr 12 (by kernel_rfl)))
              subst hJ
              exact .inl ⟨(fun k b h => by cases h; exact ⟨12, by decide, rfl, d12⟩), .inl ⟨17, by decide, rfl, (.pointer (some ⟨bl, ol + kp * 2, none⟩)), W1.drew, (by simp [go_sem, Act.eval, d16, d12]), rfl, rfl⟩⟩
             ·have d17 : a.tmps.getD 56 undef = (.pointer (some ⟨bl, ol + kp * 2, none⟩)) := fdn (hF 17 (by decide) (hr 17 (by kernel_rfl)))
              have d12 : a.tmps.getD 51 undef = (.bool false) := fdn (hF 12 (by decide) (hr 12 (by kernel_rfl)))
              subst hJ
              exact .inl ⟨(fun k b h => by cases h; exact ⟨12, by decide, rfl, d12⟩), .inl ⟨18, by decide, rfl, (.int .i64 px), W1.drew, (by simp [go_sem, Act.eval, d17, d12, cpA]), rfl, rfl⟩⟩
             ·have d12 : a.tmps.getD 51 undef = (.bool false) := fdn (hF 12 (by decide) (hr 12 (by kernel_rfl)))
              have f6 : a.tmps.getD 6 undef = (.pointer (some ⟨q, 0, none⟩)) := hf 6 (by kernel_rfl)
              subst hJ
              exact .inl ⟨(fun k b h => by cases h; exact ⟨12, by decide, rfl, d12⟩), .inl ⟨19, by decide, rfl, (.pointer (some ⟨q, 0, none⟩)), W1.drew, (by simp [go_sem, Act.eval, d12, f6]), rfl, rfl⟩⟩
             ·have d19 : a.tmps.getD 58 undef = (.pointer (some ⟨q, 0, none⟩)) := fdn (hF 19 (by decide) (hr 19 (by kernel_rfl)))
              have d12 : a.tmps.getD 51 undef = (.bool false) := fdn (hF 12 (by decide) (hr 12 (by kernel_rfl)))
              subst hJ
              exact .inl ⟨(fun k b h => by cases h; exact ⟨12, by decide, rfl, d12⟩), .inl ⟨20, by decide, rfl, (.int .i64 x), W1.drew, (by simp [go_sem, Act.eval, d19, d12, cq0]), rfl, rfl⟩⟩
             ·have d18 : a.tmps.getD 57 undef = (.int .i64 px) := fdn (hF 18 (by decide) (hr 18 (by kernel_rfl)))
              have d20 : a.tmps.getD 59 undef = (.int .i64 x) := fdn (hF 20 (by decide) (hr 20 (by kernel_rfl)))
              have d12 : a.tmps.getD 51 undef = (.bool false) := fdn (hF 12 (by decide) (hr 12 (by kernel_rfl)))
              subst hJ
              exact .inl ⟨(fun k b h => by cases h; exact ⟨12, by decide, rfl, d12⟩), .inl ⟨21, by decide, rfl, (.bool true), W1.drew, (by simp [go_sem, Act.eval, d18, d20, d12, hpb]), rfl, rfl⟩⟩
             ·have d21 : a.tmps.getD 60 undef = (.bool true) := fdn (hF 21 (by decide) (hr 21 (by kernel_rfl)))
              have d12 : a.tmps.getD 51 undef = (.bool false) := fdn (hF 12 (by decide) (hr 12 (by kernel_rfl)))
              subst hJ
              exact .inl ⟨(fun k b h => by cases h; exact ⟨12, by decide, rfl, d12⟩), .inl ⟨22, by decide, rfl, (.bool true), W1.drew, (by simp [go_sem, Act.eval, d21, d12]), rfl, rfl⟩⟩
             ·have d22 : a.tmps.getD 61 undef = (.bool true) := fdn (hF 22 (by decide) (hr 22 (by kernel_rfl)))
              have f1 : a.tmps.getD 1 undef = (.slice (some ⟨bl, ol, none⟩) m ac) := hf 1 (by kernel_rfl)
              subst hJ
              exact .inl ⟨(fun k b h => by cases h; exact ⟨22, by decide, rfl, d22⟩), .inl ⟨23, by decide, rfl, (.slice (some ⟨bl, ol, none⟩) m ac), W1.drew, (by simp [go_sem, Act.eval, d22, f1]), rfl, rfl⟩⟩
             ·have d22 : a.tmps.getD 61 undef = (.bool true) := fdn (hF 22 (by decide) (hr 22 (by kernel_rfl)))
              have f5 : a.tmps.getD 5 undef = (.int .i64 (k : Int)) := hf 5 (by kernel_rfl)
              subst hJ
              exact .inl ⟨(fun k b h => by cases h; exact ⟨22, by decide, rfl, d22⟩), .inl ⟨24, by decide, rfl, (.int .i64 (k : Int)), W1.drew, (by simp [go_sem, Act.eval, d22, f5]), rfl, rfl⟩⟩
             ·have d24 : a.tmps.getD 63 undef = (.int .i64 (k : Int)) := fdn (hF 24 (by decide) (hr 24 (by kernel_rfl)))
              have d22 : a.tmps.getD 61 undef = (.bool true) := fdn (hF 22 (by decide) (hr 22 (by kernel_rfl)))
              subst hJ
              exact .inl ⟨(fun k b h => by cases h; exact ⟨22, by decide, rfl, d22⟩), .inl ⟨25, by decide, rfl, (.int .i64 (kp : Int)), W1.drew, (by simp [go_sem, Act.eval, d24, d22, hj]), rfl, rfl⟩⟩
             ·have d23 : a.tmps.getD 62 undef = (.slice (some ⟨bl, ol, none⟩) m ac) := fdn (hF 23 (by decide) (hr 23 (by kernel_rfl)))
              have d25 : a.tmps.getD 64 undef = (.int .i64 (kp : Int)) := fdn (hF 25 (by decide) (hr 25 (by kernel_rfl)))
              have d22 : a.tmps.getD 61 undef = (.bool true) := fdn (hF 22 (by decide) (hr 22 (by kernel_rfl)))
              subst hJ
              exact .inl ⟨(fun k b h => by cases h; exact ⟨22, by decide, rfl, d22⟩), .inl ⟨26, by decide, rfl, (.pointer (some ⟨bl, ol + kp * 2, none⟩)), W1.drew, (by simp [go_sem, Act.eval, d23, d25, d22, hjm]), rfl, rfl⟩⟩
             ·have d26 : a.tmps.getD 65 undef = (.pointer (some ⟨bl, ol + kp * 2, none⟩)) := fdn (hF 26 (by decide) (hr 26 (by kernel_rfl)))
              have d22 : a.tmps.getD 61 undef = (.bool true) := fdn (hF 22 (by decide) (hr 22 (by kernel_rfl)))
              subst hJ
              exact .inl ⟨(fun k b h => by cases h; exact ⟨22, by decide, rfl, d22⟩), .inl ⟨27, by decide, rfl, (.pointer (some ⟨bl, ol + kp * 2 + 1, none⟩)), W1.drew, (by simp [go_sem, Act.eval, d26, d22]), rfl, rfl⟩⟩
             ·have d27 : a.tmps.getD 66 undef = (.pointer (some ⟨bl, ol + kp * 2 + 1, none⟩)) := fdn (hF 27 (by decide) (hr 27 (by kernel_rfl)))
              have d22 : a.tmps.getD 61 undef = (.bool true) := fdn (hF 22 (by decide) (hr 22 (by kernel_rfl)))
              subst hJ
              exact .inl ⟨(fun k b h => by cases h; exact ⟨22, by decide, rfl, d22⟩), .inl ⟨28, by decide, rfl, (.int .i64 py), W1.drew, (by simp [go_sem, Act.eval, d27, d22, cpB]), rfl, rfl⟩⟩
             ·have d22 : a.tmps.getD 61 undef = (.bool true) := fdn (hF 22 (by decide) (hr 22 (by kernel_rfl)))
              have f6 : a.tmps.getD 6 undef = (.pointer (some ⟨q, 0, none⟩)) := hf 6 (by kernel_rfl)
              subst hJ
              exact .inl ⟨(fun k b h => by cases h; exact ⟨22, by decide, rfl, d22⟩), .inl ⟨29, by decide, rfl, (.pointer (some ⟨q, 1, none⟩)), W1.drew, (by simp [go_sem, Act.eval, d22, f6]), rfl, rfl⟩⟩
             ·have d29 : a.tmps.getD 68 undef = (.pointer (some ⟨q, 1, none⟩)) := fdn (hF 29 (by decide) (hr 29 (by kernel_rfl)))
              have d22 : a.tmps.getD 61 undef = (.bool true) := fdn (hF 22 (by decide) (hr 22 (by kernel_rfl)))
              subst hJ
              exact .inl ⟨(fun k b h => by cases h; exact ⟨22, by decide, rfl, d22⟩), .inl ⟨30, by decide, rfl, (.int .i64 y), W1.drew, (by simp [go_sem, Act.eval, d29, d22, cq1]), rfl, rfl⟩⟩
             ·have d28 : a.tmps.getD 67 undef = (.int .i64 py) := fdn (hF 28 (by decide) (hr 28 (by kernel_rfl)))
              have d30 : a.tmps.getD 69 undef = (.int .i64 y) := fdn (hF 30 (by decide) (hr 30 (by kernel_rfl)))
              have d22 : a.tmps.getD 61 undef = (.bool true) := fdn (hF 22 (by decide) (hr 22 (by kernel_rfl)))
              subst hJ
              exact .inl ⟨(fun k b h => by cases h; exact ⟨22, by decide, rfl, d22⟩), .inl ⟨31, by decide, rfl, (.bool false), W1.drew, (by simp [go_sem, Act.eval, d28, d30, d22, c7]), rfl, rfl⟩⟩
             ·have d22 : a.tmps.getD 61 undef = (.bool true) := fdn (hF 22 (by decide) (hr 22 (by kernel_rfl)))
              have d31 : a.tmps.getD 70 undef = (.bool false) := fdn (hF 31 (by decide) (hr 31 (by kernel_rfl)))
              have d12 : a.tmps.getD 51 undef = (.bool false) := fdn (hF 12 (by decide) (hr 12 (by kernel_rfl)))
              subst hJ
              exact .inl ⟨(fun k b h => by cases h; exact ⟨12, by decide, rfl, d12⟩), .inl ⟨32, by decide, rfl, (.bool false), W1.drew, (by simp [go_sem, Act.eval, d22, d31, d12]), rfl, rfl⟩⟩
             ·have d12 : a.tmps.getD 51 undef = (.bool false) := fdn (hF 12 (by decide) (hr 12 (by kernel_rfl)))
              have d32 : a.tmps.getD 71 undef = (.bool false) := fdn (hF 32 (by decide) (hr 32 (by kernel_rfl)))
              have d2 : a.tmps.getD 41 undef = (.bool true) := fdn (hF 2 (by decide) (hr 2 (by kernel_rfl)))
              subst hJ
              exact .inl ⟨(fun k b h => by cases h; exact ⟨2, by decide, rfl, d2⟩), .inl ⟨33, by decide, rfl, (.bool false), W1.drew, (by simp [go_sem, Act.eval, d12, d32, d2]), rfl, rfl⟩⟩
             ·have d2 : a.tmps.getD 41 undef = (.bool true) := fdn (hF 2 (by decide) (hr 2 (by kernel_rfl)))
              have d33 : a.tmps.getD 72 undef = (.bool false) := fdn (hF 33 (by decide) (hr 33 (by kernel_rfl)))
              subst hJ
              exact .inl ⟨(fun k b h => by cases h), .inl ⟨34, by decide, rfl, (.bool false), W1.drew, (by simp [go_sem, Act.eval, d2, d33]), rfl, rfl⟩⟩
            case fintt =>
             intro d vs Wtt hall hJ hF
             have h0 : vs 0 = (.int .i64 (k : Int)) := hF 0 (by decide)
             have h1 : vs 1 = (.bool true) := hF 1 (by decide)
             have h2 : vs 2 = (.bool true) := hF 2 (by decide)
             have h3 : vs 3 = (.slice (some ⟨bl, ol, none⟩) m ac) := hF 3 (by decide)
             have h4 : vs 4 = (.int .i64 (k : Int)) := hF 4 (by decide)
             have h5 : vs 5 = (.int .i64 (kp : Int)) := hF 5 (by decide)
             have h6 : vs 6 = (.pointer (some ⟨bl, ol + kp * 2, none⟩)) := hF 6 (by decide)
             have h7 : vs 7 = (.pointer (some ⟨bl, ol + kp * 2, none⟩)) := hF 7 (by decide)
             have h8 : vs 8 = (.int .i64 px) := hF 8 (by decide)
             have h9 : vs 9 = (.pointer (some ⟨q, 0, none⟩)) := hF 9 (by decide)
             have h10 : vs 10 = (.int .i64 x) := hF 10 (by decide)
             have h11 : vs 11 = (.bool false) := hF 11 (by decide)
             have h12 : vs 12 = (.bool false) := hF 12 (by decide)
             have h13 : vs 13 = (.slice (some ⟨bl, ol, none⟩) m ac) := hF 13 (by decide)
             have h14 : vs 14 = (.int .i64 (k : Int)) := hF 14 (by decide)
             have h15 : vs 15 = (.int .i64 (kp : Int)) := hF 15 (by decide)
             have h16 : vs 16 = (.pointer (some ⟨bl, ol + kp * 2, none⟩)) := hF 16 (by decide)
             have h17 : vs 17 = (.pointer (some ⟨bl, ol + kp * 2, none⟩)) := hF 17 (by decide)
             have h18 : vs 18 = (.int .i64 px) := hF 18 (by decide)
             have h19 : vs 19 = (.pointer (some ⟨q, 0, none⟩)) := hF 19 (by decide)
             have h20 : vs 20 = (.int .i64 x) := hF 20 (by decide)
             have h21 : vs 21 = (.bool true) := hF 21 (by decide)
             have h22 : vs 22 = (.bool true) := hF 22 (by decide)
             have h23 : vs 23 = (.slice (some ⟨bl, ol, none⟩) m ac) := hF 23 (by decide)
             have h24 : vs 24 = (.int .i64 (k : Int)) := hF 24 (by decide)
             have h25 : vs 25 = (.int .i64 (kp : Int)) := hF 25 (by decide)
             have h26 : vs 26 = (.pointer (some ⟨bl, ol + kp * 2, none⟩)) := hF 26 (by decide)
             have h27 : vs 27 = (.pointer (some ⟨bl, ol + kp * 2 + 1, none⟩)) := hF 27 (by decide)
             have h28 : vs 28 = (.int .i64 py) := hF 28 (by decide)
             have h29 : vs 29 = (.pointer (some ⟨q, 1, none⟩)) := hF 29 (by decide)
             have h30 : vs 30 = (.int .i64 y) := hF 30 (by decide)
             have h31 : vs 31 = (.bool false) := hF 31 (by decide)
             have h32 : vs 32 = (.bool false) := hF 32 (by decide)
             have h33 : vs 33 = (.bool false) := hF 33 (by decide)
             have h34 : vs 34 = (.bool false) := hF 34 (by decide)
             clear hF
             show (_ : Exit → Act → World → Prop) Exit.normal (puts _ vs 35 _) Wtt
             simp only [puts, h0, h1, h2, h3, h4, h5, h6, h7, h8, h9, h10, h11, h12, h13, h14, h15, h16, h17, h18, h19, h20, h21, h22, h23, h24, h25, h26, h27, h28, h29, h30, h31, h32, h33, h34, List.getD_cons_zero, List.getD_cons_succ]
             clear h0 h1 h2 h3 h4 h5 h6 h7 h8 h9 h10 h11 h12 h13 h14 h15 h16 h17 h18 h19 h20 h21 h22 h23 h24 h25 h26 h27 h28 h29 h30 h31 h32 h33 h34
             subst hJ
             simp only [Act.put, List.setIfInBounds_toArray, List.set_cons_succ, List.set_cons_zero]
             clear hall
             go_wp2_with (fail)
             go_roundw
             case rel => exact ⟨k + 1, by go_num, by omega, HE.out, HB2.out⟩
             case measure => simp [intOf] <;> omega
          ·have hpb : (px == x) = false := by simpa using c6
           have HE := Lib.hid (HOK.out (by unfold fitAt; rw [← HXY.out.1, ← HXY.out.2, ← HPP.out.1, ← HPP.out.2]; omega))
           go_wp2_with (fail)
           rw [← HQ.out, ← HW1.out]
           refine wpIn_wide (n := 5).1 (wpIn_flowM (F0 := Fence.wide) (n0 := 5) (fun _ => trivial) (fun h => by cases h) (by kernel_rfl) (by kernel_rfl) 35 35 (by kernel_rfl) (fun j => ([0, 1, 2, 3, 4, 5, 6, 7, 8, 9, 10, 11, 12, 13, 14, 15, 16, 17, 18, 19, 20, 21, 22, 23, 24, 25, 26, 27, 28, 29, 30, 31, 32, 33, 34] : List Nat).getD j 0) (fun j => ([39, 40, 41, 42, 43, 44, 45, 46, 47, 48, 49, 50, 51, 52, 53, 54, 55, 56, 57, 58, 59, 60, 61, 62, 63, 64, 65, 66, 67, 68, 69, 70, 71, 72, 73] : List Nat).getD j 0) (by kernel_rfl) (by kernel_rfl) (by kernel_rfl) (by kernel_rfl) (by kernel_rfl) (by kernel_rfl) (by kernel_rfl) (fun j zv => ([(fun zv => zv = (.int .i64 (k : Int))), (fun zv => zv = (.bool true)), (fun zv => zv = (.bool true)), (fun zv => zv = (.slice (some ⟨bl, ol, none⟩) m ac)), (fun zv => zv = (.int .i64 (k : Int))), (fun zv => zv = (.int .i64 (kp : Int))), (fun zv => zv = (.pointer (some ⟨bl, ol + kp * 2, none⟩))), (fun zv => zv = (.pointer (some ⟨bl, ol + kp * 2, none⟩))), (fun zv => zv = (.int .i64 px)), (fun zv => zv = (.pointer (some ⟨q, 0, none⟩))), (fun zv => zv = (.int .i64 x)), (fun zv => zv = (.bool false)), (fun zv => zv = (.bool false)), (fun zv => zv = (.slice (some ⟨bl, ol, none⟩) m ac)), (fun zv => zv = (.int .i64 (k : Int))), (fun zv => zv = (.int .i64 (kp : Int))), (fun zv => zv = (.pointer (some ⟨bl, ol + kp * 2, none⟩))), (fun zv => zv = (.pointer (some ⟨bl, ol + kp * 2, none⟩))), (fun zv => zv = (.int .i64 px)), (fun zv => zv = (.pointer (some ⟨q, 0, none⟩))), (fun zv => zv = (.int .i64 x)), (fun zv => zv = (.bool false)), (fun zv => zv = (.bool false)), (fun zv => zv = undef), (fun zv => zv = undef), (fun zv => zv = undef), (fun zv => zv = undef), (fun zv => zv = undef), (fun zv => zv = undef), (fun zv => zv = undef), (fun zv => zv = undef), (fun zv => zv = undef), (fun zv => zv = (.bool false)), (fun zv => zv = (.bool false)), (fun zv => zv = (.bool false))] : List (Value → Prop)).getD j (fun _ => True) zv) (fun _ _ W => W = W1.drew) ?h0st ?stepst ?finst)
           case h0st => exact fun _ => rfl
           case stepst =>
            intro i o a W d vs hi ho hdi hJ hf hr hF
            replace hi : i < 35 := hi
            rcases (show i = 0 ∨ i = 1 ∨ i = 2 ∨ i = 3 ∨ i = 4 ∨ i = 5 ∨ i = 6 ∨ i = 7 ∨ i = 8 ∨ i = 9 ∨ i = 10 ∨ i = 11 ∨ i = 12 ∨ i = 13 ∨ i = 14 ∨ i = 15 ∨ i = 16 ∨ i = 17 ∨ i = 18 ∨ i = 19 ∨ i = 20 ∨ i = 21 ∨ i = 22 ∨ i = 23 ∨ i = 24 ∨ i = 25 ∨ i = 26 ∨ i = 27 ∨ i = 28 ∨ i = 29 ∨ i = 30 ∨ i = 31 ∨ i = 32 ∨ i = 33 ∨ i = 34 by omega) with rfl | rfl | rfl | rfl | rfl | rfl | rfl | rfl | rfl | rfl | rfl | rfl | rfl | rfl | rfl | rfl | rfl | rfl | rfl | rfl | rfl | rfl | rfl | rfl | rfl | rfl | rfl | rfl | rfl | rfl | rfl | rfl | rfl | rfl | rfl
            all_goals
             replace ho := op_at ho (by rfl)
             subst ho
            ·have f5 : a.tmps.getD 5 undef = (.int .i64 (k : Int)) := hf 5 (by kernel_rfl)
             subst hJ
             exact .inl ⟨(fun k b h => by cases h), .inl ⟨0, by decide, rfl, (.int .i64 (k : Int)), W1.drew, (by simp [go_sem, Act.eval, f5]), rfl, rfl⟩⟩
            ·have d0 : a.tmps.getD 39 undef = (.int .i64 (k : Int)) := fdn (hF 0 (by decide) (hr 0 (by kernel_rfl)))
             subst hJ
             exact .inl ⟨(fun k b h => by cases h), .inl ⟨1, by decide, rfl, (.bool true), W1.drew, (by simp [go_sem, Act.eval, d0, c4]), rfl, rfl⟩⟩
            ·have d1 : a.tmps.getD 40 undef = (.bool true) := fdn (hF 1 (by decide) (hr 1 (by kernel_rfl)))
             subst hJ
             exact .inl ⟨(fun k b h => by cases h), .inl ⟨2, by decide, rfl, (.bool true), W1.drew, (by simp [go_sem, Act.eval, d1]), rfl, rfl⟩⟩
            ·have d2 : a.tmps.getD 41 undef = (.bool true) := fdn (hF 2 (by decide) (hr 2 (by kernel_rfl)))
             have f1 : a.tmps.getD 1 undef = (.slice (some ⟨bl, ol, none⟩) m ac) := hf 1 (by kernel_rfl)
             subst hJ
             exact .inl ⟨(fun k b h => by cases h; exact ⟨2, by decide, rfl, d2⟩), .inl ⟨3, by decide, rfl, (.slice (some ⟨bl, ol, none⟩) m ac), W1.drew, (by simp [go_sem, Act.eval, d2, f1]), rfl, rfl⟩⟩
            ·have d2 : a.tmps.getD 41 undef = (.bool true) := fdn (hF 2 (by decide) (hr 2 (by kernel_rfl)))
             have f5 : a.tmps.getD 5 undef = (.int .i64 (k : Int)) := hf 5 (by kernel_rfl)
             subst hJ
             exact .inl ⟨(fun k b h => by cases h; exact ⟨2, by decide, rfl, d2⟩), .inl ⟨4, by decide, rfl, (.int .i64 (k : Int)), W1.drew, (by simp [go_sem, Act.eval, d2, f5]), rfl, rfl⟩⟩
            ·have d4 : a.tmps.getD 43 undef = (.int .i64 (k : Int)) := fdn (hF 4 (by decide) (hr 4 (by kernel_rfl)))
             have d2 : a.tmps.getD 41 undef = (.bool true) := fdn (hF 2 (by decide) (hr 2 (by kernel_rfl)))
             subst hJ
             exact .inl ⟨(fun k b h => by cases h; exact ⟨2, by decide, rfl, d2⟩), .inl ⟨5, by decide, rfl, (.int .i64 (kp : Int)), W1.drew, (by simp [go_sem, Act.eval, d4, d2, hj]), rfl, rfl⟩⟩
            ·have d3 : a.tmps.getD 42 undef = (.slice (some ⟨bl, ol, none⟩) m ac) := fdn (hF 3 (by decide) (hr 3 (by kernel_rfl)))
             have d5 : a.tmps.getD 44 undef = (.int .i64 (kp : Int)) := fdn (hF 5 (by decide) (hr 5 (by kernel_rfl)))
             have d2 : a.tmps.getD 41 undef = (.bool true) := fdn (hF 2 (by decide) (hr 2 (by kernel_rfl)))
             subst hJ
             exact .inl ⟨(fun k b h => by cases h; exact ⟨2, by decide, rfl, d2⟩), .inl ⟨6, by decide, rfl, (.pointer (some ⟨bl, ol + kp * 2, none⟩)), W1.drew, (by simp [go_sem, Act.eval, d3, d5, d2, hjm]), rfl, rfl⟩⟩
            ·have d6 : a.tmps.getD 45 undef = (.pointer (some ⟨bl, ol + kp * 2, none⟩)) := fdn (hF 6 (by decide) (hr 6 (by kernel_rfl)))
             have d2 : a.tmps.getD 41 undef = (.bool true) := fdn (hF 2 (by decide) (hr 2 (by kernel_rfl)))
             subst hJ
             exact .inl ⟨(fun k b h => by cases h; exact ⟨2, by decide, rfl, d2⟩), .inl ⟨7, by decide, rfl, (.pointer (some ⟨bl, ol + kp * 2, none⟩)), W1.drew, (by simp [go_sem, Act.eval, d6, d2]), rfl, rfl⟩⟩
            ·have d7 : a.tmps.getD 46 undef = (.pointer (some ⟨bl, ol + kp * 2, none⟩)) := fdn (hF 7 (by decide) (hr 7 (by kernel_rfl)))
             have d2 : a.tmps.getD 41 undef = (.bool true) := fdn (hF 2 (by decide) (hr 2 (by kernel_rfl)))
             subst hJ
             exact .inl ⟨(fun k b h => by cases h; exact ⟨2, by decide, rfl, d2⟩), .inl ⟨8, by decide, rfl, (.int .i64 px), W1.drew, (by simp [go_sem, Act.eval, d7, d2, cpA]), rfl, rfl⟩⟩
            ·have d2 : a.tmps.getD 41 undef = (.bool true) := fdn (hF 2 (by decide) (hr 2 (by kernel_rfl)))
             have f6 : a.tmps.getD 6 undef = (.pointer (some ⟨q, 0, none⟩)) := hf 6 (by kernel_rfl)
             subst hJ
             exact .inl ⟨(fun k b h => by cases h; exact ⟨2, by decide, rfl, d2⟩), .inl ⟨9, by decide, rfl, (.pointer (some ⟨q, 0, none⟩)), W1.drew, (by simp [go_sem, Act.eval, d2, f6]), rfl, rfl⟩⟩
            ·have d9 : a.tmps.getD 48 undef = (.pointer (some ⟨q, 0, none⟩)) := fdn (hF 9 (by decide) (hr 9 (by kernel_rfl)))
             have d2 : a.tmps.getD 41 undef = (.bool true) := fdn (hF 2 (by decide) (hr 2 (by kernel_rfl)))
             subst hJ
             exact .inl ⟨(fun k b h => by cases h; exact ⟨2, by decide, rfl, d2⟩), .inl ⟨10, by decide, rfl, (.int .i64 x), W1.drew, (by simp [go_sem, Act.eval, d9, d2, cq0]), rfl, rfl⟩⟩
            ·have d8 : a.tmps.getD 47 undef = (.int .i64 px) := fdn (hF 8 (by decide) (hr 8 (by kernel_rfl)))
             have d10 : a.tmps.getD 49 undef = (.int .i64 x) := fdn (hF 10 (by decide) (hr 10 (by kernel_rfl)))
             have d2 : a.tmps.getD 41 undef = (.bool true) := fdn (hF 2 (by decide) (hr 2 (by kernel_rfl)))
             subst hJ
             exact .inl ⟨(fun k b h => by cases h; exact ⟨2, by decide, rfl, d2⟩), .inl ⟨11, by decide, rfl, (.bool false), W1.drew, (by simp [go_sem, Act.eval, d8, d10, d2, c5]), rfl, rfl⟩⟩
            ·have d11 : a.tmps.getD 50 undef = (.bool false) := fdn (hF 11 (by decide) (hr 11 (by kernel_rfl)))
             have d2 : a.tmps.getD 41 undef = (.bool true) := fdn (hF 2 (by decide) (hr 2 (by kernel_rfl)))
             subst hJ
             exact .inl ⟨(fun k b h => by cases h; exact ⟨2, by decide, rfl, d2⟩), .inl ⟨12, by decide, rfl, (.bool false), W1.drew, (by simp [go_sem, Act.eval, d11, d2]), rfl, rfl⟩⟩
            ·have d12 : a.tmps.getD 51 undef = (.bool false) := fdn (hF 12 (by decide) (hr 12 (by kernel_rfl)))
             have f1 : a.tmps.getD 1 undef = (.slice (some ⟨bl, ol, none⟩) m ac) := hf 1 (by kernel_rfl)
             subst hJ
             exact .inl ⟨(fun k b h => by cases h; exact ⟨12, by decide, rfl, d12⟩), .inl ⟨13, by decide, rfl, (.slice (some ⟨bl, ol, none⟩) m ac), W1.drew, (by simp [go_sem, Act.eval, d12, f1]), rfl, rfl⟩⟩
            ·have d12 : a.tmps.getD 51 undef = (.bool false) := fdn (hF 12 (by decide) (hr 12 (by kernel_rfl)))
             have f5 : a.tmps.getD 5 undef = (.int .i64 (k : Int)) := hf 5 (by kernel_rfl)
             subst hJ
             exact .inl ⟨(fun k b h => by cases h; exact ⟨12, by decide, rfl, d12⟩), .inl ⟨14, by decide, rfl, (.int .i64 (k : Int)), W1.drew, (by simp [go_sem, Act.eval, d12, f5]), rfl, rfl⟩⟩
            ·have d14 : a.tmps.getD 53 undef = (.int .i64 (k : Int)) := fdn (hF 14 (by decide) (hr 14 (by kernel_rfl)))
             have d12 : a.tmps.getD 51 undef = (.bool false) := fdn (hF 12 (by decide) (hr 12 (by kernel_rfl)))
             subst hJ
             exact .inl ⟨(fun k b h => by cases h; exact ⟨12, by decide, rfl, d12⟩), .inl ⟨15, by decide, rfl, (.int .i64 (kp : Int)), W1.drew, (by simp [go_sem, Act.eval, d14, d12, hj]), rfl, rfl⟩⟩
            ·have d13 : a.tmps.getD 52 undef = (.slice (some ⟨bl, ol, none⟩) m ac) := fdn (hF 13 (by decide) (hr 13 (by kernel_rfl)))
             have d15 : a.tmps.getD 54 undef = (.int .i64 (kp : Int)) := fdn (hF 15 (by decide) (hr 15 (by kernel_rfl)))
             have d12 : a.tmps.getD 51 undef = (.bool false) := fdn (hF 12 (by decide) (hr 12 (by kernel_rfl)))
             subst hJ
             exact .inl ⟨(fun k b h => by cases h; exact ⟨12, by decide, rfl, d12⟩), .inl ⟨16, by decide, rfl, (.pointer (some ⟨bl, ol + kp * 2, none⟩)), W1.drew, (by simp [go_sem, Act.eval, d13, d15, d12, hjm]), rfl, rfl⟩⟩
            ·have d16 : a.tmps.getD 55 undef = (.pointer (some ⟨bl, ol + kp * 2, none⟩)) := fdn (hF 16 (by decide) (hr 16 (by kernel_rfl)))
             have d12 : a.tmps.getD 51 undef = (.bool false) := fdn (hF 12 (by decide) (hr 12 (by kernel_rfl)))
             subst hJ
             exact .inl ⟨(fun k b h => by cases h; exact ⟨12, by decide, rfl, d12⟩), .inl ⟨17, by decide, rfl, (.pointer (some ⟨bl, ol + kp * 2, none⟩)), W1.drew, (by simp [go_sem, Act.eval, d16, d12]), rfl, rfl⟩⟩
            ·have d17 : a.tmps.getD 56 undef = (.pointer (some ⟨bl, ol + kp * 2, none⟩)) := fdn (hF 17 (by decide) (hr 17 (by kernel_rfl)))
             have d12 : a.tmps.getD 51 undef = (.bool false) := fdn (hF 12 (by decide) (hr 12 (by kernel_rfl)))
             subst hJ
             exact .inl ⟨(fun k b h => by cases h; exact ⟨12, by decide, rfl, d12⟩), .inl ⟨18, by decide, rfl, (.int .i64 px), W1.drew, (by simp [go_sem, Act.eval, d17, d12, cpA]), rfl, rfl⟩⟩
            ·have d12 : a.tmps.getD 51 undef = (.bool false) := fdn (hF 12 (by decide) (hr 12 (by kernel_rfl)))
             have f6 : a.tmps.getD 6 undef = (.pointer (some ⟨q, 0, none⟩)) := hf 6 (by kernel_rfl)
             subst hJ
             exact .inl ⟨(fun k b h => by cases h; exact ⟨12, by decide, rfl, d12⟩), .inl ⟨19, by decide, rfl, (.pointer (some ⟨q, 0, none⟩)), W1.drew, (by simp [go_sem, Act.eval, d12, f6]), rfl, rfl⟩⟩
            ·have d19 : a.tmps.getD 58 undef = (.pointer (some ⟨q, 0, none⟩)) := fdn (hF 19 (by decide) (hr 19 (by kernel_rfl)))
             have d12 : a.tmps.getD 51 undef = (.bool false) := fdn (hF 12 (by decide) (hr 12 (by kernel_rfl)))
             subst hJ
             exact .inl ⟨(fun k b h => by cases h; exact ⟨12, by decide, rfl, d12⟩), .inl ⟨20, by decide, rfl, (.int .i64 x), W1.drew, (by simp [go_sem, Act.eval, d19, d12, cq0]), rfl, rfl⟩⟩
            ·have d18 : a.tmps.getD 57 undef = (.int .i64 px) := fdn (hF 18 (by decide) (hr 18 (by kernel_rfl)))
             have d20 : a.tmps.getD 59 undef = (.int .i64 x) := fdn (hF 20 (by decide) (hr 20 (by kernel_rfl)))
             have d12 : a.tmps.getD 51 undef = (.bool false) := fdn (hF 12 (by decide) (hr 12 (by kernel_rfl)))
             subst hJ
             exact .inl ⟨(fun k b h => by cases h; exact ⟨12, by decide, rfl, d12⟩), .inl ⟨21, by decide, rfl, (.bool false), W1.drew, (by simp [go_sem, Act.eval, d18, d20, d12, hpb]), rfl, rfl⟩⟩
            ·have d21 : a.tmps.getD 60 undef = (.bool false) := fdn (hF 21 (by decide) (hr 21 (by kernel_rfl)))
             have d12 : a.tmps.getD 51 undef = (.bool false) := fdn (hF 12 (by decide) (hr 12 (by kernel_rfl)))
             subst hJ
             exact .inl ⟨(fun k b h => by cases h; exact ⟨12, by decide, rfl, d12⟩), .inl ⟨22, by decide, rfl, (.bool false), W1.drew, (by simp [go_sem, Act.eval, d21, d12]), rfl, rfl⟩⟩
            ·have d22 : a.tmps.getD 61 undef = (.bool false) := fdn (hF 22 (by decide) (hr 22 (by kernel_rfl)))
             subst hJ
             exact .inr ⟨22, true, 22, rfl, by decide, rfl, (nhB d22 rfl), .inl ⟨23, by decide, rfl, rfl, rfl⟩⟩
            ·have d22 : a.tmps.getD 61 undef = (.bool false) := fdn (hF 22 (by decide) (hr 22 (by kernel_rfl)))
             subst hJ
             exact .inr ⟨22, true, 22, rfl, by decide, rfl, (nhB d22 rfl), .inl ⟨24, by decide, rfl, rfl, rfl⟩⟩
            ·have d22 : a.tmps.getD 61 undef = (.bool false) := fdn (hF 22 (by decide) (hr 22 (by kernel_rfl)))
             subst hJ
             exact .inr ⟨22, true, 22, rfl, by decide, rfl, (nhB d22 rfl), .inl ⟨25, by decide, rfl, rfl, rfl⟩⟩
            ·have d22 : a.tmps.getD 61 undef = (.bool false) := fdn (hF 22 (by decide) (hr 22 (by kernel_rfl)))
             subst hJ
             exact .inr ⟨22, true, 22, rfl, by decide, rfl, (nhB d22 rfl), .inl ⟨26, by decide, rfl, rfl, rfl⟩⟩
            ·have d22 : a.tmps.getD 61 undef = (.bool false) := fdn (hF 22 (by decide) (hr 22 (by kernel_rfl)))
             subst hJ
             exact .inr ⟨22, true, 22, rfl, by decide, rfl, (nhB d22 rfl), .inl ⟨27, by decide, rfl, rfl, rfl⟩⟩
            ·have d22 : a.tmps.getD 61 undef = (.bool false) := fdn (hF 22 (by decide) (hr 22 (by kernel_rfl)))
             subst hJ
             exact .inr ⟨22, true, 22, rfl, by decide, rfl, (nhB d22 rfl), .inl ⟨28, by decide, rfl, rfl, rfl⟩⟩
            ·have d22 : a.tmps.getD 61 undef = (.bool false) := fdn (hF 22 (by decide) (hr 22 (by kernel_rfl)))
             subst hJ
             exact .inr ⟨22, true, 22, rfl, by decide, rfl, (nhB d22 rfl), .inl ⟨29, by decide, rfl, rfl, rfl⟩⟩
            ·have d22 : a.tmps.getD 61 undef = (.bool false) := fdn (hF 22 (by decide) (hr 22 (by kernel_rfl)))
             subst hJ
             exact .inr ⟨22, true, 22, rfl, by decide, rfl, (nhB d22 rfl), .inl ⟨30, by decide, rfl, rfl, rfl⟩⟩
            ·have d22 : a.tmps.getD 61 undef = (.bool false) := fdn (hF 22 (by decide) (hr 22 (by kernel_rfl)))
             subst hJ
             exact .inr ⟨22, true, 22, rfl, by decide, rfl, (nhB d22 rfl), .inl ⟨31, by decide, rfl, rfl, rfl⟩⟩
            ·have d22 : a.tmps.getD 61 undef = (.bool false) := fdn (hF 22 (by decide) (hr 22 (by kernel_rfl)))
             have d12 : a.tmps.getD 51 undef = (.bool false) := fdn (hF 12 (by decide) (hr 12 (by kernel_rfl)))
             subst hJ
             exact .inl ⟨(fun k b h => by cases h; exact ⟨12, by decide, rfl, d12⟩), .inl ⟨32, by decide, rfl, (.bool false), W1.drew, (by simp [go_sem, Act.eval, d22, d12]), rfl, rfl⟩⟩
            ·have d12 : a.tmps.getD 51 undef = (.bool false) := fdn (hF 12 (by decide) (hr 12 (by kernel_rfl)))
             have d32 : a.tmps.getD 71 undef = (.bool false) := fdn (hF 32 (by decide) (hr 32 (by kernel_rfl)))
             have d2 : a.tmps.getD 41 undef = (.bool true) := fdn (hF 2 (by decide) (hr 2 (by kernel_rfl)))
             subst hJ
             exact .inl ⟨(fun k b h => by cases h; exact ⟨2, by decide, rfl, d2⟩), .inl ⟨33, by decide, rfl, (.bool false), W1.drew, (by simp [go_sem, Act.eval, d12, d32, d2]), rfl, rfl⟩⟩
            ·have d2 : a.tmps.getD 41 undef = (.bool true) := fdn (hF 2 (by decide) (hr 2 (by kernel_rfl)))
             have d33 : a.tmps.getD 72 undef = (.bool false) := fdn (hF 33 (by decide) (hr 33 (by kernel_rfl)))
             subst hJ
             exact .inl ⟨(fun k b h => by cases h), .inl ⟨34, by decide, rfl, (.bool false), W1.drew, (by simp [go_sem, Act.eval, d2, d33]), rfl, rfl⟩⟩
           case finst =>
            intro d vs Wst hall hJ hF
            have h0 : vs 0 = (.int .i64 (k : Int)) := hF 0 (by decide)
            have h1 : vs 1 = (.bool true) := hF 1 (by decide)
            have h2 : vs 2 = (.bool true) := hF 2 (by decide)
            have h3 : vs 3 = (.slice (some ⟨bl, ol, none⟩) m ac) := hF 3 (by decide)
            have h4 : vs 4 = (.int .i64 (k : Int)) := hF 4 (by decide)
            have h5 : vs 5 = (.int .i64 (kp : Int)) := hF 5 (by decide)
            have h6 : vs 6 = (.pointer (some ⟨bl, ol + kp * 2, none⟩)) := hF 6 (by decide)
            have h7 : vs 7 = (.pointer (some ⟨bl, ol + kp * 2, none⟩)) := hF 7 (by decide)
            have h8 : vs 8 = (.int .i64 px) := hF 8 (by decide)
            have h9 : vs 9 = (.pointer (some ⟨q, 0, none⟩)) := hF 9 (by decide)
            have h10 : vs 10 = (.int .i64 x) := hF 10 (by decide)
            have h11 : vs 11 = (.bool false) := hF 11 (by decide)
            have h12 : vs 12 = (.bool false) := hF 12 (by decide)
            have h13 : vs 13 = (.slice (some ⟨bl, ol, none⟩) m ac) := hF 13 (by decide)
            have h14 : vs 14 = (.int .i64 (k : Int)) := hF 14 (by decide)
            have h15 : vs 15 = (.int .i64 (kp : Int)) := hF 15 (by decide)
            have h16 : vs 16 = (.pointer (some ⟨bl, ol + kp * 2, none⟩)) := hF 16 (by decide)
            have h17 : vs 17 = (.pointer (some ⟨bl, ol + kp * 2, none⟩)) := hF 17 (by decide)
            have h18 : vs 18 = (.int .i64 px) := hF 18 (by decide)
            have h19 : vs 19 = (.pointer (some ⟨q, 0, none⟩)) := hF 19 (by decide)
            have h20 : vs 20 = (.int .i64 x) := hF 20 (by decide)
            have h21 : vs 21 = (.bool false) := hF 21 (by decide)
            have h22 : vs 22 = (.bool false) := hF 22 (by decide)
            have h23 : vs 23 = undef := hF 23 (by decide)
            have h24 : vs 24 = undef := hF 24 (by decide)
            have h25 : vs 25 = undef := hF 25 (by decide)
            have h26 : vs 26 = undef := hF 26 (by decide)
            have h27 : vs 27 = undef := hF 27 (by decide)
            have h28 : vs 28 = undef := hF 28 (by decide)
            have h29 : vs 29 = undef := hF 29 (by decide)
            have h30 : vs 30 = undef := hF 30 (by decide)
            have h31 : vs 31 = undef := hF 31 (by decide)
            have h32 : vs 32 = (.bool false) := hF 32 (by decide)
            have h33 : vs 33 = (.bool false) := hF 33 (by decide)
            have h34 : vs 34 = (.bool false) := hF 34 (by decide)
            clear hF
            show (_ : Exit → Act → World → Prop) Exit.normal (puts _ vs 35 _) Wst
            simp only [puts, h0, h1, h2, h3, h4, h5, h6, h7, h8, h9, h10, h11, h12, h13, h14, h15, h16, h17, h18, h19, h20, h21, h22, h23, h24, h25, h26, h27, h28, h29, h30, h31, h32, h33, h34, List.getD_cons_zero, List.getD_cons_succ]
            clear h0 h1 h2 h3 h4 h5 h6 h7 h8 h9 h10 h11 h12 h13 h14 h15 h16 h17 h18 h19 h20 h21 h22 h23 h24 h25 h26 h27 h28 h29 h30 h31 h32 h33 h34
            subst hJ
            simp only [Act.put, List.setIfInBounds_toArray, List.set_cons_succ, List.set_cons_zero]
            clear hall
            go_wp2_with (fail)
            go_roundw
            case rel => exact ⟨k + 1, by go_num, by omega, HE.out, HB2.out⟩
            case measure => simp [intOf] <;> omega
        ·
         have HE := Lib.hid (HOK.out (by unfold fitAt; rw [← HXY.out.1, ← HXY.out.2]; omega))
         go_wp2_with (fail)
         rw [← HQ.out, ← HW1.out]
         refine wpIn_wide (n := 5).1 (wpIn_flowM (F0 := Fence.wide) (n0 := 5) (fun _ => trivial) (fun h => by cases h) (by kernel_rfl) (by kernel_rfl) 35 35 (by kernel_rfl) (fun j => ([0, 1, 2, 3, 4, 5, 6, 7, 8, 9, 10, 11, 12, 13, 14, 15, 16, 17, 18, 19, 20, 21, 22, 23, 24, 25, 26, 27, 28, 29, 30, 31, 32, 33, 34] : List Nat).getD j 0) (fun j => ([39, 40, 41, 42, 43, 44, 45, 46, 47, 48, 49, 50, 51, 52, 53, 54, 55, 56, 57, 58, 59, 60, 61, 62, 63, 64, 65, 66, 67, 68, 69, 70, 71, 72, 73] : List Nat).getD j 0) (by kernel_rfl) (by kernel_rfl) (by kernel_rfl) (by kernel_rfl) (by kernel_rfl) (by kernel_rfl) (by kernel_rfl) (fun j zv => ([(fun zv => zv = (.int .i64 (k : Int))), (fun zv => zv = (.bool false)), (fun zv => zv = (.bool false)), (fun zv => zv = undef), (fun zv => zv = undef), (fun zv => zv = undef), (fun zv => zv = undef), (fun zv => zv = undef), (fun zv => zv = undef), (fun zv => zv = undef), (fun zv => zv = undef), (fun zv => zv = undef), (fun zv => zv = undef), (fun zv => zv = undef), (fun zv => zv = undef), (fun zv => zv = undef), (fun zv => zv = undef), (fun zv => zv = undef), (fun zv => zv = undef), (fun zv => zv = undef), (fun zv => zv = undef), (fun zv => zv = undef), (fun zv => zv = undef), (fun zv => zv = undef), (fun zv => zv = undef), (fun zv => zv = undef), (fun zv => zv = undef), (fun zv => zv = undef), (fun zv => zv = undef), (fun zv => zv = undef), (fun zv => zv = undef), (fun zv => zv = undef), (fun zv => zv = undef), (fun zv => zv = undef), (fun zv => zv = (.bool false))] : List (Value → Prop)).getD j (fun _ => True) zv) (fun _ _ W => W = W1.drew) ?h0rt ?steprt ?finrt)
         case h0rt => exact fun _ => rfl
         case steprt =>
          intro i o a W d vs hi ho hdi hJ hf hr hF
          replace hi : i < 35 := hi
          rcases (show i = 0 ∨ i = 1 ∨ i = 2 ∨ i = 3 ∨ i = 4 ∨ i = 5 ∨ i = 6 ∨ i = 7 ∨ i = 8 ∨ i = 9 ∨ i = 10 ∨ i = 11 ∨ i = 12 ∨ i = 13 ∨ i = 14 ∨ i = 15 ∨ i = 16 ∨ i = 17 ∨ i = 18 ∨ i = 19 ∨ i = 20 ∨ i = 21 ∨ i = 22 ∨ i = 23 ∨ i = 24 ∨ i = 25 ∨ i = 26 ∨ i = 27 ∨ i = 28 ∨ i = 29 ∨ i = 30 ∨ i = 31 ∨ i = 32 ∨ i = 33 ∨ i = 34 by omega) with rfl | rfl | rfl | rfl | rfl | rfl | rfl | rfl | rfl | rfl | rfl | rfl | rfl | rfl | rfl | rfl | rfl | rfl | rfl | rfl | rfl | rfl | rfl | rfl | rfl | rfl | rfl | rfl | rfl | rfl | rfl | rfl | rfl | rfl | rfl
          all_goals
           replace ho := op_at ho (by rfl)
           subst ho
          ·have f5 : a.tmps.getD 5 undef = (.int .i64 (k : Int)) := hf 5 (by kernel_rfl)
           subst hJ
           exact .inl ⟨(fun k b h => by cases h), .inl ⟨0, by decide, rfl, (.int .i64 (k : Int)), W1.drew, (by simp [go_sem, Act.eval, f5]), rfl, rfl⟩⟩
          ·have d0 : a.tmps.getD 39 undef = (.int .i64 (k : Int)) := fdn (hF 0 (by decide) (hr 0 (by kernel_rfl)))
           subst hJ
           exact .inl ⟨(fun k b h => by cases h), .inl ⟨1, by decide, rfl, (.bool false), W1.drew, (by simp [go_sem, Act.eval, d0, c4]), rfl, rfl⟩⟩
          ·have d1 : a.tmps.getD 40 undef = (.bool false) := fdn (hF 1 (by decide) (hr 1 (by kernel_rfl)))
           subst hJ
           exact .inl ⟨(fun k b h => by cases h), .inl ⟨2, by decide, rfl, (.bool false), W1.drew, (by simp [go_sem, Act.eval, d1]), rfl, rfl⟩⟩
          ·have d2 : a.tmps.getD 41 undef = (.bool false) := fdn (hF 2 (by decide) (hr 2 (by kernel_rfl)))
           subst hJ
           exact .inr ⟨2, true, 2, rfl, by decide, rfl, (nhB d2 rfl), .inl ⟨3, by decide, rfl, rfl, rfl⟩⟩
          ·have d2 : a.tmps.getD 41 undef = (.bool false) := fdn (hF 2 (by decide) (hr 2 (by kernel_rfl)))
           subst hJ
           exact .inr ⟨2, true, 2, rfl, by decide, rfl, (nhB d2 rfl), .inl ⟨4, by decide, rfl, rfl, rfl⟩⟩
          ·have d2 : a.tmps.getD 41 undef = (.bool false) := fdn (hF 2 (by decide) (hr 2 (by kernel_rfl)))
           subst hJ
           exact .inr ⟨2, true, 2, rfl, by decide, rfl, (nhB d2 rfl), .inl ⟨5, by decide, rfl, rfl, rfl⟩⟩
          ·have d2 : a.tmps.getD 41 undef = (.bool false) := fdn (hF 2 (by decide) (hr 2 (by kernel_rfl)))
           subst hJ
           exact .inr ⟨2, true, 2, rfl, by decide, rfl, (nhB d2 rfl), .inl ⟨6, by decide, rfl, rfl, rfl⟩⟩
          ·have d2 : a.tmps.getD 41 undef = (.bool false) := fdn (hF 2 (by decide) (hr 2 (by kernel_rfl)))
           subst hJ
           exact .inr ⟨2, true, 2, rfl, by decide, rfl, (nhB d2 rfl), .inl ⟨7, by decide, rfl, rfl, rfl⟩⟩
          ·have d2 : a.tmps.getD 41 undef = (.bool false) := fdn (hF 2 (by decide) (hr 2 (by kernel_rfl)))
           subst hJ
           exact .inr ⟨2, true, 2, rfl, by decide, rfl, (nhB d2 rfl), .inl ⟨8, by decide, rfl, rfl, rfl⟩⟩
          ·have d2 : a.tmps.getD 41 undef = (.bool false) := fdn (hF 2 (by decide) (hr 2 (by kernel_rfl)))
           subst hJ
           exact .inr ⟨2, true, 2, rfl, by decide, rfl, (nhB d2 rfl), .inl ⟨9, by decide, rfl, rfl, rfl⟩⟩
          ·have d2 : a.tmps.getD 41 undef = (.bool false) := fdn (hF 2 (by decide) (hr 2 (by kernel_rfl)))
           subst hJ
           exact .inr ⟨2, true, 2, rfl, by decide, rfl, (nhB d2 rfl), .inl ⟨10, by decide, rfl, rfl, rfl⟩⟩
          ·have d2 : a.tmps.getD 41 undef = (.bool false) := fdn (hF 2 (by decide) (hr 2 (by kernel_rfl)))
           subst hJ
           exact .inr ⟨2, true, 2, rfl, by decide, rfl, (nhB d2 rfl), .inl ⟨11, by decide, rfl, rfl, rfl⟩⟩
          ·have d2 : a.tmps.getD 41 undef = (.bool false) := fdn (hF 2 (by decide) (hr 2 (by kernel_rfl)))
           subst hJ
           exact .inr ⟨2, true, 2, rfl, by decide, rfl, (nhB d2 rfl), .inl ⟨12, by decide, rfl, rfl, rfl⟩⟩
          ·have d12 : a.tmps.getD 51 undef = undef := fdn (hF 12 (by decide) (hr 12 (by kernel_rfl)))
           subst hJ
           exact .inr ⟨12, false, 12, rfl, by decide, rfl, (nhU d12), .inl ⟨13, by decide, rfl, rfl, rfl⟩⟩
          ·have d12 : a.tmps.getD 51 undef = undef := fdn (hF 12 (by decide) (hr 12 (by kernel_rfl)))
           subst hJ
           exact .inr ⟨12, false, 12, rfl, by decide, rfl, (nhU d12), .inl ⟨14, by decide, rfl, rfl, rfl⟩⟩
          ·have d12 : a.tmps.getD 51 undef = undef := fdn (hF 12 (by decide) (hr 12 (by kernel_rfl)))
           subst hJ
           exact .inr ⟨12, false, 12, rfl, by decide, rfl, (nhU d12), .inl ⟨15, by decide, rfl, rfl, rfl⟩⟩
          ·have d12 : a.tmps.getD 51 undef = undef := fdn (hF 12 (by decide) (hr 12 (by kernel_rfl)))
           subst hJ
           exact .inr ⟨12, false, 12, rfl, by decide, rfl, (nhU d12), .inl ⟨16, by decide, rfl, rfl, rfl⟩⟩
          ·have d12 : a.tmps.getD 51 undef = undef := fdn (hF 12 (by decide) (hr 12 (by kernel_rfl)))
           subst hJ
           exact .inr ⟨12, false, 12, rfl, by decide, rfl, (nhU d12), .inl ⟨17, by decide, rfl, rfl, rfl⟩⟩
          ·have d12 : a.tmps.getD 51 undef = undef := fdn (hF 12 (by decide) (hr 12 (by kernel_rfl)))
           subst hJ
           exact .inr ⟨12, false, 12, rfl, by decide, rfl, (nhU d12), .inl ⟨18, by decide, rfl, rfl, rfl⟩⟩
          ·have d12 : a.tmps.getD 51 undef = undef := fdn (hF 12 (by decide) (hr 12 (by kernel_rfl)))
           subst hJ
           exact .inr ⟨12, false, 12, rfl, by decide, rfl, (nhU d12), .inl ⟨19, by decide, rfl, rfl, rfl⟩⟩
          ·have d12 : a.tmps.getD 51 undef = undef := fdn (hF 12 (by decide) (hr 12 (by kernel_rfl)))
           subst hJ
           exact .inr ⟨12, false, 12, rfl, by decide, rfl, (nhU d12), .inl ⟨20, by decide, rfl, rfl, rfl⟩⟩
          ·have d12 : a.tmps.getD 51 undef = undef := fdn (hF 12 (by decide) (hr 12 (by kernel_rfl)))
           subst hJ
           exact .inr ⟨12, false, 12, rfl, by decide, rfl, (nhU d12), .inl ⟨21, by decide, rfl, rfl, rfl⟩⟩
          ·have d12 : a.tmps.getD 51 undef = undef := fdn (hF 12 (by decide) (hr 12 (by kernel_rfl)))
           subst hJ
           exact .inr ⟨12, false, 12, rfl, by decide, rfl, (nhU d12), .inl ⟨22, by decide, rfl, rfl, rfl⟩⟩
          ·have d22 : a.tmps.getD 61 undef = undef := fdn (hF 22 (by decide) (hr 22 (by kernel_rfl)))
           subst hJ
           exact .inr ⟨22, true, 22, rfl, by decide, rfl, (nhU d22), .inl ⟨23, by decide, rfl, rfl, rfl⟩⟩
          ·have d22 : a.tmps.getD 61 undef = undef := fdn (hF 22 (by decide) (hr 22 (by kernel_rfl)))
           subst hJ
           exact .inr ⟨22, true, 22, rfl, by decide, rfl, (nhU d22), .inl ⟨24, by decide, rfl, rfl, rfl⟩⟩
          ·have d22 : a.tmps.getD 61 undef = undef := fdn (hF 22 (by decide) (hr 22 (by kernel_rfl)))
           subst hJ
           exact .inr ⟨22, true, 22, rfl, by decide, rfl, (nhU d22), .inl ⟨25, by decide, rfl, rfl, rfl⟩⟩
          ·have d22 : a.tmps.getD 61 undef = undef := fdn (hF 22 (by decide) (hr 22 (by kernel_rfl)))
           subst hJ
           exact .inr ⟨22, true, 22, rfl, by decide, rfl, (nhU d22), .inl ⟨26, by decide, rfl, rfl, rfl⟩⟩
          ·have d22 : a.tmps.getD 61 undef = undef := fdn (hF 22 (by decide) (hr 22 (by kernel_rfl)))
           subst hJ
           exact .inr ⟨22, true, 22, rfl, by decide, rfl, (nhU d22), .inl ⟨27, by decide, rfl, rfl, rfl⟩⟩
          ·have d22 : a.tmps.getD 61 undef = undef := fdn (hF 22 (by decide) (hr 22 (by kernel_rfl)))
           subst hJ
           exact .inr ⟨22, true, 22, rfl, by decide, rfl, (nhU d22), .inl ⟨28, by decide, rfl, rfl, rfl⟩⟩
          ·have d22 : a.tmps.getD 61 undef = undef := fdn (hF 22 (by decide) (hr 22 (by kernel_rfl)))
           subst hJ
           exact .inr ⟨22, true, 22, rfl, by decide, rfl, (nhU d22), .inl ⟨29, by decide, rfl, rfl, rfl⟩⟩
          ·have d22 : a.tmps.getD 61 undef = undef := fdn (hF 22 (by decide) (hr 22 (by kernel_rfl)))
           subst hJ
           exact .inr ⟨22, true, 22, rfl, by decide, rfl, (nhU d22), .inl ⟨30, by decide, rfl, rfl, rfl⟩⟩
          ·have d22 : a.tmps.getD 61 undef = undef := fdn (hF 22 (by decide) (hr 22 (by kernel_rfl)))
           subst hJ
           exact .inr ⟨22, true, 22, rfl, by decide, rfl, (nhU d22), .inl ⟨31, by decide, rfl, rfl, rfl⟩⟩
          ·have d12 : a.tmps.getD 51 undef = undef := fdn (hF 12 (by decide) (hr 12 (by kernel_rfl)))
           subst hJ
           exact .inr ⟨12, false, 12, rfl, by decide, rfl, (nhU d12), .inl ⟨32, by decide, rfl, rfl, rfl⟩⟩
          ·have d2 : a.tmps.getD 41 undef = (.bool false) := fdn (hF 2 (by decide) (hr 2 (by kernel_rfl)))
           subst hJ
           exact .inr ⟨2, true, 2, rfl, by decide, rfl, (nhB d2 rfl), .inl ⟨33, by decide, rfl, rfl, rfl⟩⟩
          ·have d2 : a.tmps.getD 41 undef = (.bool false) := fdn (hF 2 (by decide) (hr 2 (by kernel_rfl)))
           subst hJ
           exact .inl ⟨(fun k b h => by cases h), .inl ⟨34, by decide, rfl, (.bool false), W1.drew, (by simp [go_sem, Act.eval, d2]), rfl, rfl⟩⟩
         case finrt =>
          intro d vs Wrt hall hJ hF
          have h0 : vs 0 = (.int .i64 (k : Int)) := hF 0 (by decide)
          have h1 : vs 1 = (.bool false) := hF 1 (by decide)
          have h2 : vs 2 = (.bool false) := hF 2 (by decide)
          have h3 : vs 3 = undef := hF 3 (by decide)
          have h4 : vs 4 = undef := hF 4 (by decide)
          have h5 : vs 5 = undef := hF 5 (by decide)
          have h6 : vs 6 = undef := hF 6 (by decide)
          have h7 : vs 7 = undef := hF 7 (by decide)
          have h8 : vs 8 = undef := hF 8 (by decide)
          have h9 : vs 9 = undef := hF 9 (by decide)
          have h10 : vs 10 = undef := hF 10 (by decide)
          have h11 : vs 11 = undef := hF 11 (by decide)
          have h12 : vs 12 = undef := hF 12 (by decide)
          have h13 : vs 13 = undef := hF 13 (by decide)
          have h14 : vs 14 = undef := hF 14 (by decide)
          have h15 : vs 15 = undef := hF 15 (by decide)
          have h16 : vs 16 = undef := hF 16 (by decide)
          have h17 : vs 17 = undef := hF 17 (by decide)
          have h18 : vs 18 = undef := hF 18 (by decide)
          have h19 : vs 19 = undef := hF 19 (by decide)
          have h20 : vs 20 = undef := hF 20 (by decide)
          have h21 : vs 21 = undef := hF 21 (by decide)
          have h22 : vs 22 = undef := hF 22 (by decide)
          have h23 : vs 23 = undef := hF 23 (by decide)
          have h24 : vs 24 = undef := hF 24 (by decide)
          have h25 : vs 25 = undef := hF 25 (by decide)
          have h26 : vs 26 = undef := hF 26 (by decide)
          have h27 : vs 27 = undef := hF 27 (by decide)
          have h28 : vs 28 = undef := hF 28 (by decide)
          have h29 : vs 29 = undef := hF 29 (by decide)
          have h30 : vs 30 = undef := hF 30 (by decide)
          have h31 : vs 31 = undef := hF 31 (by decide)
          have h32 : vs 32 = undef := hF 32 (by decide)
          have h33 : vs 33 = undef := hF 33 (by decide)
          have h34 : vs 34 = (.bool false) := hF 34 (by decide)
          clear hF
          show (_ : Exit → Act → World → Prop) Exit.normal (puts _ vs 35 _) Wrt
          simp only [puts, h0, h1, h2, h3, h4, h5, h6, h7, h8, h9, h10, h11, h12, h13, h14, h15, h16, h17, h18, h19, h20, h21, h22, h23, h24, h25, h26, h27, h28, h29, h30, h31, h32, h33, h34, List.getD_cons_zero, List.getD_cons_succ]
          clear h0 h1 h2 h3 h4 h5 h6 h7 h8 h9 h10 h11 h12 h13 h14 h15 h16 h17 h18 h19 h20 h21 h22 h23 h24 h25 h26 h27 h28 h29 h30 h31 h32 h33 h34
          subst hJ
          simp only [Act.put, List.setIfInBounds_toArray, List.set_cons_succ, List.set_cons_zero]
          clear hall
          go_wp2_with (fail)
          go_roundw
          case rel => exact ⟨k + 1, by go_num, by omega, HE.out, HB2.out⟩
          case measure => simp [intOf] <;> omega
    ·obtain rfl : k = m := by omega
     have HE : Hid (R = true) := HT.out ⟨HNN.out.1, HNN.out.2, fun j hj => HK.out j (by have := HM.out; omega)⟩
     go_wp2_with (fail)
     go_ret
     rw [HE.out]
     exact ⟨rfl, HB.out⟩

end Go.Proofs.Ytenilbofncfbdaa

