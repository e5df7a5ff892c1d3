/- Wire: Fit, both sides (by program: wip/tools/gen_wire7.py). -/
import Derived.Test.YtgnpjenpehfjbaaDoorME
set_option linter.unusedSimpArgs false
set_option linter.unusedVariables false
namespace Go.Proofs.YtgnpjenpehfjbaaDoor
open Go.RowKit


set_option maxRecDepth 100000 in
set_option maxHeartbeats 4000000 in
theorem rfit_any (p : Pkt) (v : Value) (w : World) (hv : Ims w w.heap.size v p.items) (hnl : ∀ x ∈ p.items, x.name.length ≤ 9223372036854775807) : Calls Tryd.prog 12 #[.agg (p.cells v).toArray] w fun e w' => e = .returned (.bool (fitP p)) ∧ Below w.heap.size w w' := by
 obtain ⟨kind, frm, to, boot, life, echo, elife, xs⟩ := p
 obtain ⟨ao, cap, rfl, hcap, hmx⟩ := hv.slice
 have HV := Lib.hid hv
 obtain ⟨n, hn⟩ : ∃ n, n = xs.length := ⟨_, rfl⟩
 have hmx' : n ≤ 9223372036854775807 := by rw [hn]; unfold maxLen at hmx; exact hmx
 obtain ⟨R, hR⟩ : ∃ R, R = fitP ⟨kind, frm, to, boot, life, echo, elife, xs⟩ := ⟨_, rfl⟩
 have HRB : Hid (R = ((decide (1 ≤ kind) && (decide (kind ≤ 5) && (nodeB frm && (nodeB to && (!(frm == to) && (inB boot 1 1099511627776 && inB life 0 1099511627776)))))) && ((if kind = 1 then echo == 0 && elife == 0 else inB echo 1 1099511627776 && inB elife 0 1099511627776) && (if kind = 3 ∨ kind = 4 then itemsB xs && decide (n ≤ 8) else n == 0)))) := by rw [hn]; exact hR
 show Calls _ _ #[.agg #[.int .i64 kind, .int .i64 frm, .int .i64 to, .int .i64 boot, .int .i64 life, .int .i64 echo, .int .i64 elife, .slice ao xs.length cap]] w _
 rw [← hR]
 simp only at HV
 rw [← hn] at HV hcap hmx ⊢
 have HN := Lib.hid hn
 have HNL := Lib.hid hnl
 clear hv hn hR hnl hmx
 have hf := fun W => rnode_any frm W
 have ht := fun W => rnode_any to W
 have hb := fun W => rwithin_any boot 1 1099511627776 W
 have hl := fun W => rwithin_any life 0 1099511627776 W
 generalize nodeB frm = b2 at *
 generalize nodeB to = b3 at *
 generalize inB boot 1 1099511627776 = b5 at *
 generalize inB life 0 1099511627776 = b6 at *
 by_cases h1 : 1 ≤ kind
 case neg =>
  have k1 : decide (kind < 1) = true := by simp; omega
  rw [show decide (1 ≤ kind) = false by simp; omega] at HRB
  clear h1 hf ht hb hl
  as_aux_lemma =>
  go_enter Tryd.func12, Tryd.ntmps12
  go_wp2_with (fail)
  go_ret
  have hr := HRB.out
  try simp at hr
  subst hr
  exact ⟨by first | rfl | simp, (Below.refl _ _).alloc (Nat.le_refl _) _⟩
 have k1 : decide (kind < 1) = false := by simp; omega
 rw [show decide (1 ≤ kind) = true by simp; omega] at HRB
 by_cases h5 : kind ≤ 5
 case neg =>
  have k5 : decide (5 < kind) = true := by simp; omega
  rw [show decide (kind ≤ 5) = false by simp; omega] at HRB
  clear h1 h5 hf ht hb hl
  as_aux_lemma =>
  go_enter Tryd.func12, Tryd.ntmps12
  go_wp2_with (fail)
  go_ret
  have hr := HRB.out
  try simp at hr
  subst hr
  exact ⟨by first | rfl | simp, (Below.refl _ _).alloc (Nat.le_refl _) _⟩
 have k5 : decide (5 < kind) = false := by simp; omega
 rw [show decide (kind ≤ 5) = true by simp; omega] at HRB
 clear h1 h5
 cases b2
 ·clear ht hb hl
  as_aux_lemma =>
  go_enter Tryd.func12, Tryd.ntmps12
  go_wp2_with (first | (with_reducible refine (hf _).mono ?_; rintro e w' ⟨rfl, rfl⟩))
  go_ret
  have hr := HRB.out
  try simp at hr
  subst hr
  exact ⟨by first | rfl | simp, (Below.refl _ _).alloc (Nat.le_refl _) _⟩
 cases b3
 ·clear hb hl
  as_aux_lemma =>
  go_enter Tryd.func12, Tryd.ntmps12
  go_wp2_with (first | (with_reducible refine (hf _).mono ?_; rintro e w' ⟨rfl, rfl⟩) | (with_reducible refine (ht _).mono ?_; rintro e w' ⟨rfl, rfl⟩))
  go_ret
  have hr := HRB.out
  try simp at hr
  subst hr
  exact ⟨by first | rfl | simp, (Below.refl _ _).alloc (Nat.le_refl _) _⟩
 by_cases hft : frm = to
 ·have e5 : (frm == to) = true := by simpa using hft
  rw [e5] at HRB
  clear hb hl hft
  as_aux_lemma =>
  go_enter Tryd.func12, Tryd.ntmps12
  go_wp2_with (first | (with_reducible refine (hf _).mono ?_; rintro e w' ⟨rfl, rfl⟩) | (with_reducible refine (ht _).mono ?_; rintro e w' ⟨rfl, rfl⟩))
  go_ret
  have hr := HRB.out
  try simp at hr
  subst hr
  exact ⟨by first | rfl | simp, (Below.refl _ _).alloc (Nat.le_refl _) _⟩
 have e5 : (frm == to) = false := by simpa using hft
 rw [e5] at HRB
 clear hft
 cases b5
 ·clear hl
  as_aux_lemma =>
  go_enter Tryd.func12, Tryd.ntmps12
  go_wp2_with (first | (with_reducible refine (hf _).mono ?_; rintro e w' ⟨rfl, rfl⟩) | (with_reducible refine (ht _).mono ?_; rintro e w' ⟨rfl, rfl⟩) | (with_reducible refine (hb _).mono ?_; rintro e w' ⟨rfl, rfl⟩))
  go_ret
  have hr := HRB.out
  try simp at hr
  subst hr
  exact ⟨by first | rfl | simp, (Below.refl _ _).alloc (Nat.le_refl _) _⟩
 cases b6
 ·as_aux_lemma =>
  go_enter Tryd.func12, Tryd.ntmps12
  go_wp2_with (first | (with_reducible refine (hf _).mono ?_; rintro e w' ⟨rfl, rfl⟩) | (with_reducible refine (ht _).mono ?_; rintro e w' ⟨rfl, rfl⟩) | (with_reducible refine (hb _).mono ?_; rintro e w' ⟨rfl, rfl⟩) | (with_reducible refine (hl _).mono ?_; rintro e w' ⟨rfl, rfl⟩))
  go_ret
  have hr := HRB.out
  try simp at hr
  subst hr
  exact ⟨by first | rfl | simp, (Below.refl _ _).alloc (Nat.le_refl _) _⟩
 by_cases hk1 : kind = 1
 ·subst hk1
  rw [if_pos rfl, if_neg (by omega)] at HRB
  obtain ⟨z1, hz1⟩ : ∃ z, z = (echo == 0) := ⟨_, rfl⟩
  obtain ⟨z2, hz2⟩ : ∃ z, z = (elife == 0) := ⟨_, rfl⟩
  rw [← hz1, ← hz2] at HRB
  have y1 : (echo != 0) = !z1 := by rw [hz1]; rfl
  have y2 : (elife != 0) = !z2 := by rw [hz2]; rfl
  clear hz1 hz2 k1 k5
  cases z1
  ·as_aux_lemma =>
   go_enter Tryd.func12, Tryd.ntmps12
   go_wp2_with (first | (with_reducible refine (hf _).mono ?_; rintro e w' ⟨rfl, rfl⟩) | (with_reducible refine (ht _).mono ?_; rintro e w' ⟨rfl, rfl⟩) | (with_reducible refine (hb _).mono ?_; rintro e w' ⟨rfl, rfl⟩) | (with_reducible refine (hl _).mono ?_; rintro e w' ⟨rfl, rfl⟩))
   go_ret
   have hr := HRB.out
   try simp at hr
   subst hr
   exact ⟨by first | rfl | simp, (Below.refl _ _).alloc (Nat.le_refl _) _⟩
  cases z2
  ·as_aux_lemma =>
   go_enter Tryd.func12, Tryd.ntmps12
   go_wp2_with (first | (with_reducible refine (hf _).mono ?_; rintro e w' ⟨rfl, rfl⟩) | (with_reducible refine (ht _).mono ?_; rintro e w' ⟨rfl, rfl⟩) | (with_reducible refine (hb _).mono ?_; rintro e w' ⟨rfl, rfl⟩) | (with_reducible refine (hl _).mono ?_; rintro e w' ⟨rfl, rfl⟩))
   go_ret
   have hr := HRB.out
   try simp at hr
   subst hr
   exact ⟨by first | rfl | simp, (Below.refl _ _).alloc (Nat.le_refl _) _⟩
  by_cases hn0 : n = 0
  ·have q0 : decide ((n : Int) = 0) = true := by simp; omega
   have q1 : ((n : Int) == 0) = true := by simp; omega
   rw [show (n == 0) = true by simp; omega] at HRB
   clear hn0
   as_aux_lemma =>
   go_enter Tryd.func12, Tryd.ntmps12
   go_wp2_with (first | (with_reducible refine (hf _).mono ?_; rintro e w' ⟨rfl, rfl⟩) | (with_reducible refine (ht _).mono ?_; rintro e w' ⟨rfl, rfl⟩) | (with_reducible refine (hb _).mono ?_; rintro e w' ⟨rfl, rfl⟩) | (with_reducible refine (hl _).mono ?_; rintro e w' ⟨rfl, rfl⟩))
   go_ret
   have hr := HRB.out
   try simp at hr
   subst hr
   exact ⟨by first | rfl | simp, (Below.refl _ _).alloc (Nat.le_refl _) _⟩
  ·have q0 : decide ((n : Int) = 0) = false := by simp; omega
   have q1 : ((n : Int) == 0) = false := by simp; omega
   rw [show (n == 0) = false by simp; omega] at HRB
   clear hn0
   as_aux_lemma =>
   go_enter Tryd.func12, Tryd.ntmps12
   go_wp2_with (first | (with_reducible refine (hf _).mono ?_; rintro e w' ⟨rfl, rfl⟩) | (with_reducible refine (ht _).mono ?_; rintro e w' ⟨rfl, rfl⟩) | (with_reducible refine (hb _).mono ?_; rintro e w' ⟨rfl, rfl⟩) | (with_reducible refine (hl _).mono ?_; rintro e w' ⟨rfl, rfl⟩))
   go_ret
   have hr := HRB.out
   try simp at hr
   subst hr
   exact ⟨by first | rfl | simp, (Below.refl _ _).alloc (Nat.le_refl _) _⟩
 have hk1' : (kind == 1) = false := by simpa using hk1
 rw [if_neg hk1] at HRB
 have he1 := fun W => rwithin_any echo 1 1099511627776 W
 have he2 := fun W => rwithin_any elife 0 1099511627776 W
 generalize inB echo 1 1099511627776 = z1 at *
 generalize inB elife 0 1099511627776 = z2 at *
 cases z1
 ·clear he2 hk1
  as_aux_lemma =>
  go_enter Tryd.func12, Tryd.ntmps12
  go_wp2_with (first | (with_reducible refine (hf _).mono ?_; rintro e w' ⟨rfl, rfl⟩) | (with_reducible refine (ht _).mono ?_; rintro e w' ⟨rfl, rfl⟩) | (with_reducible refine (hb _).mono ?_; rintro e w' ⟨rfl, rfl⟩) | (with_reducible refine (hl _).mono ?_; rintro e w' ⟨rfl, rfl⟩) | (with_reducible refine (he1 _).mono ?_; rintro e w' ⟨rfl, rfl⟩))
  go_ret
  have hr := HRB.out
  try simp at hr
  subst hr
  exact ⟨by first | rfl | simp, (Below.refl _ _).alloc (Nat.le_refl _) _⟩
 cases z2
 ·clear hk1
  as_aux_lemma =>
  go_enter Tryd.func12, Tryd.ntmps12
  go_wp2_with (first | (with_reducible refine (hf _).mono ?_; rintro e w' ⟨rfl, rfl⟩) | (with_reducible refine (ht _).mono ?_; rintro e w' ⟨rfl, rfl⟩) | (with_reducible refine (hb _).mono ?_; rintro e w' ⟨rfl, rfl⟩) | (with_reducible refine (hl _).mono ?_; rintro e w' ⟨rfl, rfl⟩) | (with_reducible refine (he1 _).mono ?_; rintro e w' ⟨rfl, rfl⟩) | (with_reducible refine (he2 _).mono ?_; rintro e w' ⟨rfl, rfl⟩))
  go_ret
  have hr := HRB.out
  try simp at hr
  subst hr
  exact ⟨by first | rfl | simp, (Below.refl _ _).alloc (Nat.le_refl _) _⟩
 by_cases hk3 : kind = 3
 ·subst hk3
  clear hk1 k1 k5 hk1'
  rw [if_pos (.inl rfl)] at HRB
  as_aux_lemma =>
  by_cases h8 : 8 < n
  ·have q8 : decide (8 < (n : Int)) = true := by simp; omega
   rw [show decide (n ≤ 8) = false by simp; omega] at HRB
   clear h8
   go_enter Tryd.func12, Tryd.ntmps12
   go_wp2_with (first | (with_reducible refine (hf _).mono ?_; rintro e w' ⟨rfl, rfl⟩) | (with_reducible refine (ht _).mono ?_; rintro e w' ⟨rfl, rfl⟩) | (with_reducible refine (hb _).mono ?_; rintro e w' ⟨rfl, rfl⟩) | (with_reducible refine (hl _).mono ?_; rintro e w' ⟨rfl, rfl⟩) | (with_reducible refine (he1 _).mono ?_; rintro e w' ⟨rfl, rfl⟩) | (with_reducible refine (he2 _).mono ?_; rintro e w' ⟨rfl, rfl⟩))
   go_ret
   have hr := HRB.out
   try simp at hr
   subst hr
   exact ⟨by first | rfl | simp, (Below.refl _ _).alloc (Nat.le_refl _) _⟩
  have q8 : decide (8 < (n : Int)) = false := by simp; omega
  go_enter Tryd.func12, Tryd.ntmps12
  go_wp2_with (first | (with_reducible refine (hf _).mono ?_; rintro e w' ⟨rfl, rfl⟩) | (with_reducible refine (ht _).mono ?_; rintro e w' ⟨rfl, rfl⟩) | (with_reducible refine (hb _).mono ?_; rintro e w' ⟨rfl, rfl⟩) | (with_reducible refine (hl _).mono ?_; rintro e w' ⟨rfl, rfl⟩) | (with_reducible refine (he1 _).mono ?_; rintro e w' ⟨rfl, rfl⟩) | (with_reducible refine (he2 _).mono ?_; rintro e w' ⟨rfl, rfl⟩))
  clear hf ht hb hl he1 he2
  obtain ⟨g0, kb⟩ := new_block w (.cells #[.int .i64 3, .int .i64 frm, .int .i64 to, .int .i64 boot, .int .i64 life, .int .i64 echo, .int .i64 elife, .slice ao n cap] 24)
  obtain ⟨W0, hW0⟩ : ∃ W0, W0 = w.alloc (.cells #[.int .i64 3, .int .i64 frm, .int .i64 to, .int .i64 boot, .int .i64 life, .int .i64 echo, .int .i64 elife, .slice ao n cap] 24) := ⟨_, rfl⟩
  rw [← hW0] at g0 kb ⊢
  clear hW0
  have HL0 := Lib.hid g0
  have KB1 := Lib.hid kb
  clear g0 kb e5 q8
  skip
  go_loopw [3] (fun i wr => ∃ k : Nat, k ≤ n ∧ i = .int .i64 (k : Int) ∧ Hid (∀ j, j < k → goodAt xs j = true) ∧ Hid (Below W0.heap.size W0 wr)) (fun i _ => n - (intOf i).toNat)
  case atStart => exact ⟨0, Nat.zero_le _, rfl, fun j hj => absurd hj (by omega), Below.refl _ _⟩
  case round =>
   obtain ⟨k, hk, rfl, HG, HB⟩ := hrel
   by_cases hlt : k < n
   ·have hkx : k < xs.length := by have := HN.out; omega
    obtain ⟨b, off, hao, hb, hcc⟩ := (HV.out.below (HL0.out.trans (HB.out.mono HL0.out.size)) (HL0.out.trans (HB.out.mono HL0.out.size)).size).at k hkx
    subst hao
    obtain ⟨x, hx⟩ : ∃ x, x = xs.getD k nilI := ⟨_, rfl⟩
    obtain ⟨y, hy⟩ : ∃ y, y = xs.getD (k - 1) nilI := ⟨_, rfl⟩
    have hrk : wr.rangeAt b (off + k * 19) x.cells := by rw [hx]; exact hcc k _ (getD_some hkx)
    have hc0 : wr.cell? ⟨b, off + k * 19, none⟩ = some (.string ⟨x.name.toArray⟩) := hrk 0 _ rfl
    have hc1 : wr.cell? ⟨b, off + (k - 1) * 19, none⟩ = some (.string ⟨y.name.toArray⟩) := by rw [hy]; exact hcc (k - 1) _ (getD_some (by omega)) 0 _ rfl
    have HNM : Hid (x.name.length ≤ 9223372036854775807) := by show _ ≤ _; rw [hx]; exact HNL.out _ (List.mem_of_getElem? (getD_some hkx))
    have HX := Lib.hid hx
    have HY := Lib.hid hy
    clear hx hy
    clear hcc hkx
    have hki : 0 ≤ (k : Int) ∧ (k : Int) < (n : Int) := by omega
    have c7 := cell_of_row _ _ 7 _ _ _ (stays KB1.out HB.out)
    go_upto_region 15 with (fail)
    obtain ⟨Wi, hWi⟩ : ∃ Wi, Wi = wr := ⟨_, rfl⟩
    have KB := Lib.hid (stays KB1.out HB.out)
    have HBi := Lib.hid HB.out
    have hbW := hb
    rw [← hWi] at hrk hc0 hc1 KB HBi hbW ⊢
    clear HB hWi c7
    have hki1 : 0 < k → 0 ≤ (k : Int) - 1 ∧ (k : Int) - 1 < (n : Int) := fun _ => by omega
    have htn : 0 < k → ((k : Int) - 1).toNat = k - 1 := fun _ => by omega
    have hsub : 0 < k → IntKind.i64.wrap ((k : Int) - 1) = (k : Int) - 1 := fun _ => IntWalk.i64_in _ (by omega)
    clear hlt hk
    cases hfi : fitI x with
    | false =>
     as_aux_lemma =>
     have HGK : Hid (goodAt xs k = false) := by show _ = _; unfold goodAt; rw [← HX.out, ← HY.out]; rw [hfi]; rfl
     have hcon : ∀ W, Calls Tryd.prog 18 #[.agg x.cells.toArray] W fun e w' => e = .returned (.bool false) ∧ Below W.heap.size W w' := fun W => by
      have := ritem_any x W HNM.out
      rw [hfi] at this
      exact this
     clear hki1 htn hsub hc1 hfi
     refine wpIn_wide (n := 5).1 (wpIn_flowM (F0 := Fence.wide) (n0 := 5) (fun _ => trivial) (fun h => by cases h) (by kernel_rfl) (by kernel_rfl) 29 29 (by kernel_rfl) (fun j => ([0, 1, 2, 3, 4, 5, 6, 7, 8, 9, 10, 11, 12, 13, 14, 15, 16, 17, 18, 19, 20, 21, 22, 23, 24, 25, 26, 27, 28] : List Nat).getD j 0) (fun j => ([87, 88, 89, 90, 91, 92, 93, 94, 95, 96, 97, 98, 99, 100, 101, 102, 103, 104, 105, 106, 107, 108, 109, 110, 111, 112, 113, 114, 115] : List Nat).getD j 0) (by kernel_rfl) (by kernel_rfl) (by kernel_rfl) (by kernel_rfl) (by kernel_rfl) (by kernel_rfl) (by kernel_rfl) (fun j zv => ([(fun zv => zv = (.pointer (some ⟨w.heap.size, 7, none⟩))), (fun zv => zv = (.slice (some ⟨b, off, none⟩) n cap)), (fun zv => zv = (.int .i64 (k : Int))), (fun zv => zv = (.pointer (some ⟨b, off + k * 19, none⟩))), (fun zv => zv = (.agg x.cells.toArray)), (fun zv => zv = (.bool false)), (fun zv => zv = (.bool true)), (fun zv => zv = (.bool true)), (fun zv => zv = undef), (fun zv => zv = undef), (fun zv => zv = undef), (fun zv => zv = undef), (fun zv => zv = undef), (fun zv => zv = undef), (fun zv => zv = undef), (fun zv => zv = undef), (fun zv => zv = undef), (fun zv => zv = undef), (fun zv => zv = undef), (fun zv => zv = undef), (fun zv => zv = undef), (fun zv => zv = undef), (fun zv => zv = undef), (fun zv => zv = undef), (fun zv => zv = undef), (fun zv => zv = undef), (fun zv => zv = undef), (fun zv => zv = undef), (fun zv => zv = (.bool true))] : List (Value → Prop)).getD j (fun _ => True) zv) (fun _ _ W => Below Wi.heap.size Wi W) ?h0q5 ?stepq5 ?finq5)
     case h0q5 => exact fun _ => bdN Wi.heap.size Wi 1
     case stepq5 =>
      intro i o a W d vs hi ho hdi hJ hf hr hF
      replace hi : i < 29 := hi
      rcases (show i = 0 ∨ i = 1 ∨ i = 2 ∨ i = 3 ∨ i = 4 ∨ i = 5 ∨ i = 6 ∨ i = 7 ∨ i = 8 ∨ i = 9 ∨ i = 10 ∨ i = 11 ∨ i = 12 ∨ i = 13 ∨ i = 14 ∨ i = 15 ∨ i = 16 ∨ i = 17 ∨ i = 18 ∨ i = 19 ∨ i = 20 ∨ i = 21 ∨ i = 22 ∨ i = 23 ∨ i = 24 ∨ i = 25 ∨ i = 26 ∨ i = 27 ∨ i = 28 by omega) with rfl | rfl | rfl | rfl | rfl | rfl | rfl | rfl | rfl | rfl | rfl | rfl | rfl | rfl | rfl | rfl | rfl | rfl | rfl | rfl | rfl | rfl | rfl | rfl | rfl | rfl | rfl | rfl | rfl
      ·replace ho := op_at ho (by rfl)
       subst ho
       have f1 : a.tmps.getD 1 undef = (.pointer (some ⟨w.heap.size, 0, none⟩)) := hf 1 (by kernel_rfl)
       exact .inl ⟨(fun k b h => by cases h), .inl ⟨0, by decide, rfl, (.pointer (some ⟨w.heap.size, 7, none⟩)), W, (by simp [go_sem, Act.eval, f1]), rfl, hJ⟩⟩
      ·replace ho := op_at ho (by rfl)
       subst ho
       have d0 : a.tmps.getD 87 undef = (.pointer (some ⟨w.heap.size, 7, none⟩)) := by have h1 := hF 0 (by decide) (hr 0 (by kernel_rfl)); exact h1.2.trans h1.1
       have c7 := cell_of_row _ _ 7 _ _ _ (stays KB.out hJ)
       exact .inl ⟨(fun k b h => by cases h), .inl ⟨1, by decide, rfl, (.slice (some ⟨b, off, none⟩) n cap), W, (by simp [go_sem, Act.eval, d0, c7]), rfl, hJ⟩⟩
      ·replace ho := op_at ho (by rfl)
       subst ho
       have f3 : a.tmps.getD 3 undef = (.int .i64 (k : Int)) := hf 3 (by kernel_rfl)
       exact .inl ⟨(fun k b h => by cases h), .inl ⟨2, by decide, rfl, (.int .i64 (k : Int)), W, (by simp [go_sem, Act.eval, f3]), rfl, hJ⟩⟩
      ·replace ho := op_at ho (by rfl)
       subst ho
       have d1 : a.tmps.getD 88 undef = (.slice (some ⟨b, off, none⟩) n cap) := by have h1 := hF 1 (by decide) (hr 1 (by kernel_rfl)); exact h1.2.trans h1.1
       have d2 : a.tmps.getD 89 undef = (.int .i64 (k : Int)) := by have h1 := hF 2 (by decide) (hr 2 (by kernel_rfl)); exact h1.2.trans h1.1
       exact .inl ⟨(fun k b h => by cases h), .inl ⟨3, by decide, rfl, (.pointer (some ⟨b, off + k * 19, none⟩)), W, (by simp [go_sem, Act.eval, d1, d2, hki]), rfl, hJ⟩⟩
      ·replace ho := op_at ho (by rfl)
       subst ho
       have d3 : a.tmps.getD 90 undef = (.pointer (some ⟨b, off + k * 19, none⟩)) := by have h1 := hF 3 (by decide) (hr 3 (by kernel_rfl)); exact h1.2.trans h1.1
       exact .inl ⟨(fun k b h => by cases h), .inl ⟨4, by decide, rfl, (.agg x.cells.toArray), W, (exec_load_mid 38 _ rfl b (off + k * 19) _ (.struct (Tryd.prog.fieldsOf 38)) (show a.eval (.tmp 90) = _ from d3) (fun j u hu => (hJ.cell (p := ⟨b, off + k * 19 + j, none⟩) hbW).trans (hrk j u hu)) (by kernel_rfl) rfl (by kernel_rfl)), rfl, hJ⟩⟩
      ·replace ho := op_at ho (by rfl)
       subst ho
       have d4 : a.tmps.getD 91 undef = (.agg x.cells.toArray) := by have h1 := hF 4 (by decide) (hr 4 (by kernel_rfl)); exact h1.2.trans h1.1
       refine .inl ⟨(fun k b h => by cases h), .inr (.inr ⟨5, by decide, rfl, 18, #[(.agg x.cells.toArray)], W, (by simp [go_sem, Act.eval, d4]), ?_⟩)⟩
       refine (callsIn_wide.2 (hcon W)).mono ?_
       rintro e W' ⟨rfl, hBe⟩
       exact ⟨_, rfl, rfl, hJ.trans (hBe.mono hJ.size)⟩
      ·replace ho := op_at ho (by rfl)
       subst ho
       have d5 : a.tmps.getD 92 undef = (.bool false) := by have h1 := hF 5 (by decide) (hr 5 (by kernel_rfl)); exact h1.2.trans h1.1
       exact .inl ⟨(fun k b h => by cases h), .inl ⟨6, by decide, rfl, (.bool true), W, (by simp [go_sem, Act.eval, d5]), rfl, hJ⟩⟩
      ·replace ho := op_at ho (by rfl)
       subst ho
       have d6 : a.tmps.getD 93 undef = (.bool true) := by have h1 := hF 6 (by decide) (hr 6 (by kernel_rfl)); exact h1.2.trans h1.1
       exact .inl ⟨(fun k b h => by cases h), .inl ⟨7, by decide, rfl, (.bool true), W, (by simp [go_sem, Act.eval, d6]), rfl, hJ⟩⟩
      ·replace ho := op_at ho (by rfl)
       subst ho
       have d7 : a.tmps.getD 94 undef = (.bool true) := by have h1 := hF 7 (by decide) (hr 7 (by kernel_rfl)); exact h1.2.trans h1.1
       exact .inr ⟨7, false, 7, rfl, by decide, rfl, (fun hc => by have hc2 := d7.symm.trans hc; first | (cases hc2; done) | simp [undef] at hc2), .inl ⟨8, by decide, rfl, rfl, hJ⟩⟩
      ·replace ho := op_at ho (by rfl)
       subst ho
       have d7 : a.tmps.getD 94 undef = (.bool true) := by have h1 := hF 7 (by decide) (hr 7 (by kernel_rfl)); exact h1.2.trans h1.1
       exact .inr ⟨7, false, 7, rfl, by decide, rfl, (fun hc => by have hc2 := d7.symm.trans hc; first | (cases hc2; done) | simp [undef] at hc2), .inl ⟨9, by decide, rfl, rfl, hJ⟩⟩
      ·replace ho := op_at ho (by rfl)
       subst ho
       have d7 : a.tmps.getD 94 undef = (.bool true) := by have h1 := hF 7 (by decide) (hr 7 (by kernel_rfl)); exact h1.2.trans h1.1
       exact .inr ⟨7, false, 7, rfl, by decide, rfl, (fun hc => by have hc2 := d7.symm.trans hc; first | (cases hc2; done) | simp [undef] at hc2), .inl ⟨10, by decide, rfl, rfl, hJ⟩⟩
      ·replace ho := op_at ho (by rfl)
       subst ho
       have d10 : a.tmps.getD 97 undef = undef := by have h1 := hF 10 (by decide) (hr 10 (by kernel_rfl)); exact h1.2.trans h1.1
       exact .inr ⟨10, true, 10, rfl, by decide, rfl, (fun hc => by have hc2 := d10.symm.trans hc; first | (cases hc2; done) | simp [undef] at hc2), .inl ⟨11, by decide, rfl, rfl, hJ⟩⟩
      ·replace ho := op_at ho (by rfl)
       subst ho
       have d10 : a.tmps.getD 97 undef = undef := by have h1 := hF 10 (by decide) (hr 10 (by kernel_rfl)); exact h1.2.trans h1.1
       exact .inr ⟨10, true, 10, rfl, by decide, rfl, (fun hc => by have hc2 := d10.symm.trans hc; first | (cases hc2; done) | simp [undef] at hc2), .inl ⟨12, by decide, rfl, rfl, hJ⟩⟩
      ·replace ho := op_at ho (by rfl)
       subst ho
       have d10 : a.tmps.getD 97 undef = undef := by have h1 := hF 10 (by decide) (hr 10 (by kernel_rfl)); exact h1.2.trans h1.1
       exact .inr ⟨10, true, 10, rfl, by decide, rfl, (fun hc => by have hc2 := d10.symm.trans hc; first | (cases hc2; done) | simp [undef] at hc2), .inl ⟨13, by decide, rfl, rfl, hJ⟩⟩
      ·replace ho := op_at ho (by rfl)
       subst ho
       have d10 : a.tmps.getD 97 undef = undef := by have h1 := hF 10 (by decide) (hr 10 (by kernel_rfl)); exact h1.2.trans h1.1
       exact .inr ⟨10, true, 10, rfl, by decide, rfl, (fun hc => by have hc2 := d10.symm.trans hc; first | (cases hc2; done) | simp [undef] at hc2), .inl ⟨14, by decide, rfl, rfl, hJ⟩⟩
      ·replace ho := op_at ho (by rfl)
       subst ho
       have d10 : a.tmps.getD 97 undef = undef := by have h1 := hF 10 (by decide) (hr 10 (by kernel_rfl)); exact h1.2.trans h1.1
       exact .inr ⟨10, true, 10, rfl, by decide, rfl, (fun hc => by have hc2 := d10.symm.trans hc; first | (cases hc2; done) | simp [undef] at hc2), .inl ⟨15, by decide, rfl, rfl, hJ⟩⟩
      ·replace ho := op_at ho (by rfl)
       subst ho
       have d10 : a.tmps.getD 97 undef = undef := by have h1 := hF 10 (by decide) (hr 10 (by kernel_rfl)); exact h1.2.trans h1.1
       exact .inr ⟨10, true, 10, rfl, by decide, rfl, (fun hc => by have hc2 := d10.symm.trans hc; first | (cases hc2; done) | simp [undef] at hc2), .inl ⟨16, by decide, rfl, rfl, hJ⟩⟩
      ·replace ho := op_at ho (by rfl)
       subst ho
       have d10 : a.tmps.getD 97 undef = undef := by have h1 := hF 10 (by decide) (hr 10 (by kernel_rfl)); exact h1.2.trans h1.1
       exact .inr ⟨10, true, 10, rfl, by decide, rfl, (fun hc => by have hc2 := d10.symm.trans hc; first | (cases hc2; done) | simp [undef] at hc2), .inl ⟨17, by decide, rfl, rfl, hJ⟩⟩
      ·replace ho := op_at ho (by rfl)
       subst ho
       have d10 : a.tmps.getD 97 undef = undef := by have h1 := hF 10 (by decide) (hr 10 (by kernel_rfl)); exact h1.2.trans h1.1
       exact .inr ⟨10, true, 10, rfl, by decide, rfl, (fun hc => by have hc2 := d10.symm.trans hc; first | (cases hc2; done) | simp [undef] at hc2), .inl ⟨18, by decide, rfl, rfl, hJ⟩⟩
      ·replace ho := op_at ho (by rfl)
       subst ho
       have d10 : a.tmps.getD 97 undef = undef := by have h1 := hF 10 (by decide) (hr 10 (by kernel_rfl)); exact h1.2.trans h1.1
       exact .inr ⟨10, true, 10, rfl, by decide, rfl, (fun hc => by have hc2 := d10.symm.trans hc; first | (cases hc2; done) | simp [undef] at hc2), .inl ⟨19, by decide, rfl, rfl, hJ⟩⟩
      ·replace ho := op_at ho (by rfl)
       subst ho
       have d10 : a.tmps.getD 97 undef = undef := by have h1 := hF 10 (by decide) (hr 10 (by kernel_rfl)); exact h1.2.trans h1.1
       exact .inr ⟨10, true, 10, rfl, by decide, rfl, (fun hc => by have hc2 := d10.symm.trans hc; first | (cases hc2; done) | simp [undef] at hc2), .inl ⟨20, by decide, rfl, rfl, hJ⟩⟩
      ·replace ho := op_at ho (by rfl)
       subst ho
       have d10 : a.tmps.getD 97 undef = undef := by have h1 := hF 10 (by decide) (hr 10 (by kernel_rfl)); exact h1.2.trans h1.1
       exact .inr ⟨10, true, 10, rfl, by decide, rfl, (fun hc => by have hc2 := d10.symm.trans hc; first | (cases hc2; done) | simp [undef] at hc2), .inl ⟨21, by decide, rfl, rfl, hJ⟩⟩
      ·replace ho := op_at ho (by rfl)
       subst ho
       have d10 : a.tmps.getD 97 undef = undef := by have h1 := hF 10 (by decide) (hr 10 (by kernel_rfl)); exact h1.2.trans h1.1
       exact .inr ⟨10, true, 10, rfl, by decide, rfl, (fun hc => by have hc2 := d10.symm.trans hc; first | (cases hc2; done) | simp [undef] at hc2), .inl ⟨22, by decide, rfl, rfl, hJ⟩⟩
      ·replace ho := op_at ho (by rfl)
       subst ho
       have d10 : a.tmps.getD 97 undef = undef := by have h1 := hF 10 (by decide) (hr 10 (by kernel_rfl)); exact h1.2.trans h1.1
       exact .inr ⟨10, true, 10, rfl, by decide, rfl, (fun hc => by have hc2 := d10.symm.trans hc; first | (cases hc2; done) | simp [undef] at hc2), .inl ⟨23, by decide, rfl, rfl, hJ⟩⟩
      ·replace ho := op_at ho (by rfl)
       subst ho
       have d10 : a.tmps.getD 97 undef = undef := by have h1 := hF 10 (by decide) (hr 10 (by kernel_rfl)); exact h1.2.trans h1.1
       exact .inr ⟨10, true, 10, rfl, by decide, rfl, (fun hc => by have hc2 := d10.symm.trans hc; first | (cases hc2; done) | simp [undef] at hc2), .inl ⟨24, by decide, rfl, rfl, hJ⟩⟩
      ·replace ho := op_at ho (by rfl)
       subst ho
       have d10 : a.tmps.getD 97 undef = undef := by have h1 := hF 10 (by decide) (hr 10 (by kernel_rfl)); exact h1.2.trans h1.1
       exact .inr ⟨10, true, 10, rfl, by decide, rfl, (fun hc => by have hc2 := d10.symm.trans hc; first | (cases hc2; done) | simp [undef] at hc2), .inl ⟨25, by decide, rfl, rfl, hJ⟩⟩
      ·replace ho := op_at ho (by rfl)
       subst ho
       have d10 : a.tmps.getD 97 undef = undef := by have h1 := hF 10 (by decide) (hr 10 (by kernel_rfl)); exact h1.2.trans h1.1
       exact .inr ⟨10, true, 10, rfl, by decide, rfl, (fun hc => by have hc2 := d10.symm.trans hc; first | (cases hc2; done) | simp [undef] at hc2), .inl ⟨26, by decide, rfl, rfl, hJ⟩⟩
      ·replace ho := op_at ho (by rfl)
       subst ho
       have d7 : a.tmps.getD 94 undef = (.bool true) := by have h1 := hF 7 (by decide) (hr 7 (by kernel_rfl)); exact h1.2.trans h1.1
       exact .inr ⟨7, false, 7, rfl, by decide, rfl, (fun hc => by have hc2 := d7.symm.trans hc; first | (cases hc2; done) | simp [undef] at hc2), .inl ⟨27, by decide, rfl, rfl, hJ⟩⟩
      ·replace ho := op_at ho (by rfl)
       subst ho
       have d7 : a.tmps.getD 94 undef = (.bool true) := by have h1 := hF 7 (by decide) (hr 7 (by kernel_rfl)); exact h1.2.trans h1.1
       exact .inl ⟨(fun k b h => by cases h), .inl ⟨28, by decide, rfl, (.bool true), W, (by simp [go_sem, Act.eval, d7]), rfl, hJ⟩⟩
     case finq5 =>
      intro d vs Wq5 hall hJ hF
      have h0 : vs 0 = (.pointer (some ⟨w.heap.size, 7, none⟩)) := hF 0 (by decide)
      have h1 : vs 1 = (.slice (some ⟨b, off, none⟩) n cap) := hF 1 (by decide)
      have h2 : vs 2 = (.int .i64 (k : Int)) := hF 2 (by decide)
      have h3 : vs 3 = (.pointer (some ⟨b, off + k * 19, none⟩)) := hF 3 (by decide)
      have h4 : vs 4 = (.agg x.cells.toArray) := hF 4 (by decide)
      have h5 : vs 5 = (.bool false) := hF 5 (by decide)
      have h6 : vs 6 = (.bool true) := hF 6 (by decide)
      have h7 : vs 7 = (.bool true) := hF 7 (by decide)
      have h8 : vs 8 = undef := hF 8 (by decide)
      have h9 : vs 9 = undef := hF 9 (by decide)
      have h10 : vs 10 = undef := hF 10 (by decide)
      have h11 : vs 11 = undef := hF 11 (by decide)
      have h12 : vs 12 = undef := hF 12 (by decide)
      have h13 : vs 13 = undef := hF 13 (by decide)
      have h14 : vs 14 = undef := hF 14 (by decide)
      have h15 : vs 15 = undef := hF 15 (by decide)
      have h16 : vs 16 = undef := hF 16 (by decide)
      have h17 : vs 17 = undef := hF 17 (by decide)
      have h18 : vs 18 = undef := hF 18 (by decide)
      have h19 : vs 19 = undef := hF 19 (by decide)
      have h20 : vs 20 = undef := hF 20 (by decide)
      have h21 : vs 21 = undef := hF 21 (by decide)
      have h22 : vs 22 = undef := hF 22 (by decide)
      have h23 : vs 23 = undef := hF 23 (by decide)
      have h24 : vs 24 = undef := hF 24 (by decide)
      have h25 : vs 25 = undef := hF 25 (by decide)
      have h26 : vs 26 = undef := hF 26 (by decide)
      have h27 : vs 27 = undef := hF 27 (by decide)
      have h28 : vs 28 = (.bool true) := hF 28 (by decide)
      clear hF
      show (_ : Exit → Act → World → Prop) Exit.normal (puts _ vs 29 _) Wq5
      simp only [puts, h0, h1, h2, h3, h4, h5, h6, h7, h8, h9, h10, h11, h12, h13, h14, h15, h16, h17, h18, h19, h20, h21, h22, h23, h24, h25, h26, h27, h28, List.getD_cons_zero, List.getD_cons_succ]
      clear h0 h1 h2 h3 h4 h5 h6 h7 h8 h9 h10 h11 h12 h13 h14 h15 h16 h17 h18 h19 h20 h21 h22 h23 h24 h25 h26 h27 h28
      go_simp
      have hB9 : Below Wi.heap.size Wi Wq5 := hJ
      generalize Wq5 = W9 at *
      clear hJ hall
      have hr := HRB.out
      rw [itemsB_f k (by have := HN.out; omega) HGK.out] at hr
      simp at hr
      subst hr
      have LF := HL0.out.trans ((HBi.out.trans (hB9.mono HBi.out.size)).mono HL0.out.size)
      go_wp2
      go_ret
      exact ⟨rfl, LF⟩
    | true =>
     by_cases hp : 0 < k
     ·replace hki1 := hki1 hp
      replace htn := htn hp
      replace hsub := hsub hp
      have hk1n : Hid (((k : Int) < 1) = False) := by show _ = _; simp; omega
      replace hp := Lib.hid hp
      cases hlt' : ltN y.name x.name with
      | false =>
       as_aux_lemma =>
       have HLT : Hid (Op.bytesLess (⟨y.name.toArray⟩ : ByteArray).toList (⟨x.name.toArray⟩ : ByteArray).toList = false) := hlt'
       have HGK : Hid (goodAt xs k = false) := by show _ = _; unfold goodAt; rw [← HX.out, ← HY.out]; rw [hfi, show (k == 0) = false by have := hp.out; simp; omega, hlt']; rfl
       have hcon : ∀ W, Calls Tryd.prog 18 #[.agg x.cells.toArray] W fun e w' => e = .returned (.bool true) ∧ Below W.heap.size W w' := fun W => by
        have := ritem_any x W HNM.out
        rw [hfi] at this
        exact this
       clear hlt' hfi
       refine wpIn_wide (n := 5).1 (wpIn_flowM (F0 := Fence.wide) (n0 := 5) (fun _ => trivial) (fun h => by cases h) (by kernel_rfl) (by kernel_rfl) 29 29 (by kernel_rfl) (fun j => ([0, 1, 2, 3, 4, 5, 6, 7, 8, 9, 10, 11, 12, 13, 14, 15, 16, 17, 18, 19, 20, 21, 22, 23, 24, 25, 26, 27, 28] : List Nat).getD j 0) (fun j => ([87, 88, 89, 90, 91, 92, 93, 94, 95, 96, 97, 98, 99, 100, 101, 102, 103, 104, 105, 106, 107, 108, 109, 110, 111, 112, 113, 114, 115] : List Nat).getD j 0) (by kernel_rfl) (by kernel_rfl) (by kernel_rfl) (by kernel_rfl) (by kernel_rfl) (by kernel_rfl) (by kernel_rfl) (fun j zv => ([(fun zv => zv = (.pointer (some ⟨w.heap.size, 7, none⟩))), (fun zv => zv = (.slice (some ⟨b, off, none⟩) n cap)), (fun zv => zv = (.int .i64 (k : Int))), (fun zv => zv = (.pointer (some ⟨b, off + k * 19, none⟩))), (fun zv => zv = (.agg x.cells.toArray)), (fun zv => zv = (.bool true)), (fun zv => zv = (.bool false)), (fun zv => zv = (.bool false)), (fun zv => zv = (.int .i64 (k : Int))), (fun zv => zv = (.bool true)), (fun zv => zv = (.bool true)), (fun zv => zv = (.pointer (some ⟨w.heap.size, 7, none⟩))), (fun zv => zv = (.slice (some ⟨b, off, none⟩) n cap)), (fun zv => zv = (.int .i64 (k : Int))), (fun zv => zv = (.int .i64 ((k : Int) - 1))), (fun zv => zv = (.pointer (some ⟨b, off + (k - 1) * 19, none⟩))), (fun zv => zv = (.pointer (some ⟨b, off + (k - 1) * 19, none⟩))), (fun zv => zv = (.pointer (some ⟨b, off + (k - 1) * 19, none⟩))), (fun zv => zv = (.string ⟨y.name.toArray⟩)), (fun zv => zv = (.pointer (some ⟨w.heap.size, 7, none⟩))), (fun zv => zv = (.slice (some ⟨b, off, none⟩) n cap)), (fun zv => zv = (.int .i64 (k : Int))), (fun zv => zv = (.pointer (some ⟨b, off + k * 19, none⟩))), (fun zv => zv = (.pointer (some ⟨b, off + k * 19, none⟩))), (fun zv => zv = (.pointer (some ⟨b, off + k * 19, none⟩))), (fun zv => zv = (.string ⟨x.name.toArray⟩)), (fun zv => zv = (.bool (!false))), (fun zv => zv = (.bool true)), (fun zv => zv = (.bool true))] : List (Value → Prop)).getD j (fun _ => True) zv) (fun _ _ W => Below Wi.heap.size Wi W) ?h0q6 ?stepq6 ?finq6)
       case h0q6 => exact fun _ => bdN Wi.heap.size Wi 1
       case stepq6 =>
        intro i o a W d vs hi ho hdi hJ hf hr hF
        replace hi : i < 29 := hi
        rcases (show i = 0 ∨ i = 1 ∨ i = 2 ∨ i = 3 ∨ i = 4 ∨ i = 5 ∨ i = 6 ∨ i = 7 ∨ i = 8 ∨ i = 9 ∨ i = 10 ∨ i = 11 ∨ i = 12 ∨ i = 13 ∨ i = 14 ∨ i = 15 ∨ i = 16 ∨ i = 17 ∨ i = 18 ∨ i = 19 ∨ i = 20 ∨ i = 21 ∨ i = 22 ∨ i = 23 ∨ i = 24 ∨ i = 25 ∨ i = 26 ∨ i = 27 ∨ i = 28 by omega) with rfl | rfl | rfl | rfl | rfl | rfl | rfl | rfl | rfl | rfl | rfl | rfl | rfl | rfl | rfl | rfl | rfl | rfl | rfl | rfl | rfl | rfl | rfl | rfl | rfl | rfl | rfl | rfl | rfl
        ·replace ho := op_at ho (by rfl)
         subst ho
         have f1 : a.tmps.getD 1 undef = (.pointer (some ⟨w.heap.size, 0, none⟩)) := hf 1 (by kernel_rfl)
         exact .inl ⟨(fun k b h => by cases h), .inl ⟨0, by decide, rfl, (.pointer (some ⟨w.heap.size, 7, none⟩)), W, (by simp [go_sem, Act.eval, f1]), rfl, hJ⟩⟩
        ·replace ho := op_at ho (by rfl)
         subst ho
         have d0 : a.tmps.getD 87 undef = (.pointer (some ⟨w.heap.size, 7, none⟩)) := by have h1 := hF 0 (by decide) (hr 0 (by kernel_rfl)); exact h1.2.trans h1.1
         have c7 := cell_of_row _ _ 7 _ _ _ (stays KB.out hJ)
         exact .inl ⟨(fun k b h => by cases h), .inl ⟨1, by decide, rfl, (.slice (some ⟨b, off, none⟩) n cap), W, (by simp [go_sem, Act.eval, d0, c7]), rfl, hJ⟩⟩
        ·replace ho := op_at ho (by rfl)
         subst ho
         have f3 : a.tmps.getD 3 undef = (.int .i64 (k : Int)) := hf 3 (by kernel_rfl)
         exact .inl ⟨(fun k b h => by cases h), .inl ⟨2, by decide, rfl, (.int .i64 (k : Int)), W, (by simp [go_sem, Act.eval, f3]), rfl, hJ⟩⟩
        ·replace ho := op_at ho (by rfl)
         subst ho
         have d1 : a.tmps.getD 88 undef = (.slice (some ⟨b, off, none⟩) n cap) := by have h1 := hF 1 (by decide) (hr 1 (by kernel_rfl)); exact h1.2.trans h1.1
         have d2 : a.tmps.getD 89 undef = (.int .i64 (k : Int)) := by have h1 := hF 2 (by decide) (hr 2 (by kernel_rfl)); exact h1.2.trans h1.1
         exact .inl ⟨(fun k b h => by cases h), .inl ⟨3, by decide, rfl, (.pointer (some ⟨b, off + k * 19, none⟩)), W, (by simp [go_sem, Act.eval, d1, d2, hki]), rfl, hJ⟩⟩
        ·replace ho := op_at ho (by rfl)
         subst ho
         have d3 : a.tmps.getD 90 undef = (.pointer (some ⟨b, off + k * 19, none⟩)) := by have h1 := hF 3 (by decide) (hr 3 (by kernel_rfl)); exact h1.2.trans h1.1
         exact .inl ⟨(fun k b h => by cases h), .inl ⟨4, by decide, rfl, (.agg x.cells.toArray), W, (exec_load_mid 38 _ rfl b (off + k * 19) _ (.struct (Tryd.prog.fieldsOf 38)) (show a.eval (.tmp 90) = _ from d3) (fun j u hu => (hJ.cell (p := ⟨b, off + k * 19 + j, none⟩) hbW).trans (hrk j u hu)) (by kernel_rfl) rfl (by kernel_rfl)), rfl, hJ⟩⟩
        ·replace ho := op_at ho (by rfl)
         subst ho
         have d4 : a.tmps.getD 91 undef = (.agg x.cells.toArray) := by have h1 := hF 4 (by decide) (hr 4 (by kernel_rfl)); exact h1.2.trans h1.1
         refine .inl ⟨(fun k b h => by cases h), .inr (.inr ⟨5, by decide, rfl, 18, #[(.agg x.cells.toArray)], W, (by simp [go_sem, Act.eval, d4]), ?_⟩)⟩
         refine (callsIn_wide.2 (hcon W)).mono ?_
         rintro e W' ⟨rfl, hBe⟩
         exact ⟨_, rfl, rfl, hJ.trans (hBe.mono hJ.size)⟩
        ·replace ho := op_at ho (by rfl)
         subst ho
         have d5 : a.tmps.getD 92 undef = (.bool true) := by have h1 := hF 5 (by decide) (hr 5 (by kernel_rfl)); exact h1.2.trans h1.1
         exact .inl ⟨(fun k b h => by cases h), .inl ⟨6, by decide, rfl, (.bool false), W, (by simp [go_sem, Act.eval, d5]), rfl, hJ⟩⟩
        ·replace ho := op_at ho (by rfl)
         subst ho
         have d6 : a.tmps.getD 93 undef = (.bool false) := by have h1 := hF 6 (by decide) (hr 6 (by kernel_rfl)); exact h1.2.trans h1.1
         exact .inl ⟨(fun k b h => by cases h), .inl ⟨7, by decide, rfl, (.bool false), W, (by simp [go_sem, Act.eval, d6]), rfl, hJ⟩⟩
        ·replace ho := op_at ho (by rfl)
         subst ho
         have d7 : a.tmps.getD 94 undef = (.bool false) := by have h1 := hF 7 (by decide) (hr 7 (by kernel_rfl)); exact h1.2.trans h1.1
         have f3 : a.tmps.getD 3 undef = (.int .i64 (k : Int)) := hf 3 (by kernel_rfl)
         exact .inl ⟨(fun k b h => by cases h; exact ⟨7, by decide, rfl, d7⟩), .inl ⟨8, by decide, rfl, (.int .i64 (k : Int)), W, (by simp [go_sem, Act.eval, d7, f3]), rfl, hJ⟩⟩
        ·replace ho := op_at ho (by rfl)
         subst ho
         have d8 : a.tmps.getD 95 undef = (.int .i64 (k : Int)) := by have h1 := hF 8 (by decide) (hr 8 (by kernel_rfl)); exact h1.2.trans h1.1
         have d7 : a.tmps.getD 94 undef = (.bool false) := by have h1 := hF 7 (by decide) (hr 7 (by kernel_rfl)); exact h1.2.trans h1.1
         exact .inl ⟨(fun k b h => by cases h; exact ⟨7, by decide, rfl, d7⟩), .inl ⟨9, by decide, rfl, (.bool true), W, (by simp [go_sem, Act.eval, d8, d7, hp.out]), rfl, hJ⟩⟩
        ·replace ho := op_at ho (by rfl)
         subst ho
         have d9 : a.tmps.getD 96 undef = (.bool true) := by have h1 := hF 9 (by decide) (hr 9 (by kernel_rfl)); exact h1.2.trans h1.1
         have d7 : a.tmps.getD 94 undef = (.bool false) := by have h1 := hF 7 (by decide) (hr 7 (by kernel_rfl)); exact h1.2.trans h1.1
         exact .inl ⟨(fun k b h => by cases h; exact ⟨7, by decide, rfl, d7⟩), .inl ⟨10, by decide, rfl, (.bool true), W, (by simp [go_sem, Act.eval, d9, d7]), rfl, hJ⟩⟩
        ·replace ho := op_at ho (by rfl)
         subst ho
         have d10 : a.tmps.getD 97 undef = (.bool true) := by have h1 := hF 10 (by decide) (hr 10 (by kernel_rfl)); exact h1.2.trans h1.1
         have f1 : a.tmps.getD 1 undef = (.pointer (some ⟨w.heap.size, 0, none⟩)) := hf 1 (by kernel_rfl)
         exact .inl ⟨(fun k b h => by cases h; exact ⟨10, by decide, rfl, d10⟩), .inl ⟨11, by decide, rfl, (.pointer (some ⟨w.heap.size, 7, none⟩)), W, (by simp [go_sem, Act.eval, d10, f1]), rfl, hJ⟩⟩
        ·replace ho := op_at ho (by rfl)
         subst ho
         have d11 : a.tmps.getD 98 undef = (.pointer (some ⟨w.heap.size, 7, none⟩)) := by have h1 := hF 11 (by decide) (hr 11 (by kernel_rfl)); exact h1.2.trans h1.1
         have d10 : a.tmps.getD 97 undef = (.bool true) := by have h1 := hF 10 (by decide) (hr 10 (by kernel_rfl)); exact h1.2.trans h1.1
         have c7 := cell_of_row _ _ 7 _ _ _ (stays KB.out hJ)
         exact .inl ⟨(fun k b h => by cases h; exact ⟨10, by decide, rfl, d10⟩), .inl ⟨12, by decide, rfl, (.slice (some ⟨b, off, none⟩) n cap), W, (by simp [go_sem, Act.eval, d11, d10, c7]), rfl, hJ⟩⟩
        ·replace ho := op_at ho (by rfl)
         subst ho
         have d10 : a.tmps.getD 97 undef = (.bool true) := by have h1 := hF 10 (by decide) (hr 10 (by kernel_rfl)); exact h1.2.trans h1.1
         have f3 : a.tmps.getD 3 undef = (.int .i64 (k : Int)) := hf 3 (by kernel_rfl)
         exact .inl ⟨(fun k b h => by cases h; exact ⟨10, by decide, rfl, d10⟩), .inl ⟨13, by decide, rfl, (.int .i64 (k : Int)), W, (by simp [go_sem, Act.eval, d10, f3]), rfl, hJ⟩⟩
        ·replace ho := op_at ho (by rfl)
         subst ho
         have d13 : a.tmps.getD 100 undef = (.int .i64 (k : Int)) := by have h1 := hF 13 (by decide) (hr 13 (by kernel_rfl)); exact h1.2.trans h1.1
         have d10 : a.tmps.getD 97 undef = (.bool true) := by have h1 := hF 10 (by decide) (hr 10 (by kernel_rfl)); exact h1.2.trans h1.1
         exact .inl ⟨(fun k b h => by cases h; exact ⟨10, by decide, rfl, d10⟩), .inl ⟨14, by decide, rfl, (.int .i64 ((k : Int) - 1)), W, (by simp [go_sem, Act.eval, d13, d10, hsub]), rfl, hJ⟩⟩
        ·replace ho := op_at ho (by rfl)
         subst ho
         have d12 : a.tmps.getD 99 undef = (.slice (some ⟨b, off, none⟩) n cap) := by have h1 := hF 12 (by decide) (hr 12 (by kernel_rfl)); exact h1.2.trans h1.1
         have d14 : a.tmps.getD 101 undef = (.int .i64 ((k : Int) - 1)) := by have h1 := hF 14 (by decide) (hr 14 (by kernel_rfl)); exact h1.2.trans h1.1
         have d10 : a.tmps.getD 97 undef = (.bool true) := by have h1 := hF 10 (by decide) (hr 10 (by kernel_rfl)); exact h1.2.trans h1.1
         exact .inl ⟨(fun k b h => by cases h; exact ⟨10, by decide, rfl, d10⟩), .inl ⟨15, by decide, rfl, (.pointer (some ⟨b, off + (k - 1) * 19, none⟩)), W, (by simp [go_sem, Act.eval, d12, d14, d10, hki1, htn, hk1n.out]), rfl, hJ⟩⟩
        ·replace ho := op_at ho (by rfl)
         subst ho
         have d15 : a.tmps.getD 102 undef = (.pointer (some ⟨b, off + (k - 1) * 19, none⟩)) := by have h1 := hF 15 (by decide) (hr 15 (by kernel_rfl)); exact h1.2.trans h1.1
         have d10 : a.tmps.getD 97 undef = (.bool true) := by have h1 := hF 10 (by decide) (hr 10 (by kernel_rfl)); exact h1.2.trans h1.1
         exact .inl ⟨(fun k b h => by cases h; exact ⟨10, by decide, rfl, d10⟩), .inl ⟨16, by decide, rfl, (.pointer (some ⟨b, off + (k - 1) * 19, none⟩)), W, (by simp [go_sem, Act.eval, d15, d10]), rfl, hJ⟩⟩
        ·replace ho := op_at ho (by rfl)
         subst ho
         have d16 : a.tmps.getD 103 undef = (.pointer (some ⟨b, off + (k - 1) * 19, none⟩)) := by have h1 := hF 16 (by decide) (hr 16 (by kernel_rfl)); exact h1.2.trans h1.1
         have d10 : a.tmps.getD 97 undef = (.bool true) := by have h1 := hF 10 (by decide) (hr 10 (by kernel_rfl)); exact h1.2.trans h1.1
         exact .inl ⟨(fun k b h => by cases h; exact ⟨10, by decide, rfl, d10⟩), .inl ⟨17, by decide, rfl, (.pointer (some ⟨b, off + (k - 1) * 19, none⟩)), W, (by simp [go_sem, Act.eval, d16, d10]), rfl, hJ⟩⟩
        ·replace ho := op_at ho (by rfl)
         subst ho
         have d17 : a.tmps.getD 104 undef = (.pointer (some ⟨b, off + (k - 1) * 19, none⟩)) := by have h1 := hF 17 (by decide) (hr 17 (by kernel_rfl)); exact h1.2.trans h1.1
         have d10 : a.tmps.getD 97 undef = (.bool true) := by have h1 := hF 10 (by decide) (hr 10 (by kernel_rfl)); exact h1.2.trans h1.1
         have cn := (hJ.cell (p := ⟨b, off + (k - 1) * 19, none⟩) hbW).trans hc1
         exact .inl ⟨(fun k b h => by cases h; exact ⟨10, by decide, rfl, d10⟩), .inl ⟨18, by decide, rfl, (.string ⟨y.name.toArray⟩), W, (by simp [go_sem, Act.eval, d17, d10, cn]), rfl, hJ⟩⟩
        ·replace ho := op_at ho (by rfl)
         subst ho
         have d10 : a.tmps.getD 97 undef = (.bool true) := by have h1 := hF 10 (by decide) (hr 10 (by kernel_rfl)); exact h1.2.trans h1.1
         have f1 : a.tmps.getD 1 undef = (.pointer (some ⟨w.heap.size, 0, none⟩)) := hf 1 (by kernel_rfl)
         exact .inl ⟨(fun k b h => by cases h; exact ⟨10, by decide, rfl, d10⟩), .inl ⟨19, by decide, rfl, (.pointer (some ⟨w.heap.size, 7, none⟩)), W, (by simp [go_sem, Act.eval, d10, f1]), rfl, hJ⟩⟩
        ·replace ho := op_at ho (by rfl)
         subst ho
         have d19 : a.tmps.getD 106 undef = (.pointer (some ⟨w.heap.size, 7, none⟩)) := by have h1 := hF 19 (by decide) (hr 19 (by kernel_rfl)); exact h1.2.trans h1.1
         have d10 : a.tmps.getD 97 undef = (.bool true) := by have h1 := hF 10 (by decide) (hr 10 (by kernel_rfl)); exact h1.2.trans h1.1
         have c7 := cell_of_row _ _ 7 _ _ _ (stays KB.out hJ)
         exact .inl ⟨(fun k b h => by cases h; exact ⟨10, by decide, rfl, d10⟩), .inl ⟨20, by decide, rfl, (.slice (some ⟨b, off, none⟩) n cap), W, (by simp [go_sem, Act.eval, d19, d10, c7]), rfl, hJ⟩⟩
        ·replace ho := op_at ho (by rfl)
         subst ho
         have d10 : a.tmps.getD 97 undef = (.bool true) := by have h1 := hF 10 (by decide) (hr 10 (by kernel_rfl)); exact h1.2.trans h1.1
         have f3 : a.tmps.getD 3 undef = (.int .i64 (k : Int)) := hf 3 (by kernel_rfl)
         exact .inl ⟨(fun k b h => by cases h; exact ⟨10, by decide, rfl, d10⟩), .inl ⟨21, by decide, rfl, (.int .i64 (k : Int)), W, (by simp [go_sem, Act.eval, d10, f3]), rfl, hJ⟩⟩
        ·replace ho := op_at ho (by rfl)
         subst ho
         have d20 : a.tmps.getD 107 undef = (.slice (some ⟨b, off, none⟩) n cap) := by have h1 := hF 20 (by decide) (hr 20 (by kernel_rfl)); exact h1.2.trans h1.1
         have d21 : a.tmps.getD 108 undef = (.int .i64 (k : Int)) := by have h1 := hF 21 (by decide) (hr 21 (by kernel_rfl)); exact h1.2.trans h1.1
         have d10 : a.tmps.getD 97 undef = (.bool true) := by have h1 := hF 10 (by decide) (hr 10 (by kernel_rfl)); exact h1.2.trans h1.1
         exact .inl ⟨(fun k b h => by cases h; exact ⟨10, by decide, rfl, d10⟩), .inl ⟨22, by decide, rfl, (.pointer (some ⟨b, off + k * 19, none⟩)), W, (by simp [go_sem, Act.eval, d20, d21, d10, hki]), rfl, hJ⟩⟩
        ·replace ho := op_at ho (by rfl)
         subst ho
         have d22 : a.tmps.getD 109 undef = (.pointer (some ⟨b, off + k * 19, none⟩)) := by have h1 := hF 22 (by decide) (hr 22 (by kernel_rfl)); exact h1.2.trans h1.1
         have d10 : a.tmps.getD 97 undef = (.bool true) := by have h1 := hF 10 (by decide) (hr 10 (by kernel_rfl)); exact h1.2.trans h1.1
         exact .inl ⟨(fun k b h => by cases h; exact ⟨10, by decide, rfl, d10⟩), .inl ⟨23, by decide, rfl, (.pointer (some ⟨b, off + k * 19, none⟩)), W, (by simp [go_sem, Act.eval, d22, d10]), rfl, hJ⟩⟩
        ·replace ho := op_at ho (by rfl)
         subst ho
         have d23 : a.tmps.getD 110 undef = (.pointer (some ⟨b, off + k * 19, none⟩)) := by have h1 := hF 23 (by decide) (hr 23 (by kernel_rfl)); exact h1.2.trans h1.1
         have d10 : a.tmps.getD 97 undef = (.bool true) := by have h1 := hF 10 (by decide) (hr 10 (by kernel_rfl)); exact h1.2.trans h1.1
         exact .inl ⟨(fun k b h => by cases h; exact ⟨10, by decide, rfl, d10⟩), .inl ⟨24, by decide, rfl, (.pointer (some ⟨b, off + k * 19, none⟩)), W, (by simp [go_sem, Act.eval, d23, d10]), rfl, hJ⟩⟩
        ·replace ho := op_at ho (by rfl)
         subst ho
         have d24 : a.tmps.getD 111 undef = (.pointer (some ⟨b, off + k * 19, none⟩)) := by have h1 := hF 24 (by decide) (hr 24 (by kernel_rfl)); exact h1.2.trans h1.1
         have d10 : a.tmps.getD 97 undef = (.bool true) := by have h1 := hF 10 (by decide) (hr 10 (by kernel_rfl)); exact h1.2.trans h1.1
         have cn := (hJ.cell (p := ⟨b, off + k * 19, none⟩) hbW).trans hc0
         exact .inl ⟨(fun k b h => by cases h; exact ⟨10, by decide, rfl, d10⟩), .inl ⟨25, by decide, rfl, (.string ⟨x.name.toArray⟩), W, (by simp [go_sem, Act.eval, d24, d10, cn]), rfl, hJ⟩⟩
        ·replace ho := op_at ho (by rfl)
         subst ho
         have d18 : a.tmps.getD 105 undef = (.string ⟨y.name.toArray⟩) := by have h1 := hF 18 (by decide) (hr 18 (by kernel_rfl)); exact h1.2.trans h1.1
         have d25 : a.tmps.getD 112 undef = (.string ⟨x.name.toArray⟩) := by have h1 := hF 25 (by decide) (hr 25 (by kernel_rfl)); exact h1.2.trans h1.1
         have d10 : a.tmps.getD 97 undef = (.bool true) := by have h1 := hF 10 (by decide) (hr 10 (by kernel_rfl)); exact h1.2.trans h1.1
         exact .inl ⟨(fun k b h => by cases h; exact ⟨10, by decide, rfl, d10⟩), .inl ⟨26, by decide, rfl, (.bool (!false)), W, (exec_geq_str _ _ _ _ rfl _ _ (show a.eval (.tmp 105) = _ from d18) (show a.eval (.tmp 112) = _ from d25) _ HLT.out), rfl, hJ⟩⟩
        ·replace ho := op_at ho (by rfl)
         subst ho
         have d10 : a.tmps.getD 97 undef = (.bool true) := by have h1 := hF 10 (by decide) (hr 10 (by kernel_rfl)); exact h1.2.trans h1.1
         have d26 : a.tmps.getD 113 undef = (.bool (!false)) := by have h1 := hF 26 (by decide) (hr 26 (by kernel_rfl)); exact h1.2.trans h1.1
         have d7 : a.tmps.getD 94 undef = (.bool false) := by have h1 := hF 7 (by decide) (hr 7 (by kernel_rfl)); exact h1.2.trans h1.1
         exact .inl ⟨(fun k b h => by cases h; exact ⟨7, by decide, rfl, d7⟩), .inl ⟨27, by decide, rfl, (.bool true), W, (by simp [go_sem, Act.eval, d10, d26, d7]), rfl, hJ⟩⟩
        ·replace ho := op_at ho (by rfl)
         subst ho
         have d7 : a.tmps.getD 94 undef = (.bool false) := by have h1 := hF 7 (by decide) (hr 7 (by kernel_rfl)); exact h1.2.trans h1.1
         have d27 : a.tmps.getD 114 undef = (.bool true) := by have h1 := hF 27 (by decide) (hr 27 (by kernel_rfl)); exact h1.2.trans h1.1
         exact .inl ⟨(fun k b h => by cases h), .inl ⟨28, by decide, rfl, (.bool true), W, (by simp [go_sem, Act.eval, d7, d27]), rfl, hJ⟩⟩
       case finq6 =>
        intro d vs Wq6 hall hJ hF
        have h0 : vs 0 = (.pointer (some ⟨w.heap.size, 7, none⟩)) := hF 0 (by decide)
        have h1 : vs 1 = (.slice (some ⟨b, off, none⟩) n cap) := hF 1 (by decide)
        have h2 : vs 2 = (.int .i64 (k : Int)) := hF 2 (by decide)
        have h3 : vs 3 = (.pointer (some ⟨b, off + k * 19, none⟩)) := hF 3 (by decide)
        have h4 : vs 4 = (.agg x.cells.toArray) := hF 4 (by decide)
        have h5 : vs 5 = (.bool true) := hF 5 (by decide)
        have h6 : vs 6 = (.bool false) := hF 6 (by decide)
        have h7 : vs 7 = (.bool false) := hF 7 (by decide)
        have h8 : vs 8 = (.int .i64 (k : Int)) := hF 8 (by decide)
        have h9 : vs 9 = (.bool true) := hF 9 (by decide)
        have h10 : vs 10 = (.bool true) := hF 10 (by decide)
        have h11 : vs 11 = (.pointer (some ⟨w.heap.size, 7, none⟩)) := hF 11 (by decide)
        have h12 : vs 12 = (.slice (some ⟨b, off, none⟩) n cap) := hF 12 (by decide)
        have h13 : vs 13 = (.int .i64 (k : Int)) := hF 13 (by decide)
        have h14 : vs 14 = (.int .i64 ((k : Int) - 1)) := hF 14 (by decide)
        have h15 : vs 15 = (.pointer (some ⟨b, off + (k - 1) * 19, none⟩)) := hF 15 (by decide)
        have h16 : vs 16 = (.pointer (some ⟨b, off + (k - 1) * 19, none⟩)) := hF 16 (by decide)
        have h17 : vs 17 = (.pointer (some ⟨b, off + (k - 1) * 19, none⟩)) := hF 17 (by decide)
        have h18 : vs 18 = (.string ⟨y.name.toArray⟩) := hF 18 (by decide)
        have h19 : vs 19 = (.pointer (some ⟨w.heap.size, 7, none⟩)) := hF 19 (by decide)
        have h20 : vs 20 = (.slice (some ⟨b, off, none⟩) n cap) := hF 20 (by decide)
        have h21 : vs 21 = (.int .i64 (k : Int)) := hF 21 (by decide)
        have h22 : vs 22 = (.pointer (some ⟨b, off + k * 19, none⟩)) := hF 22 (by decide)
        have h23 : vs 23 = (.pointer (some ⟨b, off + k * 19, none⟩)) := hF 23 (by decide)
        have h24 : vs 24 = (.pointer (some ⟨b, off + k * 19, none⟩)) := hF 24 (by decide)
        have h25 : vs 25 = (.string ⟨x.name.toArray⟩) := hF 25 (by decide)
        have h26 : vs 26 = (.bool (!false)) := hF 26 (by decide)
        have h27 : vs 27 = (.bool true) := hF 27 (by decide)
        have h28 : vs 28 = (.bool true) := hF 28 (by decide)
        clear hF
        show (_ : Exit → Act → World → Prop) Exit.normal (puts _ vs 29 _) Wq6
        simp only [puts, h0, h1, h2, h3, h4, h5, h6, h7, h8, h9, h10, h11, h12, h13, h14, h15, h16, h17, h18, h19, h20, h21, h22, h23, h24, h25, h26, h27, h28, List.getD_cons_zero, List.getD_cons_succ]
        clear h0 h1 h2 h3 h4 h5 h6 h7 h8 h9 h10 h11 h12 h13 h14 h15 h16 h17 h18 h19 h20 h21 h22 h23 h24 h25 h26 h27 h28
        go_simp
        have hB9 : Below Wi.heap.size Wi Wq6 := hJ
        generalize Wq6 = W9 at *
        clear hJ hall
        have hr := HRB.out
        rw [itemsB_f k (by have := HN.out; omega) HGK.out] at hr
        simp at hr
        subst hr
        have LF := HL0.out.trans ((HBi.out.trans (hB9.mono HBi.out.size)).mono HL0.out.size)
        go_wp2
        go_ret
        exact ⟨rfl, LF⟩
      | true =>
       as_aux_lemma =>
       have HLT : Hid (Op.bytesLess (⟨y.name.toArray⟩ : ByteArray).toList (⟨x.name.toArray⟩ : ByteArray).toList = true) := hlt'
       have HGK : Hid (goodAt xs k = true) := by show _ = _; unfold goodAt; rw [← HX.out, ← HY.out]; rw [hfi, show (k == 0) = false by have := hp.out; simp; omega, hlt']; rfl
       have hcon : ∀ W, Calls Tryd.prog 18 #[.agg x.cells.toArray] W fun e w' => e = .returned (.bool true) ∧ Below W.heap.size W w' := fun W => by
        have := ritem_any x W HNM.out
        rw [hfi] at this
        exact this
       clear hlt' hfi
       refine wpIn_wide (n := 5).1 (wpIn_flowM (F0 := Fence.wide) (n0 := 5) (fun _ => trivial) (fun h => by cases h) (by kernel_rfl) (by kernel_rfl) 29 29 (by kernel_rfl) (fun j => ([0, 1, 2, 3, 4, 5, 6, 7, 8, 9, 10, 11, 12, 13, 14, 15, 16, 17, 18, 19, 20, 21, 22, 23, 24, 25, 26, 27, 28] : List Nat).getD j 0) (fun j => ([87, 88, 89, 90, 91, 92, 93, 94, 95, 96, 97, 98, 99, 100, 101, 102, 103, 104, 105, 106, 107, 108, 109, 110, 111, 112, 113, 114, 115] : List Nat).getD j 0) (by kernel_rfl) (by kernel_rfl) (by kernel_rfl) (by kernel_rfl) (by kernel_rfl) (by kernel_rfl) (by kernel_rfl) (fun j zv => ([(fun zv => zv = (.pointer (some ⟨w.heap.size, 7, none⟩))), (fun zv => zv = (.slice (some ⟨b, off, none⟩) n cap)), (fun zv => zv = (.int .i64 (k : Int))), (fun zv => zv = (.pointer (some ⟨b, off + k * 19, none⟩))), (fun zv => zv = (.agg x.cells.toArray)), (fun zv => zv = (.bool true)), (fun zv => zv = (.bool false)), (fun zv => zv = (.bool false)), (fun zv => zv = (.int .i64 (k : Int))), (fun zv => zv = (.bool true)), (fun zv => zv = (.bool true)), (fun zv => zv = (.pointer (some ⟨w.heap.size, 7, none⟩))), (fun zv => zv = (.slice (some ⟨b, off, none⟩) n cap)), (fun zv => zv = (.int .i64 (k : Int))), (fun zv => zv = (.int .i64 ((k : Int) - 1))), (fun zv => zv = (.pointer (some ⟨b, off + (k - 1) * 19, none⟩))), (fun zv => zv = (.pointer (some ⟨b, off + (k - 1) * 19, none⟩))), (fun zv => zv = (.pointer (some ⟨b, off + (k - 1) * 19, none⟩))), (fun zv => zv = (.string ⟨y.name.toArray⟩)), (fun zv => zv = (.pointer (some ⟨w.heap.size, 7, none⟩))), (fun zv => zv = (.slice (some ⟨b, off, none⟩) n cap)), (fun zv => zv = (.int .i64 (k : Int))), (fun zv => zv = (.pointer (some ⟨b, off + k * 19, none⟩))), (fun zv => zv = (.pointer (some ⟨b, off + k * 19, none⟩))), (fun zv => zv = (.pointer (some ⟨b, off + k * 19, none⟩))), (fun zv => zv = (.string ⟨x.name.toArray⟩)), (fun zv => zv = (.bool (!true))), (fun zv => zv = (.bool false)), (fun zv => zv = (.bool false))] : List (Value → Prop)).getD j (fun _ => True) zv) (fun _ _ W => Below Wi.heap.size Wi W) ?h0q7 ?stepq7 ?finq7)
       case h0q7 => exact fun _ => bdN Wi.heap.size Wi 1
       case stepq7 =>
        intro i o a W d vs hi ho hdi hJ hf hr hF
        replace hi : i < 29 := hi
        rcases (show i = 0 ∨ i = 1 ∨ i = 2 ∨ i = 3 ∨ i = 4 ∨ i = 5 ∨ i = 6 ∨ i = 7 ∨ i = 8 ∨ i = 9 ∨ i = 10 ∨ i = 11 ∨ i = 12 ∨ i = 13 ∨ i = 14 ∨ i = 15 ∨ i = 16 ∨ i = 17 ∨ i = 18 ∨ i = 19 ∨ i = 20 ∨ i = 21 ∨ i = 22 ∨ i = 23 ∨ i = 24 ∨ i = 25 ∨ i = 26 ∨ i = 27 ∨ i = 28 by omega) with rfl | rfl | rfl | rfl | rfl | rfl | rfl | rfl | rfl | rfl | rfl | rfl | rfl | rfl | rfl | rfl | rfl | rfl | rfl | rfl | rfl | rfl | rfl | rfl | rfl | rfl | rfl | rfl | rfl
        ·replace ho := op_at ho (by rfl)
         subst ho
         have f1 : a.tmps.getD 1 undef = (.pointer (some ⟨w.heap.size, 0, none⟩)) := hf 1 (by kernel_rfl)
         exact .inl ⟨(fun k b h => by cases h), .inl ⟨0, by decide, rfl, (.pointer (some ⟨w.heap.size, 7, none⟩)), W, (by simp [go_sem, Act.eval, f1]), rfl, hJ⟩⟩
        ·replace ho := op_at ho (by rfl)
         subst ho
         have d0 : a.tmps.getD 87 undef = (.pointer (some ⟨w.heap.size, 7, none⟩)) := by have h1 := hF 0 (by decide) (hr 0 (by kernel_rfl)); exact h1.2.trans h1.1
         have c7 := cell_of_row _ _ 7 _ _ _ (stays KB.out hJ)
         exact .inl ⟨(fun k b h => by cases h), .inl ⟨1, by decide, rfl, (.slice (some ⟨b, off, none⟩) n cap), W, (by simp [go_sem, Act.eval, d0, c7]), rfl, hJ⟩⟩
        ·replace ho := op_at ho (by rfl)
         subst ho
         have f3 : a.tmps.getD 3 undef = (.int .i64 (k : Int)) := hf 3 (by kernel_rfl)
         exact .inl ⟨(fun k b h => by cases h), .inl ⟨2, by decide, rfl, (.int .i64 (k : Int)), W, (by simp [go_sem, Act.eval, f3]), rfl, hJ⟩⟩
        ·replace ho := op_at ho (by rfl)
         subst ho
         have d1 : a.tmps.getD 88 undef = (.slice (some ⟨b, off, none⟩) n cap) := by have h1 := hF 1 (by decide) (hr 1 (by kernel_rfl)); exact h1.2.trans h1.1
         have d2 : a.tmps.getD 89 undef = (.int .i64 (k : Int)) := by have h1 := hF 2 (by decide) (hr 2 (by kernel_rfl)); exact h1.2.trans h1.1
         exact .inl ⟨(fun k b h => by cases h), .inl ⟨3, by decide, rfl, (.pointer (some ⟨b, off + k * 19, none⟩)), W, (by simp [go_sem, Act.eval, d1, d2, hki]), rfl, hJ⟩⟩
        ·replace ho := op_at ho (by rfl)
         subst ho
         have d3 : a.tmps.getD 90 undef = (.pointer (some ⟨b, off + k * 19, none⟩)) := by have h1 := hF 3 (by decide) (hr 3 (by kernel_rfl)); exact h1.2.trans h1.1
         exact .inl ⟨(fun k b h => by cases h), .inl ⟨4, by decide, rfl, (.agg x.cells.toArray), W, (exec_load_mid 38 _ rfl b (off + k * 19) _ (.struct (Tryd.prog.fieldsOf 38)) (show a.eval (.tmp 90) = _ from d3) (fun j u hu => (hJ.cell (p := ⟨b, off + k * 19 + j, none⟩) hbW).trans (hrk j u hu)) (by kernel_rfl) rfl (by kernel_rfl)), rfl, hJ⟩⟩
        ·replace ho := op_at ho (by rfl)
         subst ho
         have d4 : a.tmps.getD 91 undef = (.agg x.cells.toArray) := by have h1 := hF 4 (by decide) (hr 4 (by kernel_rfl)); exact h1.2.trans h1.1
         refine .inl ⟨(fun k b h => by cases h), .inr (.inr ⟨5, by decide, rfl, 18, #[(.agg x.cells.toArray)], W, (by simp [go_sem, Act.eval, d4]), ?_⟩)⟩
         refine (callsIn_wide.2 (hcon W)).mono ?_
         rintro e W' ⟨rfl, hBe⟩
         exact ⟨_, rfl, rfl, hJ.trans (hBe.mono hJ.size)⟩
        ·replace ho := op_at ho (by rfl)
         subst ho
         have d5 : a.tmps.getD 92 undef = (.bool true) := by have h1 := hF 5 (by decide) (hr 5 (by kernel_rfl)); exact h1.2.trans h1.1
         exact .inl ⟨(fun k b h => by cases h), .inl ⟨6, by decide, rfl, (.bool false), W, (by simp [go_sem, Act.eval, d5]), rfl, hJ⟩⟩
        ·replace ho := op_at ho (by rfl)
         subst ho
         have d6 : a.tmps.getD 93 undef = (.bool false) := by have h1 := hF 6 (by decide) (hr 6 (by kernel_rfl)); exact h1.2.trans h1.1
         exact .inl ⟨(fun k b h => by cases h), .inl ⟨7, by decide, rfl, (.bool false), W, (by simp [go_sem, Act.eval, d6]), rfl, hJ⟩⟩
        ·replace ho := op_at ho (by rfl)
         subst ho
         have d7 : a.tmps.getD 94 undef = (.bool false) := by have h1 := hF 7 (by decide) (hr 7 (by kernel_rfl)); exact h1.2.trans h1.1
         have f3 : a.tmps.getD 3 undef = (.int .i64 (k : Int)) := hf 3 (by kernel_rfl)
         exact .inl ⟨(fun k b h => by cases h; exact ⟨7, by decide, rfl, d7⟩), .inl ⟨8, by decide, rfl, (.int .i64 (k : Int)), W, (by simp [go_sem, Act.eval, d7, f3]), rfl, hJ⟩⟩
        ·replace ho := op_at ho (by rfl)
         subst ho
         have d8 : a.tmps.getD 95 undef = (.int .i64 (k : Int)) := by have h1 := hF 8 (by decide) (hr 8 (by kernel_rfl)); exact h1.2.trans h1.1
         have d7 : a.tmps.getD 94 undef = (.bool false) := by have h1 := hF 7 (by decide) (hr 7 (by kernel_rfl)); exact h1.2.trans h1.1
         exact .inl ⟨(fun k b h => by cases h; exact ⟨7, by decide, rfl, d7⟩), .inl ⟨9, by decide, rfl, (.bool true), W, (by simp [go_sem, Act.eval, d8, d7, hp.out]), rfl, hJ⟩⟩
        ·replace ho := op_at ho (by rfl)
         subst ho
         have d9 : a.tmps.getD 96 undef = (.bool true) := by have h1 := hF 9 (by decide) (hr 9 (by kernel_rfl)); exact h1.2.trans h1.1
         have d7 : a.tmps.getD 94 undef = (.bool false) := by have h1 := hF 7 (by decide) (hr 7 (by kernel_rfl)); exact h1.2.trans h1.1
         exact .inl ⟨(fun k b h => by cases h; exact ⟨7, by decide, rfl, d7⟩), .inl ⟨10, by decide, rfl, (.bool true), W, (by simp [go_sem, Act.eval, d9, d7]), rfl, hJ⟩⟩
        ·replace ho := op_at ho (by rfl)
         subst ho
         have d10 : a.tmps.getD 97 undef = (.bool true) := by have h1 := hF 10 (by decide) (hr 10 (by kernel_rfl)); exact h1.2.trans h1.1
         have f1 : a.tmps.getD 1 undef = (.pointer (some ⟨w.heap.size, 0, none⟩)) := hf 1 (by kernel_rfl)
         exact .inl ⟨(fun k b h => by cases h; exact ⟨10, by decide, rfl, d10⟩), .inl ⟨11, by decide, rfl, (.pointer (some ⟨w.heap.size, 7, none⟩)), W, (by simp [go_sem, Act.eval, d10, f1]), rfl, hJ⟩⟩
        ·replace ho := op_at ho (by rfl)
         subst ho
         have d11 : a.tmps.getD 98 undef = (.pointer (some ⟨w.heap.size, 7, none⟩)) := by have h1 := hF 11 (by decide) (hr 11 (by kernel_rfl)); exact h1.2.trans h1.1
         have d10 : a.tmps.getD 97 undef = (.bool true) := by have h1 := hF 10 (by decide) (hr 10 (by kernel_rfl)); exact h1.2.trans h1.1
         have c7 := cell_of_row _ _ 7 _ _ _ (stays KB.out hJ)
         exact .inl ⟨(fun k b h => by cases h; exact ⟨10, by decide, rfl, d10⟩), .inl ⟨12, by decide, rfl, (.slice (some ⟨b, off, none⟩) n cap), W, (by simp [go_sem, Act.eval, d11, d10, c7]), rfl, hJ⟩⟩
        ·replace ho := op_at ho (by rfl)
         subst ho
         have d10 : a.tmps.getD 97 undef = (.bool true) := by have h1 := hF 10 (by decide) (hr 10 (by kernel_rfl)); exact h1.2.trans h1.1
         have f3 : a.tmps.getD 3 undef = (.int .i64 (k : Int)) := hf 3 (by kernel_rfl)
         exact .inl ⟨(fun k b h => by cases h; exact ⟨10, by decide, rfl, d10⟩), .inl ⟨13, by decide, rfl, (.int .i64 (k : Int)), W, (by simp [go_sem, Act.eval, d10, f3]), rfl, hJ⟩⟩
        ·replace ho := op_at ho (by rfl)
         subst ho
         have d13 : a.tmps.getD 100 undef = (.int .i64 (k : Int)) := by have h1 := hF 13 (by decide) (hr 13 (by kernel_rfl)); exact h1.2.trans h1.1
         have d10 : a.tmps.getD 97 undef = (.bool true) := by have h1 := hF 10 (by decide) (hr 10 (by kernel_rfl)); exact h1.2.trans h1.1
         exact .inl ⟨(fun k b h => by cases h; exact ⟨10, by decide, rfl, d10⟩), .inl ⟨14, by decide, rfl, (.int .i64 ((k : Int) - 1)), W, (by simp [go_sem, Act.eval, d13, d10, hsub]), rfl, hJ⟩⟩
        ·replace ho := op_at ho (by rfl)
         subst ho
         have d12 : a.tmps.getD 99 undef = (.slice (some ⟨b, off, none⟩) n cap) := by have h1 := hF 12 (by decide) (hr 12 (by kernel_rfl)); exact h1.2.trans h1.1
         have d14 : a.tmps.getD 101 undef = (.int .i64 ((k : Int) - 1)) := by have h1 := hF 14 (by decide) (hr 14 (by kernel_rfl)); exact h1.2.trans h1.1
         have d10 : a.tmps.getD 97 undef = (.bool true) := by have h1 := hF 10 (by decide) (hr 10 (by kernel_rfl)); exact h1.2.trans h1.1
         exact .inl ⟨(fun k b h => by cases h; exact ⟨10, by decide, rfl, d10⟩), .inl ⟨15, by decide, rfl, (.pointer (some ⟨b, off + (k - 1) * 19, none⟩)), W, (by simp [go_sem, Act.eval, d12, d14, d10, hki1, htn, hk1n.out]), rfl, hJ⟩⟩
        ·replace ho := op_at ho (by rfl)
         subst ho
         have d15 : a.tmps.getD 102 undef = (.pointer (some ⟨b, off + (k - 1) * 19, none⟩)) := by have h1 := hF 15 (by decide) (hr 15 (by kernel_rfl)); exact h1.2.trans h1.1
         have d10 : a.tmps.getD 97 undef = (.bool true) := by have h1 := hF 10 (by decide) (hr 10 (by kernel_rfl)); exact h1.2.trans h1.1
         exact .inl ⟨(fun k b h => by cases h; exact ⟨10, by decide, rfl, d10⟩), .inl ⟨16, by decide, rfl, (.pointer (some ⟨b, off + (k - 1) * 19, none⟩)), W, (by simp [go_sem, Act.eval, d15, d10]), rfl, hJ⟩⟩
        ·replace ho := op_at ho (by rfl)
         subst ho
         have d16 : a.tmps.getD 103 undef = (.pointer (some ⟨b, off + (k - 1) * 19, none⟩)) := by have h1 := hF 16 (by decide) (hr 16 (by kernel_rfl)); exact h1.2.trans h1.1
         have d10 : a.tmps.getD 97 undef = (.bool true) := by have h1 := hF 10 (by decide) (hr 10 (by kernel_rfl)); exact h1.2.trans h1.1
         exact .inl ⟨(fun k b h => by cases h; exact ⟨10, by decide, rfl, d10⟩), .inl ⟨17, by decide, rfl, (.pointer (some ⟨b, off + (k - 1) * 19, none⟩)), W, (by simp [go_sem, Act.eval, d16, d10]), rfl, hJ⟩⟩
        ·replace ho := op_at ho (by rfl)
         subst ho
         have d17 : a.tmps.getD 104 undef = (.pointer (some ⟨b, off + (k - 1) * 19, none⟩)) := by have h1 := hF 17 (by decide) (hr 17 (by kernel_rfl)); exact h1.2.trans h1.1
         have d10 : a.tmps.getD 97 undef = (.bool true) := by have h1 := hF 10 (by decide) (hr 10 (by kernel_rfl)); exact h1.2.trans h1.1
         have cn := (hJ.cell (p := ⟨b, off + (k - 1) * 19, none⟩) hbW).trans hc1
         exact .inl ⟨(fun k b h => by cases h; exact ⟨10, by decide, rfl, d10⟩), .inl ⟨18, by decide, rfl, (.string ⟨y.name.toArray⟩), W, (by simp [go_sem, Act.eval, d17, d10, cn]), rfl, hJ⟩⟩
        ·replace ho := op_at ho (by rfl)
         subst ho
         have d10 : a.tmps.getD 97 undef = (.bool true) := by have h1 := hF 10 (by decide) (hr 10 (by kernel_rfl)); exact h1.2.trans h1.1
         have f1 : a.tmps.getD 1 undef = (.pointer (some ⟨w.heap.size, 0, none⟩)) := hf 1 (by kernel_rfl)
         exact .inl ⟨(fun k b h => by cases h; exact ⟨10, by decide, rfl, d10⟩), .inl ⟨19, by decide, rfl, (.pointer (some ⟨w.heap.size, 7, none⟩)), W, (by simp [go_sem, Act.eval, d10, f1]), rfl, hJ⟩⟩
        ·replace ho := op_at ho (by rfl)
         subst ho
         have d19 : a.tmps.getD 106 undef = (.pointer (some ⟨w.heap.size, 7, none⟩)) := by have h1 := hF 19 (by decide) (hr 19 (by kernel_rfl)); exact h1.2.trans h1.1
         have d10 : a.tmps.getD 97 undef = (.bool true) := by have h1 := hF 10 (by decide) (hr 10 (by kernel_rfl)); exact h1.2.trans h1.1
         have c7 := cell_of_row _ _ 7 _ _ _ (stays KB.out hJ)
         exact .inl ⟨(fun k b h => by cases h; exact ⟨10, by decide, rfl, d10⟩), .inl ⟨20, by decide, rfl, (.slice (some ⟨b, off, none⟩) n cap), W, (by simp [go_sem, Act.eval, d19, d10, c7]), rfl, hJ⟩⟩
        ·replace ho := op_at ho (by rfl)
         subst ho
         have d10 : a.tmps.getD 97 undef = (.bool true) := by have h1 := hF 10 (by decide) (hr 10 (by kernel_rfl)); exact h1.2.trans h1.1
         have f3 : a.tmps.getD 3 undef = (.int .i64 (k : Int)) := hf 3 (by kernel_rfl)
         exact .inl ⟨(fun k b h => by cases h; exact ⟨10, by decide, rfl, d10⟩), .inl ⟨21, by decide, rfl, (.int .i64 (k : Int)), W, (by simp [go_sem, Act.eval, d10, f3]), rfl, hJ⟩⟩
        ·replace ho := op_at ho (by rfl)
         subst ho
         have d20 : a.tmps.getD 107 undef = (.slice (some ⟨b, off, none⟩) n cap) := by have h1 := hF 20 (by decide) (hr 20 (by kernel_rfl)); exact h1.2.trans h1.1
         have d21 : a.tmps.getD 108 undef = (.int .i64 (k : Int)) := by have h1 := hF 21 (by decide) (hr 21 (by kernel_rfl)); exact h1.2.trans h1.1
         have d10 : a.tmps.getD 97 undef = (.bool true) := by have h1 := hF 10 (by decide) (hr 10 (by kernel_rfl)); exact h1.2.trans h1.1
         exact .inl ⟨(fun k b h => by cases h; exact ⟨10, by decide, rfl, d10⟩), .inl ⟨22, by decide, rfl, (.pointer (some ⟨b, off + k * 19, none⟩)), W, (by simp [go_sem, Act.eval, d20, d21, d10, hki]), rfl, hJ⟩⟩
        ·replace ho := op_at ho (by rfl)
         subst ho
         have d22 : a.tmps.getD 109 undef = (.pointer (some ⟨b, off + k * 19, none⟩)) := by have h1 := hF 22 (by decide) (hr 22 (by kernel_rfl)); exact h1.2.trans h1.1
         have d10 : a.tmps.getD 97 undef = (.bool true) := by have h1 := hF 10 (by decide) (hr 10 (by kernel_rfl)); exact h1.2.trans h1.1
         exact .inl ⟨(fun k b h => by cases h; exact ⟨10, by decide, rfl, d10⟩), .inl ⟨23, by decide, rfl, (.pointer (some ⟨b, off + k * 19, none⟩)), W, (by simp [go_sem, Act.eval, d22, d10]), rfl, hJ⟩⟩
        ·replace ho := op_at ho (by rfl)
         subst ho
         have d23 : a.tmps.getD 110 undef = (.pointer (some ⟨b, off + k * 19, none⟩)) := by have h1 := hF 23 (by decide) (hr 23 (by kernel_rfl)); exact h1.2.trans h1.1
         have d10 : a.tmps.getD 97 undef = (.bool true) := by have h1 := hF 10 (by decide) (hr 10 (by kernel_rfl)); exact h1.2.trans h1.1
         exact .inl ⟨(fun k b h => by cases h; exact ⟨10, by decide, rfl, d10⟩), .inl ⟨24, by decide, rfl, (.pointer (some ⟨b, off + k * 19, none⟩)), W, (by simp [go_sem, Act.eval, d23, d10]), rfl, hJ⟩⟩
        ·replace ho := op_at ho (by rfl)
         subst ho
         have d24 : a.tmps.getD 111 undef = (.pointer (some ⟨b, off + k * 19, none⟩)) := by have h1 := hF 24 (by decide) (hr 24 (by kernel_rfl)); exact h1.2.trans h1.1
         have d10 : a.tmps.getD 97 undef = (.bool true) := by have h1 := hF 10 (by decide) (hr 10 (by kernel_rfl)); exact h1.2.trans h1.1
         have cn := (hJ.cell (p := ⟨b, off + k * 19, none⟩) hbW).trans hc0
         exact .inl ⟨(fun k b h => by cases h; exact ⟨10, by decide, rfl, d10⟩), .inl ⟨25, by decide, rfl, (.string ⟨x.name.toArray⟩), W, (by simp [go_sem, Act.eval, d24, d10, cn]), rfl, hJ⟩⟩
        ·replace ho := op_at ho (by rfl)
         subst ho
         have d18 : a.tmps.getD 105 undef = (.string ⟨y.name.toArray⟩) := by have h1 := hF 18 (by decide) (hr 18 (by kernel_rfl)); exact h1.2.trans h1.1
         have d25 : a.tmps.getD 112 undef = (.string ⟨x.name.toArray⟩) := by have h1 := hF 25 (by decide) (hr 25 (by kernel_rfl)); exact h1.2.trans h1.1
         have d10 : a.tmps.getD 97 undef = (.bool true) := by have h1 := hF 10 (by decide) (hr 10 (by kernel_rfl)); exact h1.2.trans h1.1
         exact .inl ⟨(fun k b h => by cases h; exact ⟨10, by decide, rfl, d10⟩), .inl ⟨26, by decide, rfl, (.bool (!true)), W, (exec_geq_str _ _ _ _ rfl _ _ (show a.eval (.tmp 105) = _ from d18) (show a.eval (.tmp 112) = _ from d25) _ HLT.out), rfl, hJ⟩⟩
        ·replace ho := op_at ho (by rfl)
         subst ho
         have d10 : a.tmps.getD 97 undef = (.bool true) := by have h1 := hF 10 (by decide) (hr 10 (by kernel_rfl)); exact h1.2.trans h1.1
         have d26 : a.tmps.getD 113 undef = (.bool (!true)) := by have h1 := hF 26 (by decide) (hr 26 (by kernel_rfl)); exact h1.2.trans h1.1
         have d7 : a.tmps.getD 94 undef = (.bool false) := by have h1 := hF 7 (by decide) (hr 7 (by kernel_rfl)); exact h1.2.trans h1.1
         exact .inl ⟨(fun k b h => by cases h; exact ⟨7, by decide, rfl, d7⟩), .inl ⟨27, by decide, rfl, (.bool false), W, (by simp [go_sem, Act.eval, d10, d26, d7]), rfl, hJ⟩⟩
        ·replace ho := op_at ho (by rfl)
         subst ho
         have d7 : a.tmps.getD 94 undef = (.bool false) := by have h1 := hF 7 (by decide) (hr 7 (by kernel_rfl)); exact h1.2.trans h1.1
         have d27 : a.tmps.getD 114 undef = (.bool false) := by have h1 := hF 27 (by decide) (hr 27 (by kernel_rfl)); exact h1.2.trans h1.1
         exact .inl ⟨(fun k b h => by cases h), .inl ⟨28, by decide, rfl, (.bool false), W, (by simp [go_sem, Act.eval, d7, d27]), rfl, hJ⟩⟩
       case finq7 =>
        intro d vs Wq7 hall hJ hF
        have h0 : vs 0 = (.pointer (some ⟨w.heap.size, 7, none⟩)) := hF 0 (by decide)
        have h1 : vs 1 = (.slice (some ⟨b, off, none⟩) n cap) := hF 1 (by decide)
        have h2 : vs 2 = (.int .i64 (k : Int)) := hF 2 (by decide)
        have h3 : vs 3 = (.pointer (some ⟨b, off + k * 19, none⟩)) := hF 3 (by decide)
        have h4 : vs 4 = (.agg x.cells.toArray) := hF 4 (by decide)
        have h5 : vs 5 = (.bool true) := hF 5 (by decide)
        have h6 : vs 6 = (.bool false) := hF 6 (by decide)
        have h7 : vs 7 = (.bool false) := hF 7 (by decide)
        have h8 : vs 8 = (.int .i64 (k : Int)) := hF 8 (by decide)
        have h9 : vs 9 = (.bool true) := hF 9 (by decide)
        have h10 : vs 10 = (.bool true) := hF 10 (by decide)
        have h11 : vs 11 = (.pointer (some ⟨w.heap.size, 7, none⟩)) := hF 11 (by decide)
        have h12 : vs 12 = (.slice (some ⟨b, off, none⟩) n cap) := hF 12 (by decide)
        have h13 : vs 13 = (.int .i64 (k : Int)) := hF 13 (by decide)
        have h14 : vs 14 = (.int .i64 ((k : Int) - 1)) := hF 14 (by decide)
        have h15 : vs 15 = (.pointer (some ⟨b, off + (k - 1) * 19, none⟩)) := hF 15 (by decide)
        have h16 : vs 16 = (.pointer (some ⟨b, off + (k - 1) * 19, none⟩)) := hF 16 (by decide)
        have h17 : vs 17 = (.pointer (some ⟨b, off + (k - 1) * 19, none⟩)) := hF 17 (by decide)
        have h18 : vs 18 = (.string ⟨y.name.toArray⟩) := hF 18 (by decide)
        have h19 : vs 19 = (.pointer (some ⟨w.heap.size, 7, none⟩)) := hF 19 (by decide)
        have h20 : vs 20 = (.slice (some ⟨b, off, none⟩) n cap) := hF 20 (by decide)
        have h21 : vs 21 = (.int .i64 (k : Int)) := hF 21 (by decide)
        have h22 : vs 22 = (.pointer (some ⟨b, off + k * 19, none⟩)) := hF 22 (by decide)
        have h23 : vs 23 = (.pointer (some ⟨b, off + k * 19, none⟩)) := hF 23 (by decide)
        have h24 : vs 24 = (.pointer (some ⟨b, off + k * 19, none⟩)) := hF 24 (by decide)
        have h25 : vs 25 = (.string ⟨x.name.toArray⟩) := hF 25 (by decide)
        have h26 : vs 26 = (.bool (!true)) := hF 26 (by decide)
        have h27 : vs 27 = (.bool false) := hF 27 (by decide)
        have h28 : vs 28 = (.bool false) := hF 28 (by decide)
        clear hF
        show (_ : Exit → Act → World → Prop) Exit.normal (puts _ vs 29 _) Wq7
        simp only [puts, h0, h1, h2, h3, h4, h5, h6, h7, h8, h9, h10, h11, h12, h13, h14, h15, h16, h17, h18, h19, h20, h21, h22, h23, h24, h25, h26, h27, h28, List.getD_cons_zero, List.getD_cons_succ]
        clear h0 h1 h2 h3 h4 h5 h6 h7 h8 h9 h10 h11 h12 h13 h14 h15 h16 h17 h18 h19 h20 h21 h22 h23 h24 h25 h26 h27 h28
        go_simp
        have hB9 : Below Wi.heap.size Wi Wq7 := hJ
        generalize Wq7 = W9 at *
        clear hJ hall
        have HG2 : Hid (∀ j, j < k + 1 → goodAt xs j = true) := fun j hj => by
         rcases Nat.lt_or_ge j k with h | h
         ·exact HG.out j h
         ·obtain rfl : j = k := by omega
          exact HGK.out
        have HB9 : Hid (Below W0.heap.size W0 W9) := HBi.out.trans (hB9.mono HBi.out.size)
        clear hB9 HG
        go_wp2
        go_roundw
        case rel => exact ⟨k + 1, by omega, by go_num, HG2, HB9⟩
        case measure => simp [intOf]; omega
     ·as_aux_lemma =>
      have hk0 : Hid (k = 0) := by show _ = _; omega
      clear hp
      have HGK : Hid (goodAt xs k = true) := by show _ = _; unfold goodAt; rw [← HX.out, ← HY.out]; rw [hfi, show (k == 0) = true by have := hk0.out; simp; omega]; rfl
      have hcon : ∀ W, Calls Tryd.prog 18 #[.agg x.cells.toArray] W fun e w' => e = .returned (.bool true) ∧ Below W.heap.size W w' := fun W => by
       have := ritem_any x W HNM.out
       rw [hfi] at this
       exact this
      clear hki1 htn hsub hc1 hfi
      refine wpIn_wide (n := 5).1 (wpIn_flowM (F0 := Fence.wide) (n0 := 5) (fun _ => trivial) (fun h => by cases h) (by kernel_rfl) (by kernel_rfl) 29 29 (by kernel_rfl) (fun j => ([0, 1, 2, 3, 4, 5, 6, 7, 8, 9, 10, 11, 12, 13, 14, 15, 16, 17, 18, 19, 20, 21, 22, 23, 24, 25, 26, 27, 28] : List Nat).getD j 0) (fun j => ([87, 88, 89, 90, 91, 92, 93, 94, 95, 96, 97, 98, 99, 100, 101, 102, 103, 104, 105, 106, 107, 108, 109, 110, 111, 112, 113, 114, 115] : List Nat).getD j 0) (by kernel_rfl) (by kernel_rfl) (by kernel_rfl) (by kernel_rfl) (by kernel_rfl) (by kernel_rfl) (by kernel_rfl) (fun j zv => ([(fun zv => zv = (.pointer (some ⟨w.heap.size, 7, none⟩))), (fun zv => zv = (.slice (some ⟨b, off, none⟩) n cap)), (fun zv => zv = (.int .i64 (k : Int))), (fun zv => zv = (.pointer (some ⟨b, off + k * 19, none⟩))), (fun zv => zv = (.agg x.cells.toArray)), (fun zv => zv = (.bool true)), (fun zv => zv = (.bool false)), (fun zv => zv = (.bool false)), (fun zv => zv = (.int .i64 (k : Int))), (fun zv => zv = (.bool false)), (fun zv => zv = (.bool false)), (fun zv => zv = undef), (fun zv => zv = undef), (fun zv => zv = undef), (fun zv => zv = undef), (fun zv => zv = undef), (fun zv => zv = undef), (fun zv => zv = undef), (fun zv => zv = undef), (fun zv => zv = undef), (fun zv => zv = undef), (fun zv => zv = undef), (fun zv => zv = undef), (fun zv => zv = undef), (fun zv => zv = undef), (fun zv => zv = undef), (fun zv => zv = undef), (fun zv => zv = (.bool false)), (fun zv => zv = (.bool false))] : List (Value → Prop)).getD j (fun _ => True) zv) (fun _ _ W => Below Wi.heap.size Wi W) ?h0q8 ?stepq8 ?finq8)
      case h0q8 => exact fun _ => bdN Wi.heap.size Wi 1
      case stepq8 =>
       intro i o a W d vs hi ho hdi hJ hf hr hF
       replace hi : i < 29 := hi
       rcases (show i = 0 ∨ i = 1 ∨ i = 2 ∨ i = 3 ∨ i = 4 ∨ i = 5 ∨ i = 6 ∨ i = 7 ∨ i = 8 ∨ i = 9 ∨ i = 10 ∨ i = 11 ∨ i = 12 ∨ i = 13 ∨ i = 14 ∨ i = 15 ∨ i = 16 ∨ i = 17 ∨ i = 18 ∨ i = 19 ∨ i = 20 ∨ i = 21 ∨ i = 22 ∨ i = 23 ∨ i = 24 ∨ i = 25 ∨ i = 26 ∨ i = 27 ∨ i = 28 by omega) with rfl | rfl | rfl | rfl | rfl | rfl | rfl | rfl | rfl | rfl | rfl | rfl | rfl | rfl | rfl | rfl | rfl | rfl | rfl | rfl | rfl | rfl | rfl | rfl | rfl | rfl | rfl | rfl | rfl
       ·replace ho := op_at ho (by rfl)
        subst ho
        have f1 : a.tmps.getD 1 undef = (.pointer (some ⟨w.heap.size, 0, none⟩)) := hf 1 (by kernel_rfl)
        exact .inl ⟨(fun k b h => by cases h), .inl ⟨0, by decide, rfl, (.pointer (some ⟨w.heap.size, 7, none⟩)), W, (by simp [go_sem, Act.eval, f1]), rfl, hJ⟩⟩
       ·replace ho := op_at ho (by rfl)
        subst ho
        have d0 : a.tmps.getD 87 undef = (.pointer (some ⟨w.heap.size, 7, none⟩)) := by have h1 := hF 0 (by decide) (hr 0 (by kernel_rfl)); exact h1.2.trans h1.1
        have c7 := cell_of_row _ _ 7 _ _ _ (stays KB.out hJ)
        exact .inl ⟨(fun k b h => by cases h), .inl ⟨1, by decide, rfl, (.slice (some ⟨b, off, none⟩) n cap), W, (by simp [go_sem, Act.eval, d0, c7]), rfl, hJ⟩⟩
       ·replace ho := op_at ho (by rfl)
        subst ho
        have f3 : a.tmps.getD 3 undef = (.int .i64 (k : Int)) := hf 3 (by kernel_rfl)
        exact .inl ⟨(fun k b h => by cases h), .inl ⟨2, by decide, rfl, (.int .i64 (k : Int)), W, (by simp [go_sem, Act.eval, f3]), rfl, hJ⟩⟩
       ·replace ho := op_at ho (by rfl)
        subst ho
        have d1 : a.tmps.getD 88 undef = (.slice (some ⟨b, off, none⟩) n cap) := by have h1 := hF 1 (by decide) (hr 1 (by kernel_rfl)); exact h1.2.trans h1.1
        have d2 : a.tmps.getD 89 undef = (.int .i64 (k : Int)) := by have h1 := hF 2 (by decide) (hr 2 (by kernel_rfl)); exact h1.2.trans h1.1
        exact .inl ⟨(fun k b h => by cases h), .inl ⟨3, by decide, rfl, (.pointer (some ⟨b, off + k * 19, none⟩)), W, (by simp [go_sem, Act.eval, d1, d2, hki]), rfl, hJ⟩⟩
       ·replace ho := op_at ho (by rfl)
        subst ho
        have d3 : a.tmps.getD 90 undef = (.pointer (some ⟨b, off + k * 19, none⟩)) := by have h1 := hF 3 (by decide) (hr 3 (by kernel_rfl)); exact h1.2.trans h1.1
        exact .inl ⟨(fun k b h => by cases h), .inl ⟨4, by decide, rfl, (.agg x.cells.toArray), W, (exec_load_mid 38 _ rfl b (off + k * 19) _ (.struct (Tryd.prog.fieldsOf 38)) (show a.eval (.tmp 90) = _ from d3) (fun j u hu => (hJ.cell (p := ⟨b, off + k * 19 + j, none⟩) hbW).trans (hrk j u hu)) (by kernel_rfl) rfl (by kernel_rfl)), rfl, hJ⟩⟩
       ·replace ho := op_at ho (by rfl)
        subst ho
        have d4 : a.tmps.getD 91 undef = (.agg x.cells.toArray) := by have h1 := hF 4 (by decide) (hr 4 (by kernel_rfl)); exact h1.2.trans h1.1
        refine .inl ⟨(fun k b h => by cases h), .inr (.inr ⟨5, by decide, rfl, 18, #[(.agg x.cells.toArray)], W, (by simp [go_sem, Act.eval, d4]), ?_⟩)⟩
        refine (callsIn_wide.2 (hcon W)).mono ?_
        rintro e W' ⟨rfl, hBe⟩
        exact ⟨_, rfl, rfl, hJ.trans (hBe.mono hJ.size)⟩
       ·replace ho := op_at ho (by rfl)
        subst ho
        have d5 : a.tmps.getD 92 undef = (.bool true) := by have h1 := hF 5 (by decide) (hr 5 (by kernel_rfl)); exact h1.2.trans h1.1
        exact .inl ⟨(fun k b h => by cases h), .inl ⟨6, by decide, rfl, (.bool false), W, (by simp [go_sem, Act.eval, d5]), rfl, hJ⟩⟩
       ·replace ho := op_at ho (by rfl)
        subst ho
        have d6 : a.tmps.getD 93 undef = (.bool false) := by have h1 := hF 6 (by decide) (hr 6 (by kernel_rfl)); exact h1.2.trans h1.1
        exact .inl ⟨(fun k b h => by cases h), .inl ⟨7, by decide, rfl, (.bool false), W, (by simp [go_sem, Act.eval, d6]), rfl, hJ⟩⟩
       ·replace ho := op_at ho (by rfl)
        subst ho
        have d7 : a.tmps.getD 94 undef = (.bool false) := by have h1 := hF 7 (by decide) (hr 7 (by kernel_rfl)); exact h1.2.trans h1.1
        have f3 : a.tmps.getD 3 undef = (.int .i64 (k : Int)) := hf 3 (by kernel_rfl)
        exact .inl ⟨(fun k b h => by cases h; exact ⟨7, by decide, rfl, d7⟩), .inl ⟨8, by decide, rfl, (.int .i64 (k : Int)), W, (by simp [go_sem, Act.eval, d7, f3]), rfl, hJ⟩⟩
       ·replace ho := op_at ho (by rfl)
        subst ho
        have d8 : a.tmps.getD 95 undef = (.int .i64 (k : Int)) := by have h1 := hF 8 (by decide) (hr 8 (by kernel_rfl)); exact h1.2.trans h1.1
        have d7 : a.tmps.getD 94 undef = (.bool false) := by have h1 := hF 7 (by decide) (hr 7 (by kernel_rfl)); exact h1.2.trans h1.1
        exact .inl ⟨(fun k b h => by cases h; exact ⟨7, by decide, rfl, d7⟩), .inl ⟨9, by decide, rfl, (.bool false), W, (by simp [go_sem, Act.eval, d8, d7, hk0.out]), rfl, hJ⟩⟩
       ·replace ho := op_at ho (by rfl)
        subst ho
        have d9 : a.tmps.getD 96 undef = (.bool false) := by have h1 := hF 9 (by decide) (hr 9 (by kernel_rfl)); exact h1.2.trans h1.1
        have d7 : a.tmps.getD 94 undef = (.bool false) := by have h1 := hF 7 (by decide) (hr 7 (by kernel_rfl)); exact h1.2.trans h1.1
        exact .inl ⟨(fun k b h => by cases h; exact ⟨7, by decide, rfl, d7⟩), .inl ⟨10, by decide, rfl, (.bool false), W, (by simp [go_sem, Act.eval, d9, d7]), rfl, hJ⟩⟩
       ·replace ho := op_at ho (by rfl)
        subst ho
        have d10 : a.tmps.getD 97 undef = (.bool false) := by have h1 := hF 10 (by decide) (hr 10 (by kernel_rfl)); exact h1.2.trans h1.1
        exact .inr ⟨10, true, 10, rfl, by decide, rfl, (fun hc => by have hc2 := d10.symm.trans hc; first | (cases hc2; done) | simp [undef] at hc2), .inl ⟨11, by decide, rfl, rfl, hJ⟩⟩
       ·replace ho := op_at ho (by rfl)
        subst ho
        have d10 : a.tmps.getD 97 undef = (.bool false) := by have h1 := hF 10 (by decide) (hr 10 (by kernel_rfl)); exact h1.2.trans h1.1
        exact .inr ⟨10, true, 10, rfl, by decide, rfl, (fun hc => by have hc2 := d10.symm.trans hc; first | (cases hc2; done) | simp [undef] at hc2), .inl ⟨12, by decide, rfl, rfl, hJ⟩⟩
       ·replace ho := op_at ho (by rfl)
        subst ho
        have d10 : a.tmps.getD 97 undef = (.bool false) := by have h1 := hF 10 (by decide) (hr 10 (by kernel_rfl)); exact h1.2.trans h1.1
        exact .inr ⟨10, true, 10, rfl, by decide, rfl, (fun hc => by have hc2 := d10.symm.trans hc; first | (cases hc2; done) | simp [undef] at hc2), .inl ⟨13, by decide, rfl, rfl, hJ⟩⟩
       ·replace ho := op_at ho (by rfl)
        subst ho
        have d10 : a.tmps.getD 97 undef = (.bool false) := by have h1 := hF 10 (by decide) (hr 10 (by kernel_rfl)); exact h1.2.trans h1.1
        exact .inr ⟨10, true, 10, rfl, by decide, rfl, (fun hc => by have hc2 := d10.symm.trans hc; first | (cases hc2; done) | simp [undef] at hc2), .inl ⟨14, by decide, rfl, rfl, hJ⟩⟩
       ·replace ho := op_at ho (by rfl)
        subst ho
        have d10 : a.tmps.getD 97 undef = (.bool false) := by have h1 := hF 10 (by decide) (hr 10 (by kernel_rfl)); exact h1.2.trans h1.1
        exact .inr ⟨10, true, 10, rfl, by decide, rfl, (fun hc => by have hc2 := d10.symm.trans hc; first | (cases hc2; done) | simp [undef] at hc2), .inl ⟨15, by decide, rfl, rfl, hJ⟩⟩
       ·replace ho := op_at ho (by rfl)
        subst ho
        have d10 : a.tmps.getD 97 undef = (.bool false) := by have h1 := hF 10 (by decide) (hr 10 (by kernel_rfl)); exact h1.2.trans h1.1
        exact .inr ⟨10, true, 10, rfl, by decide, rfl, (fun hc => by have hc2 := d10.symm.trans hc; first | (cases hc2; done) | simp [undef] at hc2), .inl ⟨16, by decide, rfl, rfl, hJ⟩⟩
       ·replace ho := op_at ho (by rfl)
        subst ho
        have d10 : a.tmps.getD 97 undef = (.bool false) := by have h1 := hF 10 (by decide) (hr 10 (by kernel_rfl)); exact h1.2.trans h1.1
        exact .inr ⟨10, true, 10, rfl, by decide, rfl, (fun hc => by have hc2 := d10.symm.trans hc; first | (cases hc2; done) | simp [undef] at hc2), .inl ⟨17, by decide, rfl, rfl, hJ⟩⟩
       ·replace ho := op_at ho (by rfl)
        subst ho
        have d10 : a.tmps.getD 97 undef = (.bool false) := by have h1 := hF 10 (by decide) (hr 10 (by kernel_rfl)); exact h1.2.trans h1.1
        exact .inr ⟨10, true, 10, rfl, by decide, rfl, (fun hc => by have hc2 := d10.symm.trans hc; first | (cases hc2; done) | simp [undef] at hc2), .inl ⟨18, by decide, rfl, rfl, hJ⟩⟩
       ·replace ho := op_at ho (by rfl)
        subst ho
        have d10 : a.tmps.getD 97 undef = (.bool false) := by have h1 := hF 10 (by decide) (hr 10 (by kernel_rfl)); exact h1.2.trans h1.1
        exact .inr ⟨10, true, 10, rfl, by decide, rfl, (fun hc => by have hc2 := d10.symm.trans hc; first | (cases hc2; done) | simp [undef] at hc2), .inl ⟨19, by decide, rfl, rfl, hJ⟩⟩
       ·replace ho := op_at ho (by rfl)
        subst ho
        have d10 : a.tmps.getD 97 undef = (.bool false) := by have h1 := hF 10 (by decide) (hr 10 (by kernel_rfl)); exact h1.2.trans h1.1
        exact .inr ⟨10, true, 10, rfl, by decide, rfl, (fun hc => by have hc2 := d10.symm.trans hc; first | (cases hc2; done) | simp [undef] at hc2), .inl ⟨20, by decide, rfl, rfl, hJ⟩⟩
       ·replace ho := op_at ho (by rfl)
        subst ho
        have d10 : a.tmps.getD 97 undef = (.bool false) := by have h1 := hF 10 (by decide) (hr 10 (by kernel_rfl)); exact h1.2.trans h1.1
        exact .inr ⟨10, true, 10, rfl, by decide, rfl, (fun hc => by have hc2 := d10.symm.trans hc; first | (cases hc2; done) | simp [undef] at hc2), .inl ⟨21, by decide, rfl, rfl, hJ⟩⟩
       ·replace ho := op_at ho (by rfl)
        subst ho
        have d10 : a.tmps.getD 97 undef = (.bool false) := by have h1 := hF 10 (by decide) (hr 10 (by kernel_rfl)); exact h1.2.trans h1.1
        exact .inr ⟨10, true, 10, rfl, by decide, rfl, (fun hc => by have hc2 := d10.symm.trans hc; first | (cases hc2; done) | simp [undef] at hc2), .inl ⟨22, by decide, rfl, rfl, hJ⟩⟩
       ·replace ho := op_at ho (by rfl)
        subst ho
        have d10 : a.tmps.getD 97 undef = (.bool false) := by have h1 := hF 10 (by decide) (hr 10 (by kernel_rfl)); exact h1.2.trans h1.1
        exact .inr ⟨10, true, 10, rfl, by decide, rfl, (fun hc => by have hc2 := d10.symm.trans hc; first | (cases hc2; done) | simp [undef] at hc2), .inl ⟨23, by decide, rfl, rfl, hJ⟩⟩
       ·replace ho := op_at ho (by rfl)
        subst ho
        have d10 : a.tmps.getD 97 undef = (.bool false) := by have h1 := hF 10 (by decide) (hr 10 (by kernel_rfl)); exact h1.2.trans h1.1
        exact .inr ⟨10, true, 10, rfl, by decide, rfl, (fun hc => by have hc2 := d10.symm.trans hc; first | (cases hc2; done) | simp [undef] at hc2), .inl ⟨24, by decide, rfl, rfl, hJ⟩⟩
       ·replace ho := op_at ho (by rfl)
        subst ho
        have d10 : a.tmps.getD 97 undef = (.bool false) := by have h1 := hF 10 (by decide) (hr 10 (by kernel_rfl)); exact h1.2.trans h1.1
        exact .inr ⟨10, true, 10, rfl, by decide, rfl, (fun hc => by have hc2 := d10.symm.trans hc; first | (cases hc2; done) | simp [undef] at hc2), .inl ⟨25, by decide, rfl, rfl, hJ⟩⟩
       ·replace ho := op_at ho (by rfl)
        subst ho
        have d10 : a.tmps.getD 97 undef = (.bool false) := by have h1 := hF 10 (by decide) (hr 10 (by kernel_rfl)); exact h1.2.trans h1.1
        exact .inr ⟨10, true, 10, rfl, by decide, rfl, (fun hc => by have hc2 := d10.symm.trans hc; first | (cases hc2; done) | simp [undef] at hc2), .inl ⟨26, by decide, rfl, rfl, hJ⟩⟩
       ·replace ho := op_at ho (by rfl)
        subst ho
        have d10 : a.tmps.getD 97 undef = (.bool false) := by have h1 := hF 10 (by decide) (hr 10 (by kernel_rfl)); exact h1.2.trans h1.1
        have d7 : a.tmps.getD 94 undef = (.bool false) := by have h1 := hF 7 (by decide) (hr 7 (by kernel_rfl)); exact h1.2.trans h1.1
        exact .inl ⟨(fun k b h => by cases h; exact ⟨7, by decide, rfl, d7⟩), .inl ⟨27, by decide, rfl, (.bool false), W, (by simp [go_sem, Act.eval, d10, d7]), rfl, hJ⟩⟩
       ·replace ho := op_at ho (by rfl)
        subst ho
        have d7 : a.tmps.getD 94 undef = (.bool false) := by have h1 := hF 7 (by decide) (hr 7 (by kernel_rfl)); exact h1.2.trans h1.1
        have d27 : a.tmps.getD 114 undef = (.bool false) := by have h1 := hF 27 (by decide) (hr 27 (by kernel_rfl)); exact h1.2.trans h1.1
        exact .inl ⟨(fun k b h => by cases h), .inl ⟨28, by decide, rfl, (.bool false), W, (by simp [go_sem, Act.eval, d7, d27]), rfl, hJ⟩⟩
      case finq8 =>
       intro d vs Wq8 hall hJ hF
       have h0 : vs 0 = (.pointer (some ⟨w.heap.size, 7, none⟩)) := hF 0 (by decide)
       have h1 : vs 1 = (.slice (some ⟨b, off, none⟩) n cap) := hF 1 (by decide)
       have h2 : vs 2 = (.int .i64 (k : Int)) := hF 2 (by decide)
       have h3 : vs 3 = (.pointer (some ⟨b, off + k * 19, none⟩)) := hF 3 (by decide)
       have h4 : vs 4 = (.agg x.cells.toArray) := hF 4 (by decide)
       have h5 : vs 5 = (.bool true) := hF 5 (by decide)
       have h6 : vs 6 = (.bool false) := hF 6 (by decide)
       have h7 : vs 7 = (.bool false) := hF 7 (by decide)
       have h8 : vs 8 = (.int .i64 (k : Int)) := hF 8 (by decide)
       have h9 : vs 9 = (.bool false) := hF 9 (by decide)
       have h10 : vs 10 = (.bool false) := hF 10 (by decide)
       have h11 : vs 11 = undef := hF 11 (by decide)
       have h12 : vs 12 = undef := hF 12 (by decide)
       have h13 : vs 13 = undef := hF 13 (by decide)
       have h14 : vs 14 = undef := hF 14 (by decide)
       have h15 : vs 15 = undef := hF 15 (by decide)
       have h16 : vs 16 = undef := hF 16 (by decide)
       have h17 : vs 17 = undef := hF 17 (by decide)
       have h18 : vs 18 = undef := hF 18 (by decide)
       have h19 : vs 19 = undef := hF 19 (by decide)
       have h20 : vs 20 = undef := hF 20 (by decide)
       have h21 : vs 21 = undef := hF 21 (by decide)
       have h22 : vs 22 = undef := hF 22 (by decide)
       have h23 : vs 23 = undef := hF 23 (by decide)
       have h24 : vs 24 = undef := hF 24 (by decide)
       have h25 : vs 25 = undef := hF 25 (by decide)
       have h26 : vs 26 = undef := hF 26 (by decide)
       have h27 : vs 27 = (.bool false) := hF 27 (by decide)
       have h28 : vs 28 = (.bool false) := hF 28 (by decide)
       clear hF
       show (_ : Exit → Act → World → Prop) Exit.normal (puts _ vs 29 _) Wq8
       simp only [puts, h0, h1, h2, h3, h4, h5, h6, h7, h8, h9, h10, h11, h12, h13, h14, h15, h16, h17, h18, h19, h20, h21, h22, h23, h24, h25, h26, h27, h28, List.getD_cons_zero, List.getD_cons_succ]
       clear h0 h1 h2 h3 h4 h5 h6 h7 h8 h9 h10 h11 h12 h13 h14 h15 h16 h17 h18 h19 h20 h21 h22 h23 h24 h25 h26 h27 h28
       go_simp
       have hB9 : Below Wi.heap.size Wi Wq8 := hJ
       generalize Wq8 = W9 at *
       clear hJ hall
       have HG2 : Hid (∀ j, j < k + 1 → goodAt xs j = true) := fun j hj => by
        rcases Nat.lt_or_ge j k with h | h
        ·exact HG.out j h
        ·obtain rfl : j = k := by omega
         exact HGK.out
       have HB9 : Hid (Below W0.heap.size W0 W9) := HBi.out.trans (hB9.mono HBi.out.size)
       clear hB9 HG
       go_wp2
       go_roundw
       case rel => exact ⟨k + 1, by omega, by go_num, HG2, HB9⟩
       case measure => simp [intOf]; omega
   ·have hr := HRB.out
    rw [itemsB_t (fun j hj => HG.out j (by have := HN.out; omega))] at hr
    simp at hr
    have LF := HL0.out.trans (HB.out.mono HL0.out.size)
    have c7 := cell_of_row _ _ 7 _ _ _ (stays KB1.out HB.out)
    clear HG HB
    rw [show decide (n ≤ 8) = true by simp; omega] at hr
    subst hr
    go_wp2
    go_ret
    exact ⟨rfl, LF⟩
 by_cases hk4 : kind = 4
 ·subst hk4
  clear hk1 hk3 k1 k5 hk1'
  rw [if_pos (.inr rfl)] at HRB
  as_aux_lemma =>
  by_cases h8 : 8 < n
  ·have q8 : decide (8 < (n : Int)) = true := by simp; omega
   rw [show decide (n ≤ 8) = false by simp; omega] at HRB
   clear h8
   go_enter Tryd.func12, Tryd.ntmps12
   go_wp2_with (first | (with_reducible refine (hf _).mono ?_; rintro e w' ⟨rfl, rfl⟩) | (with_reducible refine (ht _).mono ?_; rintro e w' ⟨rfl, rfl⟩) | (with_reducible refine (hb _).mono ?_; rintro e w' ⟨rfl, rfl⟩) | (with_reducible refine (hl _).mono ?_; rintro e w' ⟨rfl, rfl⟩) | (with_reducible refine (he1 _).mono ?_; rintro e w' ⟨rfl, rfl⟩) | (with_reducible refine (he2 _).mono ?_; rintro e w' ⟨rfl, rfl⟩))
   go_ret
   have hr := HRB.out
   try simp at hr
   subst hr
   exact ⟨by first | rfl | simp, (Below.refl _ _).alloc (Nat.le_refl _) _⟩
  have q8 : decide (8 < (n : Int)) = false := by simp; omega
  go_enter Tryd.func12, Tryd.ntmps12
  go_wp2_with (first | (with_reducible refine (hf _).mono ?_; rintro e w' ⟨rfl, rfl⟩) | (with_reducible refine (ht _).mono ?_; rintro e w' ⟨rfl, rfl⟩) | (with_reducible refine (hb _).mono ?_; rintro e w' ⟨rfl, rfl⟩) | (with_reducible refine (hl _).mono ?_; rintro e w' ⟨rfl, rfl⟩) | (with_reducible refine (he1 _).mono ?_; rintro e w' ⟨rfl, rfl⟩) | (with_reducible refine (he2 _).mono ?_; rintro e w' ⟨rfl, rfl⟩))
  clear hf ht hb hl he1 he2
  obtain ⟨g0, kb⟩ := new_block w (.cells #[.int .i64 4, .int .i64 frm, .int .i64 to, .int .i64 boot, .int .i64 life, .int .i64 echo, .int .i64 elife, .slice ao n cap] 24)
  obtain ⟨W0, hW0⟩ : ∃ W0, W0 = w.alloc (.cells #[.int .i64 4, .int .i64 frm, .int .i64 to, .int .i64 boot, .int .i64 life, .int .i64 echo, .int .i64 elife, .slice ao n cap] 24) := ⟨_, rfl⟩
  rw [← hW0] at g0 kb ⊢
  clear hW0
  have HL0 := Lib.hid g0
  have KB1 := Lib.hid kb
  clear g0 kb e5 q8
  skip
  go_loopw [3] (fun i wr => ∃ k : Nat, k ≤ n ∧ i = .int .i64 (k : Int) ∧ Hid (∀ j, j < k → goodAt xs j = true) ∧ Hid (Below W0.heap.size W0 wr)) (fun i _ => n - (intOf i).toNat)
  case atStart => exact ⟨0, Nat.zero_le _, rfl, fun j hj => absurd hj (by omega), Below.refl _ _⟩
  case round =>
   obtain ⟨k, hk, rfl, HG, HB⟩ := hrel
   by_cases hlt : k < n
   ·have hkx : k < xs.length := by have := HN.out; omega
    obtain ⟨b, off, hao, hb, hcc⟩ := (HV.out.below (HL0.out.trans (HB.out.mono HL0.out.size)) (HL0.out.trans (HB.out.mono HL0.out.size)).size).at k hkx
    subst hao
    obtain ⟨x, hx⟩ : ∃ x, x = xs.getD k nilI := ⟨_, rfl⟩
    obtain ⟨y, hy⟩ : ∃ y, y = xs.getD (k - 1) nilI := ⟨_, rfl⟩
    have hrk : wr.rangeAt b (off + k * 19) x.cells := by rw [hx]; exact hcc k _ (getD_some hkx)
    have hc0 : wr.cell? ⟨b, off + k * 19, none⟩ = some (.string ⟨x.name.toArray⟩) := hrk 0 _ rfl
    have hc1 : wr.cell? ⟨b, off + (k - 1) * 19, none⟩ = some (.string ⟨y.name.toArray⟩) := by rw [hy]; exact hcc (k - 1) _ (getD_some (by omega)) 0 _ rfl
    have HNM : Hid (x.name.length ≤ 9223372036854775807) := by show _ ≤ _; rw [hx]; exact HNL.out _ (List.mem_of_getElem? (getD_some hkx))
    have HX := Lib.hid hx
    have HY := Lib.hid hy
    clear hx hy
    clear hcc hkx
    have hki : 0 ≤ (k : Int) ∧ (k : Int) < (n : Int) := by omega
    have c7 := cell_of_row _ _ 7 _ _ _ (stays KB1.out HB.out)
    go_upto_region 15 with (fail)
    obtain ⟨Wi, hWi⟩ : ∃ Wi, Wi = wr := ⟨_, rfl⟩
    have KB := Lib.hid (stays KB1.out HB.out)
    have HBi := Lib.hid HB.out
    have hbW := hb
    rw [← hWi] at hrk hc0 hc1 KB HBi hbW ⊢
    clear HB hWi c7
    have hki1 : 0 < k → 0 ≤ (k : Int) - 1 ∧ (k : Int) - 1 < (n : Int) := fun _ => by omega
    have htn : 0 < k → ((k : Int) - 1).toNat = k - 1 := fun _ => by omega
    have hsub : 0 < k → IntKind.i64.wrap ((k : Int) - 1) = (k : Int) - 1 := fun _ => IntWalk.i64_in _ (by omega)
    clear hlt hk
    cases hfi : fitI x with
    | false =>
     as_aux_lemma =>
     have HGK : Hid (goodAt xs k = false) := by show _ = _; unfold goodAt; rw [← HX.out, ← HY.out]; rw [hfi]; rfl
     have hcon : ∀ W, Calls Tryd.prog 18 #[.agg x.cells.toArray] W fun e w' => e = .returned (.bool false) ∧ Below W.heap.size W w' := fun W => by
      have := ritem_any x W HNM.out
      rw [hfi] at this
      exact this
     clear hki1 htn hsub hc1 hfi
     refine wpIn_wide (n := 5).1 (wpIn_flowM (F0 := Fence.wide) (n0 := 5) (fun _ => trivial) (fun h => by cases h) (by kernel_rfl) (by kernel_rfl) 29 29 (by kernel_rfl) (fun j => ([0, 1, 2, 3, 4, 5, 6, 7, 8, 9, 10, 11, 12, 13, 14, 15, 16, 17, 18, 19, 20, 21, 22, 23, 24, 25, 26, 27, 28] : List Nat).getD j 0) (fun j => ([87, 88, 89, 90, 91, 92, 93, 94, 95, 96, 97, 98, 99, 100, 101, 102, 103, 104, 105, 106, 107, 108, 109, 110, 111, 112, 113, 114, 115] : List Nat).getD j 0) (by kernel_rfl) (by kernel_rfl) (by kernel_rfl) (by kernel_rfl) (by kernel_rfl) (by kernel_rfl) (by kernel_rfl) (fun j zv => ([(fun zv => zv = (.pointer (some ⟨w.heap.size, 7, none⟩))), (fun zv => zv = (.slice (some ⟨b, off, none⟩) n cap)), (fun zv => zv = (.int .i64 (k : Int))), (fun zv => zv = (.pointer (some ⟨b, off + k * 19, none⟩))), (fun zv => zv = (.agg x.cells.toArray)), (fun zv => zv = (.bool false)), (fun zv => zv = (.bool true)), (fun zv => zv = (.bool true)), (fun zv => zv = undef), (fun zv => zv = undef), (fun zv => zv = undef), (fun zv => zv = undef), (fun zv => zv = undef), (fun zv => zv = undef), (fun zv => zv = undef), (fun zv => zv = undef), (fun zv => zv = undef), (fun zv => zv = undef), (fun zv => zv = undef), (fun zv => zv = undef), (fun zv => zv = undef), (fun zv => zv = undef), (fun zv => zv = undef), (fun zv => zv = undef), (fun zv => zv = undef), (fun zv => zv = undef), (fun zv => zv = undef), (fun zv => zv = undef), (fun zv => zv = (.bool true))] : List (Value → Prop)).getD j (fun _ => True) zv) (fun _ _ W => Below Wi.heap.size Wi W) ?h0q5 ?stepq5 ?finq5)
     case h0q5 => exact fun _ => bdN Wi.heap.size Wi 1
     case stepq5 =>
      intro i o a W d vs hi ho hdi hJ hf hr hF
      replace hi : i < 29 := hi
      rcases (show i = 0 ∨ i = 1 ∨ i = 2 ∨ i = 3 ∨ i = 4 ∨ i = 5 ∨ i = 6 ∨ i = 7 ∨ i = 8 ∨ i = 9 ∨ i = 10 ∨ i = 11 ∨ i = 12 ∨ i = 13 ∨ i = 14 ∨ i = 15 ∨ i = 16 ∨ i = 17 ∨ i = 18 ∨ i = 19 ∨ i = 20 ∨ i = 21 ∨ i = 22 ∨ i = 23 ∨ i = 24 ∨ i = 25 ∨ i = 26 ∨ i = 27 ∨ i = 28 by omega) with rfl | rfl | rfl | rfl | rfl | rfl | rfl | rfl | rfl | rfl | rfl | rfl | rfl | rfl | rfl | rfl | rfl | rfl | rfl | rfl | rfl | rfl | rfl | rfl | rfl | rfl | rfl | rfl | rfl
      ·replace ho := op_at ho (by rfl)
       subst ho
       have f1 : a.tmps.getD 1 undef = (.pointer (some ⟨w.heap.size, 0, none⟩)) := hf 1 (by kernel_rfl)
       exact .inl ⟨(fun k b h => by cases h), .inl ⟨0, by decide, rfl, (.pointer (some ⟨w.heap.size, 7, none⟩)), W, (by simp [go_sem, Act.eval, f1]), rfl, hJ⟩⟩
      ·replace ho := op_at ho (by rfl)
       subst ho
       have d0 : a.tmps.getD 87 undef = (.pointer (some ⟨w.heap.size, 7, none⟩)) := by have h1 := hF 0 (by decide) (hr 0 (by kernel_rfl)); exact h1.2.trans h1.1
       have c7 := cell_of_row _ _ 7 _ _ _ (stays KB.out hJ)
       exact .inl ⟨(fun k b h => by cases h), .inl ⟨1, by decide, rfl, (.slice (some ⟨b, off, none⟩) n cap), W, (by simp [go_sem, Act.eval, d0, c7]), rfl, hJ⟩⟩
      ·replace ho := op_at ho (by rfl)
       subst ho
       have f3 : a.tmps.getD 3 undef = (.int .i64 (k : Int)) := hf 3 (by kernel_rfl)
       exact .inl ⟨(fun k b h => by cases h), .inl ⟨2, by decide, rfl, (.int .i64 (k : Int)), W, (by simp [go_sem, Act.eval, f3]), rfl, hJ⟩⟩
      ·replace ho := op_at ho (by rfl)
       subst ho
       have d1 : a.tmps.getD 88 undef = (.slice (some ⟨b, off, none⟩) n cap) := by have h1 := hF 1 (by decide) (hr 1 (by kernel_rfl)); exact h1.2.trans h1.1
       have d2 : a.tmps.getD 89 undef = (.int .i64 (k : Int)) := by have h1 := hF 2 (by decide) (hr 2 (by kernel_rfl)); exact h1.2.trans h1.1
       exact .inl ⟨(fun k b h => by cases h), .inl ⟨3, by decide, rfl, (.pointer (some ⟨b, off + k * 19, none⟩)), W, (by simp [go_sem, Act.eval, d1, d2, hki]), rfl, hJ⟩⟩
      ·replace ho := op_at ho (by rfl)
       subst ho
       have d3 : a.tmps.getD 90 undef = (.pointer (some ⟨b, off + k * 19, none⟩)) := by have h1 := hF 3 (by decide) (hr 3 (by kernel_rfl)); exact h1.2.trans h1.1
       exact .inl ⟨(fun k b h => by cases h), .inl ⟨4, by decide, rfl, (.agg x.cells.toArray), W, (exec_load_mid 38 _ rfl b (off + k * 19) _ (.struct (Tryd.prog.fieldsOf 38)) (show a.eval (.tmp 90) = _ from d3) (fun j u hu => (hJ.cell (p := ⟨b, off + k * 19 + j, none⟩) hbW).trans (hrk j u hu)) (by kernel_rfl) rfl (by kernel_rfl)), rfl, hJ⟩⟩
      ·replace ho := op_at ho (by rfl)
       subst ho
       have d4 : a.tmps.getD 91 undef = (.agg x.cells.toArray) := by have h1 := hF 4 (by decide) (hr 4 (by kernel_rfl)); exact h1.2.trans h1.1
       refine .inl ⟨(fun k b h => by cases h), .inr (.inr ⟨5, by decide, rfl, 18, #[(.agg x.cells.toArray)], W, (by simp [go_sem, Act.eval, d4]), ?_⟩)⟩
       refine (callsIn_wide.2 (hcon W)).mono ?_
       rintro e W' ⟨rfl, hBe⟩
       exact ⟨_, rfl, rfl, hJ.trans (hBe.mono hJ.size)⟩
      ·replace ho := op_at ho (by rfl)
       subst ho
       have d5 : a.tmps.getD 92 undef = (.bool false) := by have h1 := hF 5 (by decide) (hr 5 (by kernel_rfl)); exact h1.2.trans h1.1
       exact .inl ⟨(fun k b h => by cases h), .inl ⟨6, by decide, rfl, (.bool true), W, (by simp [go_sem, Act.eval, d5]), rfl, hJ⟩⟩
      ·replace ho := op_at ho (by rfl)
       subst ho
       have d6 : a.tmps.getD 93 undef = (.bool true) := by have h1 := hF 6 (by decide) (hr 6 (by kernel_rfl)); exact h1.2.trans h1.1
       exact .inl ⟨(fun k b h => by cases h), .inl ⟨7, by decide, rfl, (.bool true), W, (by simp [go_sem, Act.eval, d6]), rfl, hJ⟩⟩
      ·replace ho := op_at ho (by rfl)
       subst ho
       have d7 : a.tmps.getD 94 undef = (.bool true) := by have h1 := hF 7 (by decide) (hr 7 (by kernel_rfl)); exact h1.2.trans h1.1
       exact .inr ⟨7, false, 7, rfl, by decide, rfl, (fun hc => by have hc2 := d7.symm.trans hc; first | (cases hc2; done) | simp [undef] at hc2), .inl ⟨8, by decide, rfl, rfl, hJ⟩⟩
      ·replace ho := op_at ho (by rfl)
       subst ho
       have d7 : a.tmps.getD 94 undef = (.bool true) := by have h1 := hF 7 (by decide) (hr 7 (by kernel_rfl)); exact h1.2.trans h1.1
       exact .inr ⟨7, false, 7, rfl, by decide, rfl, (fun hc => by have hc2 := d7.symm.trans hc; first | (cases hc2; done) | simp [undef] at hc2), .inl ⟨9, by decide, rfl, rfl, hJ⟩⟩
      ·replace ho := op_at ho (by rfl)
       subst ho
       have d7 : a.tmps.getD 94 undef = (.bool true) := by have h1 := hF 7 (by decide) (hr 7 (by kernel_rfl)); exact h1.2.trans h1.1
       exact .inr ⟨7, false, 7, rfl, by decide, rfl, (fun hc => by have hc2 := d7.symm.trans hc; first | (cases hc2; done) | simp [undef] at hc2), .inl ⟨10, by decide, rfl, rfl, hJ⟩⟩
      ·replace ho := op_at ho (by rfl)
       subst ho
       have d10 : a.tmps.getD 97 undef = undef := by have h1 := hF 10 (by decide) (hr 10 (by kernel_rfl)); exact h1.2.trans h1.1
       exact .inr ⟨10, true, 10, rfl, by decide, rfl, (fun hc => by have hc2 := d10.symm.trans hc; first | (cases hc2; done) | simp [undef] at hc2), .inl ⟨11, by decide, rfl, rfl, hJ⟩⟩
      ·replace ho := op_at ho (by rfl)
       subst ho
       have d10 : a.tmps.getD 97 undef = undef := by have h1 := hF 10 (by decide) (hr 10 (by kernel_rfl)); exact h1.2.trans h1.1
       exact .inr ⟨10, true, 10, rfl, by decide, rfl, (fun hc => by have hc2 := d10.symm.trans hc; first | (cases hc2; done) | simp [undef] at hc2), .inl ⟨12, by decide, rfl, rfl, hJ⟩⟩
      ·replace ho := op_at ho (by rfl)
       subst ho
       have d10 : a.tmps.getD 97 undef = undef := by have h1 := hF 10 (by decide) (hr 10 (by kernel_rfl)); exact h1.2.trans h1.1
       exact .inr ⟨10, true, 10, rfl, by decide, rfl, (fun hc => by have hc2 := d10.symm.trans hc; first | (cases hc2; done) | simp [undef] at hc2), .inl ⟨13, by decide, rfl, rfl, hJ⟩⟩
      ·replace ho := op_at ho (by rfl)
       subst ho
       have d10 : a.tmps.getD 97 undef = undef := by have h1 := hF 10 (by decide) (hr 10 (by kernel_rfl)); exact h1.2.trans h1.1
       exact .inr ⟨10, true, 10, rfl, by decide, rfl, (fun hc => by have hc2 := d10.symm.trans hc; first | (cases hc2; done) | simp [undef] at hc2), .inl ⟨14, by decide, rfl, rfl, hJ⟩⟩
      ·replace ho := op_at ho (by rfl)
       subst ho
       have d10 : a.tmps.getD 97 undef = undef := by have h1 := hF 10 (by decide) (hr 10 (by kernel_rfl)); exact h1.2.trans h1.1
       exact .inr ⟨10, true, 10, rfl, by decide, rfl, (fun hc => by have hc2 := d10.symm.trans hc; first | (cases hc2; done) | simp [undef] at hc2), .inl ⟨15, by decide, rfl, rfl, hJ⟩⟩
      ·replace ho := op_at ho (by rfl)
       subst ho
       have d10 : a.tmps.getD 97 undef = undef := by have h1 := hF 10 (by decide) (hr 10 (by kernel_rfl)); exact h1.2.trans h1.1
       exact .inr ⟨10, true, 10, rfl, by decide, rfl, (fun hc => by have hc2 := d10.symm.trans hc; first | (cases hc2; done) | simp [undef] at hc2), .inl ⟨16, by decide, rfl, rfl, hJ⟩⟩
      ·replace ho := op_at ho (by rfl)
       subst ho
       have d10 : a.tmps.getD 97 undef = undef := by have h1 := hF 10 (by decide) (hr 10 (by kernel_rfl)); exact h1.2.trans h1.1
       exact .inr ⟨10, true, 10, rfl, by decide, rfl, (fun hc => by have hc2 := d10.symm.trans hc; first | (cases hc2; done) | simp [undef] at hc2), .inl ⟨17, by decide, rfl, rfl, hJ⟩⟩
      ·replace ho := op_at ho (by rfl)
       subst ho
       have d10 : a.tmps.getD 97 undef = undef := by have h1 := hF 10 (by decide) (hr 10 (by kernel_rfl)); exact h1.2.trans h1.1
       exact .inr ⟨10, true, 10, rfl, by decide, rfl, (fun hc => by have hc2 := d10.symm.trans hc; first | (cases hc2; done) | simp [undef] at hc2), .inl ⟨18, by decide, rfl, rfl, hJ⟩⟩
      ·replace ho := op_at ho (by rfl)
       subst ho
       have d10 : a.tmps.getD 97 undef = undef := by have h1 := hF 10 (by decide) (hr 10 (by kernel_rfl)); exact h1.2.trans h1.1
       exact .inr ⟨10, true, 10, rfl, by decide, rfl, (fun hc => by have hc2 := d10.symm.trans hc; first | (cases hc2; done) | simp [undef] at hc2), .inl ⟨19, by decide, rfl, rfl, hJ⟩⟩
      ·replace ho := op_at ho (by rfl)
       subst ho
       have d10 : a.tmps.getD 97 undef = undef := by have h1 := hF 10 (by decide) (hr 10 (by kernel_rfl)); exact h1.2.trans h1.1
       exact .inr ⟨10, true, 10, rfl, by decide, rfl, (fun hc => by have hc2 := d10.symm.trans hc; first | (cases hc2; done) | simp [undef] at hc2), .inl ⟨20, by decide, rfl, rfl, hJ⟩⟩
      ·replace ho := op_at ho (by rfl)
       subst ho
       have d10 : a.tmps.getD 97 undef = undef := by have h1 := hF 10 (by decide) (hr 10 (by kernel_rfl)); exact h1.2.trans h1.1
       exact .inr ⟨10, true, 10, rfl, by decide, rfl, (fun hc => by have hc2 := d10.symm.trans hc; first | (cases hc2; done) | simp [undef] at hc2), .inl ⟨21, by decide, rfl, rfl, hJ⟩⟩
      ·replace ho := op_at ho (by rfl)
       subst ho
       have d10 : a.tmps.getD 97 undef = undef := by have h1 := hF 10 (by decide) (hr 10 (by kernel_rfl)); exact h1.2.trans h1.1
       exact .inr ⟨10, true, 10, rfl, by decide, rfl, (fun hc => by have hc2 := d10.symm.trans hc; first | (cases hc2; done) | simp [undef] at hc2), .inl ⟨22, by decide, rfl, rfl, hJ⟩⟩
      ·replace ho := op_at ho (by rfl)
       subst ho
       have d10 : a.tmps.getD 97 undef = undef := by have h1 := hF 10 (by decide) (hr 10 (by kernel_rfl)); exact h1.2.trans h1.1
       exact .inr ⟨10, true, 10, rfl, by decide, rfl, (fun hc => by have hc2 := d10.symm.trans hc; first | (cases hc2; done) | simp [undef] at hc2), .inl ⟨23, by decide, rfl, rfl, hJ⟩⟩
      ·replace ho := op_at ho (by rfl)
       subst ho
       have d10 : a.tmps.getD 97 undef = undef := by have h1 := hF 10 (by decide) (hr 10 (by kernel_rfl)); exact h1.2.trans h1.1
       exact .inr ⟨10, true, 10, rfl, by decide, rfl, (fun hc => by have hc2 := d10.symm.trans hc; first | (cases hc2; done) | simp [undef] at hc2), .inl ⟨24, by decide, rfl, rfl, hJ⟩⟩
      ·replace ho := op_at ho (by rfl)
       subst ho
       have d10 : a.tmps.getD 97 undef = undef := by have h1 := hF 10 (by decide) (hr 10 (by kernel_rfl)); exact h1.2.trans h1.1
       exact .inr ⟨10, true, 10, rfl, by decide, rfl, (fun hc => by have hc2 := d10.symm.trans hc; first | (cases hc2; done) | simp [undef] at hc2), .inl ⟨25, by decide, rfl, rfl, hJ⟩⟩
      ·replace ho := op_at ho (by rfl)
       subst ho
       have d10 : a.tmps.getD 97 undef = undef := by have h1 := hF 10 (by decide) (hr 10 (by kernel_rfl)); exact h1.2.trans h1.1
       exact .inr ⟨10, true, 10, rfl, by decide, rfl, (fun hc => by have hc2 := d10.symm.trans hc; first | (cases hc2; done) | simp [undef] at hc2), .inl ⟨26, by decide, rfl, rfl, hJ⟩⟩
      ·replace ho := op_at ho (by rfl)
       subst ho
       have d7 : a.tmps.getD 94 undef = (.bool true) := by have h1 := hF 7 (by decide) (hr 7 (by kernel_rfl)); exact h1.2.trans h1.1
       exact .inr ⟨7, false, 7, rfl, by decide, rfl, (fun hc => by have hc2 := d7.symm.trans hc; first | (cases hc2; done) | simp [undef] at hc2), .inl ⟨27, by decide, rfl, rfl, hJ⟩⟩
      ·replace ho := op_at ho (by rfl)
       subst ho
       have d7 : a.tmps.getD 94 undef = (.bool true) := by have h1 := hF 7 (by decide) (hr 7 (by kernel_rfl)); exact h1.2.trans h1.1
       exact .inl ⟨(fun k b h => by cases h), .inl ⟨28, by decide, rfl, (.bool true), W, (by simp [go_sem, Act.eval, d7]), rfl, hJ⟩⟩
     case finq5 =>
      intro d vs Wq5 hall hJ hF
      have h0 : vs 0 = (.pointer (some ⟨w.heap.size, 7, none⟩)) := hF 0 (by decide)
      have h1 : vs 1 = (.slice (some ⟨b, off, none⟩) n cap) := hF 1 (by decide)
      have h2 : vs 2 = (.int .i64 (k : Int)) := hF 2 (by decide)
      have h3 : vs 3 = (.pointer (some ⟨b, off + k * 19, none⟩)) := hF 3 (by decide)
      have h4 : vs 4 = (.agg x.cells.toArray) := hF 4 (by decide)
      have h5 : vs 5 = (.bool false) := hF 5 (by decide)
      have h6 : vs 6 = (.bool true) := hF 6 (by decide)
      have h7 : vs 7 = (.bool true) := hF 7 (by decide)
      have h8 : vs 8 = undef := hF 8 (by decide)
      have h9 : vs 9 = undef := hF 9 (by decide)
      have h10 : vs 10 = undef := hF 10 (by decide)
      have h11 : vs 11 = undef := hF 11 (by decide)
      have h12 : vs 12 = undef := hF 12 (by decide)
      have h13 : vs 13 = undef := hF 13 (by decide)
      have h14 : vs 14 = undef := hF 14 (by decide)
      have h15 : vs 15 = undef := hF 15 (by decide)
      have h16 : vs 16 = undef := hF 16 (by decide)
      have h17 : vs 17 = undef := hF 17 (by decide)
      have h18 : vs 18 = undef := hF 18 (by decide)
      have h19 : vs 19 = undef := hF 19 (by decide)
      have h20 : vs 20 = undef := hF 20 (by decide)
      have h21 : vs 21 = undef := hF 21 (by decide)
      have h22 : vs 22 = undef := hF 22 (by decide)
      have h23 : vs 23 = undef := hF 23 (by decide)
      have h24 : vs 24 = undef := hF 24 (by decide)
      have h25 : vs 25 = undef := hF 25 (by decide)
      have h26 : vs 26 = undef := hF 26 (by decide)
      have h27 : vs 27 = undef := hF 27 (by decide)
      have h28 : vs 28 = (.bool true) := hF 28 (by decide)
      clear hF
      show (_ : Exit → Act → World → Prop) Exit.normal (puts _ vs 29 _) Wq5
      simp only [puts, h0, h1, h2, h3, h4, h5, h6, h7, h8, h9, h10, h11, h12, h13, h14, h15, h16, h17, h18, h19, h20, h21, h22, h23, h24, h25, h26, h27, h28, List.getD_cons_zero, List.getD_cons_succ]
      clear h0 h1 h2 h3 h4 h5 h6 h7 h8 h9 h10 h11 h12 h13 h14 h15 h16 h17 h18 h19 h20 h21 h22 h23 h24 h25 h26 h27 h28
      go_simp
      have hB9 : Below Wi.heap.size Wi Wq5 := hJ
      generalize Wq5 = W9 at *
      clear hJ hall
      have hr := HRB.out
      rw [itemsB_f k (by have := HN.out; omega) HGK.out] at hr
      simp at hr
      subst hr
      have LF := HL0.out.trans ((HBi.out.trans (hB9.mono HBi.out.size)).mono HL0.out.size)
      go_wp2
      go_ret
      exact ⟨rfl, LF⟩
    | true =>
     by_cases hp : 0 < k
     ·replace hki1 := hki1 hp
      replace htn := htn hp
      replace hsub := hsub hp
      have hk1n : Hid (((k : Int) < 1) = False) := by show _ = _; simp; omega
      replace hp := Lib.hid hp
      cases hlt' : ltN y.name x.name with
      | false =>
       as_aux_lemma =>
       have HLT : Hid (Op.bytesLess (⟨y.name.toArray⟩ : ByteArray).toList (⟨x.name.toArray⟩ : ByteArray).toList = false) := hlt'
       have HGK : Hid (goodAt xs k = false) := by show _ = _; unfold goodAt; rw [← HX.out, ← HY.out]; rw [hfi, show (k == 0) = false by have := hp.out; simp; omega, hlt']; rfl
       have hcon : ∀ W, Calls Tryd.prog 18 #[.agg x.cells.toArray] W fun e w' => e = .returned (.bool true) ∧ Below W.heap.size W w' := fun W => by
        have := ritem_any x W HNM.out
        rw [hfi] at this
        exact this
       clear hlt' hfi
       refine wpIn_wide (n := 5).1 (wpIn_flowM (F0 := Fence.wide) (n0 := 5) (fun _ => trivial) (fun h => by cases h) (by kernel_rfl) (by kernel_rfl) 29 29 (by kernel_rfl) (fun j => ([0, 1, 2, 3, 4, 5, 6, 7, 8, 9, 10, 11, 12, 13, 14, 15, 16, 17, 18, 19, 20, 21, 22, 23, 24, 25, 26, 27, 28] : List Nat).getD j 0) (fun j => ([87, 88, 89, 90, 91, 92, 93, 94, 95, 96, 97, 98, 99, 100, 101, 102, 103, 104, 105, 106, 107, 108, 109, 110, 111, 112, 113, 114, 115] : List Nat).getD j 0) (by kernel_rfl) (by kernel_rfl) (by kernel_rfl) (by kernel_rfl) (by kernel_rfl) (by kernel_rfl) (by kernel_rfl) (fun j zv => ([(fun zv => zv = (.pointer (some ⟨w.heap.size, 7, none⟩))), (fun zv => zv = (.slice (some ⟨b, off, none⟩) n cap)), (fun zv => zv = (.int .i64 (k : Int))), (fun zv => zv = (.pointer (some ⟨b, off + k * 19, none⟩))), (fun zv => zv = (.agg x.cells.toArray)), (fun zv => zv = (.bool true)), (fun zv => zv = (.bool false)), (fun zv => zv = (.bool false)), (fun zv => zv = (.int .i64 (k : Int))), (fun zv => zv = (.bool true)), (fun zv => zv = (.bool true)), (fun zv => zv = (.pointer (some ⟨w.heap.size, 7, none⟩))), (fun zv => zv = (.slice (some ⟨b, off, none⟩) n cap)), (fun zv => zv = (.int .i64 (k : Int))), (fun zv => zv = (.int .i64 ((k : Int) - 1))), (fun zv => zv = (.pointer (some ⟨b, off + (k - 1) * 19, none⟩))), (fun zv => zv = (.pointer (some ⟨b, off + (k - 1) * 19, none⟩))), (fun zv => zv = (.pointer (some ⟨b, off + (k - 1) * 19, none⟩))), (fun zv => zv = (.string ⟨y.name.toArray⟩)), (fun zv => zv = (.pointer (some ⟨w.heap.size, 7, none⟩))), (fun zv => zv = (.slice (some ⟨b, off, none⟩) n cap)), (fun zv => zv = (.int .i64 (k : Int))), (fun zv => zv = (.pointer (some ⟨b, off + k * 19, none⟩))), (fun zv => zv = (.pointer (some ⟨b, off + k * 19, none⟩))), (fun zv => zv = (.pointer (some ⟨b, off + k * 19, none⟩))), (fun zv => zv = (.string ⟨x.name.toArray⟩)), (fun zv => zv = (.bool (!false))), (fun zv => zv = (.bool true)), (fun zv => zv = (.bool true))] : List (Value → Prop)).getD j (fun _ => True) zv) (fun _ _ W => Below Wi.heap.size Wi W) ?h0q6 ?stepq6 ?finq6)
       case h0q6 => exact fun _ => bdN Wi.heap.size Wi 1
       case stepq6 =>
        intro i o a W d vs hi ho hdi hJ hf hr hF
        replace hi : i < 29 := hi
        rcases (show i = 0 ∨ i = 1 ∨ i = 2 ∨ i = 3 ∨ i = 4 ∨ i = 5 ∨ i = 6 ∨ i = 7 ∨ i = 8 ∨ i = 9 ∨ i = 10 ∨ i = 11 ∨ i = 12 ∨ i = 13 ∨ i = 14 ∨ i = 15 ∨ i = 16 ∨ i = 17 ∨ i = 18 ∨ i = 19 ∨ i = 20 ∨ i = 21 ∨ i = 22 ∨ i = 23 ∨ i = 24 ∨ i = 25 ∨ i = 26 ∨ i = 27 ∨ i = 28 by omega) with rfl | rfl | rfl | rfl | rfl | rfl | rfl | rfl | rfl | rfl | rfl | rfl | rfl | rfl | rfl | rfl | rfl | rfl | rfl | rfl | rfl | rfl | rfl | rfl | rfl | rfl | rfl | rfl | rfl
        ·replace ho := op_at ho (by rfl)
         subst ho
         have f1 : a.tmps.getD 1 undef = (.pointer (some ⟨w.heap.size, 0, none⟩)) := hf 1 (by kernel_rfl)
         exact .inl ⟨(fun k b h => by cases h), .inl ⟨0, by decide, rfl, (.pointer (some ⟨w.heap.size, 7, none⟩)), W, (by simp [go_sem, Act.eval, f1]), rfl, hJ⟩⟩
        ·replace ho := op_at ho (by rfl)
         subst ho
         have d0 : a.tmps.getD 87 undef = (.pointer (some ⟨w.heap.size, 7, none⟩)) := by have h1 := hF 0 (by decide) (hr 0 (by kernel_rfl)); exact h1.2.trans h1.1
         have c7 := cell_of_row _ _ 7 _ _ _ (stays KB.out hJ)
         exact .inl ⟨(fun k b h => by cases h), .inl ⟨1, by decide, rfl, (.slice (some ⟨b, off, none⟩) n cap), W, (by simp [go_sem, Act.eval, d0, c7]), rfl, hJ⟩⟩
        ·replace ho := op_at ho (by rfl)
         subst ho
         have f3 : a.tmps.getD 3 undef = (.int .i64 (k : Int)) := hf 3 (by kernel_rfl)
         exact .inl ⟨(fun k b h => by cases h), .inl ⟨2, by decide, rfl, (.int .i64 (k : Int)), W, (by simp [go_sem, Act.eval, f3]), rfl, hJ⟩⟩
        ·replace ho := op_at ho (by rfl)
         subst ho
         have d1 : a.tmps.getD 88 undef = (.slice (some ⟨b, off, none⟩) n cap) := by have h1 := hF 1 (by decide) (hr 1 (by kernel_rfl)); exact h1.2.trans h1.1
         have d2 : a.tmps.getD 89 undef = (.int .i64 (k : Int)) := by have h1 := hF 2 (by decide) (hr 2 (by kernel_rfl)); exact h1.2.trans h1.1
         exact .inl ⟨(fun k b h => by cases h), .inl ⟨3, by decide, rfl, (.pointer (some ⟨b, off + k * 19, none⟩)), W, (by simp [go_sem, Act.eval, d1, d2, hki]), rfl, hJ⟩⟩
        ·replace ho := op_at ho (by rfl)
         subst ho
         have d3 : a.tmps.getD 90 undef = (.pointer (some ⟨b, off + k * 19, none⟩)) := by have h1 := hF 3 (by decide) (hr 3 (by kernel_rfl)); exact h1.2.trans h1.1
         exact .inl ⟨(fun k b h => by cases h), .inl ⟨4, by decide, rfl, (.agg x.cells.toArray), W, (exec_load_mid 38 _ rfl b (off + k * 19) _ (.struct (Tryd.prog.fieldsOf 38)) (show a.eval (.tmp 90) = _ from d3) (fun j u hu => (hJ.cell (p := ⟨b, off + k * 19 + j, none⟩) hbW).trans (hrk j u hu)) (by kernel_rfl) rfl (by kernel_rfl)), rfl, hJ⟩⟩
        ·replace ho := op_at ho (by rfl)
         subst ho
         have d4 : a.tmps.getD 91 undef = (.agg x.cells.toArray) := by have h1 := hF 4 (by decide) (hr 4 (by kernel_rfl)); exact h1.2.trans h1.1
         refine .inl ⟨(fun k b h => by cases h), .inr (.inr ⟨5, by decide, rfl, 18, #[(.agg x.cells.toArray)], W, (by simp [go_sem, Act.eval, d4]), ?_⟩)⟩
         refine (callsIn_wide.2 (hcon W)).mono ?_
         rintro e W' ⟨rfl, hBe⟩
         exact ⟨_, rfl, rfl, hJ.trans (hBe.mono hJ.size)⟩
        ·replace ho := op_at ho (by rfl)
         subst ho
         have d5 : a.tmps.getD 92 undef = (.bool true) := by have h1 := hF 5 (by decide) (hr 5 (by kernel_rfl)); exact h1.2.trans h1.1
         exact .inl ⟨(fun k b h => by cases h), .inl ⟨6, by decide, rfl, (.bool false), W, (by simp [go_sem, Act.eval, d5]), rfl, hJ⟩⟩
        ·replace ho := op_at ho (by rfl)
         subst ho
         have d6 : a.tmps.getD 93 undef = (.bool false) := by have h1 := hF 6 (by decide) (hr 6 (by kernel_rfl)); exact h1.2.trans h1.1
         exact .inl ⟨(fun k b h => by cases h), .inl ⟨7, by decide, rfl, (.bool false), W, (by simp [go_sem, Act.eval, d6]), rfl, hJ⟩⟩
        ·replace ho := op_at ho (by rfl)
         subst ho
         have d7 : a.tmps.getD 94 undef = (.bool false) := by have h1 := hF 7 (by decide) (hr 7 (by kernel_rfl)); exact h1.2.trans h1.1
         have f3 : a.tmps.getD 3 undef = (.int .i64 (k : Int)) := hf 3 (by kernel_rfl)
         exact .inl ⟨(fun k b h => by cases h; exact ⟨7, by decide, rfl, d7⟩), .inl ⟨8, by decide, rfl, (.int .i64 (k : Int)), W, (by simp [go_sem, Act.eval, d7, f3]), rfl, hJ⟩⟩
        ·replace ho := op_at ho (by rfl)
         subst ho
         have d8 : a.tmps.getD 95 undef = (.int .i64 (k : Int)) := by have h1 := hF 8 (by decide) (hr 8 (by kernel_rfl)); exact h1.2.trans h1.1
         have d7 : a.tmps.getD 94 undef = (.bool false) := by have h1 := hF 7 (by decide) (hr 7 (by kernel_rfl)); exact h1.2.trans h1.1
         exact .inl ⟨(fun k b h => by cases h; exact ⟨7, by decide, rfl, d7⟩), .inl ⟨9, by decide, rfl, (.bool true), W, (by simp [go_sem, Act.eval, d8, d7, hp.out]), rfl, hJ⟩⟩
        ·replace ho := op_at ho (by rfl)
         subst ho
         have d9 : a.tmps.getD 96 undef = (.bool true) := by have h1 := hF 9 (by decide) (hr 9 (by kernel_rfl)); exact h1.2.trans h1.1
         have d7 : a.tmps.getD 94 undef = (.bool false) := by have h1 := hF 7 (by decide) (hr 7 (by kernel_rfl)); exact h1.2.trans h1.1
         exact .inl ⟨(fun k b h => by cases h; exact ⟨7, by decide, rfl, d7⟩), .inl ⟨10, by decide, rfl, (.bool true), W, (by simp [go_sem, Act.eval, d9, d7]), rfl, hJ⟩⟩
        ·replace ho := op_at ho (by rfl)
         subst ho
         have d10 : a.tmps.getD 97 undef = (.bool true) := by have h1 := hF 10 (by decide) (hr 10 (by kernel_rfl)); exact h1.2.trans h1.1
         have f1 : a.tmps.getD 1 undef = (.pointer (some ⟨w.heap.size, 0, none⟩)) := hf 1 (by kernel_rfl)
         exact .inl ⟨(fun k b h => by cases h; exact ⟨10, by decide, rfl, d10⟩), .inl ⟨11, by decide, rfl, (.pointer (some ⟨w.heap.size, 7, none⟩)), W, (by simp [go_sem, Act.eval, d10, f1]), rfl, hJ⟩⟩
        ·replace ho := op_at ho (by rfl)
         subst ho
         have d11 : a.tmps.getD 98 undef = (.pointer (some ⟨w.heap.size, 7, none⟩)) := by have h1 := hF 11 (by decide) (hr 11 (by kernel_rfl)); exact h1.2.trans h1.1
         have d10 : a.tmps.getD 97 undef = (.bool true) := by have h1 := hF 10 (by decide) (hr 10 (by kernel_rfl)); exact h1.2.trans h1.1
         have c7 := cell_of_row _ _ 7 _ _ _ (stays KB.out hJ)
         exact .inl ⟨(fun k b h => by cases h; exact ⟨10, by decide, rfl, d10⟩), .inl ⟨12, by decide, rfl, (.slice (some ⟨b, off, none⟩) n cap), W, (by simp [go_sem, Act.eval, d11, d10, c7]), rfl, hJ⟩⟩
        ·replace ho := op_at ho (by rfl)
         subst ho
         have d10 : a.tmps.getD 97 undef = (.bool true) := by have h1 := hF 10 (by decide) (hr 10 (by kernel_rfl)); exact h1.2.trans h1.1
         have f3 : a.tmps.getD 3 undef = (.int .i64 (k : Int)) := hf 3 (by kernel_rfl)
         exact .inl ⟨(fun k b h => by cases h; exact ⟨10, by decide, rfl, d10⟩), .inl ⟨13, by decide, rfl, (.int .i64 (k : Int)), W, (by simp [go_sem, Act.eval, d10, f3]), rfl, hJ⟩⟩
        ·replace ho := op_at ho (by rfl)
         subst ho
         have d13 : a.tmps.getD 100 undef = (.int .i64 (k : Int)) := by have h1 := hF 13 (by decide) (hr 13 (by kernel_rfl)); exact h1.2.trans h1.1
         have d10 : a.tmps.getD 97 undef = (.bool true) := by have h1 := hF 10 (by decide) (hr 10 (by kernel_rfl)); exact h1.2.trans h1.1
         exact .inl ⟨(fun k b h => by cases h; exact ⟨10, by decide, rfl, d10⟩), .inl ⟨14, by decide, rfl, (.int .i64 ((k : Int) - 1)), W, (by simp [go_sem, Act.eval, d13, d10, hsub]), rfl, hJ⟩⟩
        ·replace ho := op_at ho (by rfl)
         subst ho
         have d12 : a.tmps.getD 99 undef = (.slice (some ⟨b, off, none⟩) n cap) := by have h1 := hF 12 (by decide) (hr 12 (by kernel_rfl)); exact h1.2.trans h1.1
         have d14 : a.tmps.getD 101 undef = (.int .i64 ((k : Int) - 1)) := by have h1 := hF 14 (by decide) (hr 14 (by kernel_rfl)); exact h1.2.trans h1.1
         have d10 : a.tmps.getD 97 undef = (.bool true) := by have h1 := hF 10 (by decide) (hr 10 (by kernel_rfl)); exact h1.2.trans h1.1
         exact .inl ⟨(fun k b h => by cases h; exact ⟨10, by decide, rfl, d10⟩), .inl ⟨15, by decide, rfl, (.pointer (some ⟨b, off + (k - 1) * 19, none⟩)), W, (by simp [go_sem, Act.eval, d12, d14, d10, hki1, htn, hk1n.out]), rfl, hJ⟩⟩
        ·replace ho := op_at ho (by rfl)
         subst ho
         have d15 : a.tmps.getD 102 undef = (.pointer (some ⟨b, off + (k - 1) * 19, none⟩)) := by have h1 := hF 15 (by decide) (hr 15 (by kernel_rfl)); exact h1.2.trans h1.1
         have d10 : a.tmps.getD 97 undef = (.bool true) := by have h1 := hF 10 (by decide) (hr 10 (by kernel_rfl)); exact h1.2.trans h1.1
         exact .inl ⟨(fun k b h => by cases h; exact ⟨10, by decide, rfl, d10⟩), .inl ⟨16, by decide, rfl, (.pointer (some ⟨b, off + (k - 1) * 19, none⟩)), W, (by simp [go_sem, Act.eval, d15, d10]), rfl, hJ⟩⟩
        ·replace ho := op_at ho (by rfl)
         subst ho
         have d16 : a.tmps.getD 103 undef = (.pointer (some ⟨b, off + (k - 1) * 19, none⟩)) := by have h1 := hF 16 (by decide) (hr 16 (by kernel_rfl)); exact h1.2.trans h1.1
         have d10 : a.tmps.getD 97 undef = (.bool true) := by have h1 := hF 10 (by decide) (hr 10 (by kernel_rfl)); exact h1.2.trans h1.1
         exact .inl ⟨(fun k b h => by cases h; exact ⟨10, by decide, rfl, d10⟩), .inl ⟨17, by decide, rfl, (.pointer (some ⟨b, off + (k - 1) * 19, none⟩)), W, (by simp [go_sem, Act.eval, d16, d10]), rfl, hJ⟩⟩
        ·replace ho := op_at ho (by rfl)
         subst ho
         have d17 : a.tmps.getD 104 undef = (.pointer (some ⟨b, off + (k - 1) * 19, none⟩)) := by have h1 := hF 17 (by decide) (hr 17 (by kernel_rfl)); exact h1.2.trans h1.1
         have d10 : a.tmps.getD 97 undef = (.bool true) := by have h1 := hF 10 (by decide) (hr 10 (by kernel_rfl)); exact h1.2.trans h1.1
         have cn := (hJ.cell (p := ⟨b, off + (k - 1) * 19, none⟩) hbW).trans hc1
         exact .inl ⟨(fun k b h => by cases h; exact ⟨10, by decide, rfl, d10⟩), .inl ⟨18, by decide, rfl, (.string ⟨y.name.toArray⟩), W, (by simp [go_sem, Act.eval, d17, d10, cn]), rfl, hJ⟩⟩
        ·replace ho := op_at ho (by rfl)
         subst ho
         have d10 : a.tmps.getD 97 undef = (.bool true) := by have h1 := hF 10 (by decide) (hr 10 (by kernel_rfl)); exact h1.2.trans h1.1
         have f1 : a.tmps.getD 1 undef = (.pointer (some ⟨w.heap.size, 0, none⟩)) := hf 1 (by kernel_rfl)
         exact .inl ⟨(fun k b h => by cases h; exact ⟨10, by decide, rfl, d10⟩), .inl ⟨19, by decide, rfl, (.pointer (some ⟨w.heap.size, 7, none⟩)), W, (by simp [go_sem, Act.eval, d10, f1]), rfl, hJ⟩⟩
        ·replace ho := op_at ho (by rfl)
         subst ho
         have d19 : a.tmps.getD 106 undef = (.pointer (some ⟨w.heap.size, 7, none⟩)) := by have h1 := hF 19 (by decide) (hr 19 (by kernel_rfl)); exact h1.2.trans h1.1
         have d10 : a.tmps.getD 97 undef = (.bool true) := by have h1 := hF 10 (by decide) (hr 10 (by kernel_rfl)); exact h1.2.trans h1.1
         have c7 := cell_of_row _ _ 7 _ _ _ (stays KB.out hJ)
         exact .inl ⟨(fun k b h => by cases h; exact ⟨10, by decide, rfl, d10⟩), .inl ⟨20, by decide, rfl, (.slice (some ⟨b, off, none⟩) n cap), W, (by simp [go_sem, Act.eval, d19, d10, c7]), rfl, hJ⟩⟩
        ·replace ho := op_at ho (by rfl)
         subst ho
         have d10 : a.tmps.getD 97 undef = (.bool true) := by have h1 := hF 10 (by decide) (hr 10 (by kernel_rfl)); exact h1.2.trans h1.1
         have f3 : a.tmps.getD 3 undef = (.int .i64 (k : Int)) := hf 3 (by kernel_rfl)
         exact .inl ⟨(fun k b h => by cases h; exact ⟨10, by decide, rfl, d10⟩), .inl ⟨21, by decide, rfl, (.int .i64 (k : Int)), W, (by simp [go_sem, Act.eval, d10, f3]), rfl, hJ⟩⟩
        ·replace ho := op_at ho (by rfl)
         subst ho
         have d20 : a.tmps.getD 107 undef = (.slice (some ⟨b, off, none⟩) n cap) := by have h1 := hF 20 (by decide) (hr 20 (by kernel_rfl)); exact h1.2.trans h1.1
         have d21 : a.tmps.getD 108 undef = (.int .i64 (k : Int)) := by have h1 := hF 21 (by decide) (hr 21 (by kernel_rfl)); exact h1.2.trans h1.1
         have d10 : a.tmps.getD 97 undef = (.bool true) := by have h1 := hF 10 (by decide) (hr 10 (by kernel_rfl)); exact h1.2.trans h1.1
         exact .inl ⟨(fun k b h => by cases h; exact ⟨10, by decide, rfl, d10⟩), .inl ⟨22, by decide, rfl, (.pointer (some ⟨b, off + k * 19, none⟩)), W, (by simp [go_sem, Act.eval, d20, d21, d10, hki]), rfl, hJ⟩⟩
        ·replace ho := op_at ho (by rfl)
         subst ho
         have d22 : a.tmps.getD 109 undef = (.pointer (some ⟨b, off + k * 19, none⟩)) := by have h1 := hF 22 (by decide) (hr 22 (by kernel_rfl)); exact h1.2.trans h1.1
         have d10 : a.tmps.getD 97 undef = (.bool true) := by have h1 := hF 10 (by decide) (hr 10 (by kernel_rfl)); exact h1.2.trans h1.1
         exact .inl ⟨(fun k b h => by cases h; exact ⟨10, by decide, rfl, d10⟩), .inl ⟨23, by decide, rfl, (.pointer (some ⟨b, off + k * 19, none⟩)), W, (by simp [go_sem, Act.eval, d22, d10]), rfl, hJ⟩⟩
        ·replace ho := op_at ho (by rfl)
         subst ho
         have d23 : a.tmps.getD 110 undef = (.pointer (some ⟨b, off + k * 19, none⟩)) := by have h1 := hF 23 (by decide) (hr 23 (by kernel_rfl)); exact h1.2.trans h1.1
         have d10 : a.tmps.getD 97 undef = (.bool true) := by have h1 := hF 10 (by decide) (hr 10 (by kernel_rfl)); exact h1.2.trans h1.1
         exact .inl ⟨(fun k b h => by cases h; exact ⟨10, by decide, rfl, d10⟩), .inl ⟨24, by decide, rfl, (.pointer (some ⟨b, off + k * 19, none⟩)), W, (by simp [go_sem, Act.eval, d23, d10]), rfl, hJ⟩⟩
        ·replace ho := op_at ho (by rfl)
         subst ho
         have d24 : a.tmps.getD 111 undef = (.pointer (some ⟨b, off + k * 19, none⟩)) := by have h1 := hF 24 (by decide) (hr 24 (by kernel_rfl)); exact h1.2.trans h1.1
         have d10 : a.tmps.getD 97 undef = (.bool true) := by have h1 := hF 10 (by decide) (hr 10 (by kernel_rfl)); exact h1.2.trans h1.1
         have cn := (hJ.cell (p := ⟨b, off + k * 19, none⟩) hbW).trans hc0
         exact .inl ⟨(fun k b h => by cases h; exact ⟨10, by decide, rfl, d10⟩), .inl ⟨25, by decide, rfl, (.string ⟨x.name.toArray⟩), W, (by simp [go_sem, Act.eval, d24, d10, cn]), rfl, hJ⟩⟩
        ·replace ho := op_at ho (by rfl)
         subst ho
         have d18 : a.tmps.getD 105 undef = (.string ⟨y.name.toArray⟩) := by have h1 := hF 18 (by decide) (hr 18 (by kernel_rfl)); exact h1.2.trans h1.1
         have d25 : a.tmps.getD 112 undef = (.string ⟨x.name.toArray⟩) := by have h1 := hF 25 (by decide) (hr 25 (by kernel_rfl)); exact h1.2.trans h1.1
         have d10 : a.tmps.getD 97 undef = (.bool true) := by have h1 := hF 10 (by decide) (hr 10 (by kernel_rfl)); exact h1.2.trans h1.1
         exact .inl ⟨(fun k b h => by cases h; exact ⟨10, by decide, rfl, d10⟩), .inl ⟨26, by decide, rfl, (.bool (!false)), W, (exec_geq_str _ _ _ _ rfl _ _ (show a.eval (.tmp 105) = _ from d18) (show a.eval (.tmp 112) = _ from d25) _ HLT.out), rfl, hJ⟩⟩
        ·replace ho := op_at ho (by rfl)
         subst ho
         have d10 : a.tmps.getD 97 undef = (.bool true) := by have h1 := hF 10 (by decide) (hr 10 (by kernel_rfl)); exact h1.2.trans h1.1
         have d26 : a.tmps.getD 113 undef = (.bool (!false)) := by have h1 := hF 26 (by decide) (hr 26 (by kernel_rfl)); exact h1.2.trans h1.1
         have d7 : a.tmps.getD 94 undef = (.bool false) := by have h1 := hF 7 (by decide) (hr 7 (by kernel_rfl)); exact h1.2.trans h1.1
         exact .inl ⟨(fun k b h => by cases h; exact ⟨7, by decide, rfl, d7⟩), .inl ⟨27, by decide, rfl, (.bool true), W, (by simp [go_sem, Act.eval, d10, d26, d7]), rfl, hJ⟩⟩
        ·replace ho := op_at ho (by rfl)
         subst ho
         have d7 : a.tmps.getD 94 undef = (.bool false) := by have h1 := hF 7 (by decide) (hr 7 (by kernel_rfl)); exact h1.2.trans h1.1
         have d27 : a.tmps.getD 114 undef = (.bool true) := by have h1 := hF 27 (by decide) (hr 27 (by kernel_rfl)); exact h1.2.trans h1.1
         exact .inl ⟨(fun k b h => by cases h), .inl ⟨28, by decide, rfl, (.bool true), W, (by simp [go_sem, Act.eval, d7, d27]), rfl, hJ⟩⟩
       case finq6 =>
        intro d vs Wq6 hall hJ hF
        have h0 : vs 0 = (.pointer (some ⟨w.heap.size, 7, none⟩)) := hF 0 (by decide)
        have h1 : vs 1 = (.slice (some ⟨b, off, none⟩) n cap) := hF 1 (by decide)
        have h2 : vs 2 = (.int .i64 (k : Int)) := hF 2 (by decide)
        have h3 : vs 3 = (.pointer (some ⟨b, off + k * 19, none⟩)) := hF 3 (by decide)
        have h4 : vs 4 = (.agg x.cells.toArray) := hF 4 (by decide)
        have h5 : vs 5 = (.bool true) := hF 5 (by decide)
        have h6 : vs 6 = (.bool false) := hF 6 (by decide)
        have h7 : vs 7 = (.bool false) := hF 7 (by decide)
        have h8 : vs 8 = (.int .i64 (k : Int)) := hF 8 (by decide)
        have h9 : vs 9 = (.bool true) := hF 9 (by decide)
        have h10 : vs 10 = (.bool true) := hF 10 (by decide)
        have h11 : vs 11 = (.pointer (some ⟨w.heap.size, 7, none⟩)) := hF 11 (by decide)
        have h12 : vs 12 = (.slice (some ⟨b, off, none⟩) n cap) := hF 12 (by decide)
        have h13 : vs 13 = (.int .i64 (k : Int)) := hF 13 (by decide)
        have h14 : vs 14 = (.int .i64 ((k : Int) - 1)) := hF 14 (by decide)
        have h15 : vs 15 = (.pointer (some ⟨b, off + (k - 1) * 19, none⟩)) := hF 15 (by decide)
        have h16 : vs 16 = (.pointer (some ⟨b, off + (k - 1) * 19, none⟩)) := hF 16 (by decide)
        have h17 : vs 17 = (.pointer (some ⟨b, off + (k - 1) * 19, none⟩)) := hF 17 (by decide)
        have h18 : vs 18 = (.string ⟨y.name.toArray⟩) := hF 18 (by decide)
        have h19 : vs 19 = (.pointer (some ⟨w.heap.size, 7, none⟩)) := hF 19 (by decide)
        have h20 : vs 20 = (.slice (some ⟨b, off, none⟩) n cap) := hF 20 (by decide)
        have h21 : vs 21 = (.int .i64 (k : Int)) := hF 21 (by decide)
        have h22 : vs 22 = (.pointer (some ⟨b, off + k * 19, none⟩)) := hF 22 (by decide)
        have h23 : vs 23 = (.pointer (some ⟨b, off + k * 19, none⟩)) := hF 23 (by decide)
        have h24 : vs 24 = (.pointer (some ⟨b, off + k * 19, none⟩)) := hF 24 (by decide)
        have h25 : vs 25 = (.string ⟨x.name.toArray⟩) := hF 25 (by decide)
        have h26 : vs 26 = (.bool (!false)) := hF 26 (by decide)
        have h27 : vs 27 = (.bool true) := hF 27 (by decide)
        have h28 : vs 28 = (.bool true) := hF 28 (by decide)
        clear hF
        show (_ : Exit → Act → World → Prop) Exit.normal (puts _ vs 29 _) Wq6
        simp only [puts, h0, h1, h2, h3, h4, h5, h6, h7, h8, h9, h10, h11, h12, h13, h14, h15, h16, h17, h18, h19, h20, h21, h22, h23, h24, h25, h26, h27, h28, List.getD_cons_zero, List.getD_cons_succ]
        clear h0 h1 h2 h3 h4 h5 h6 h7 h8 h9 h10 h11 h12 h13 h14 h15 h16 h17 h18 h19 h20 h21 h22 h23 h24 h25 h26 h27 h28
        go_simp
        have hB9 : Below Wi.heap.size Wi Wq6 := hJ
        generalize Wq6 = W9 at *
        clear hJ hall
        have hr := HRB.out
        rw [itemsB_f k (by have := HN.out; omega) HGK.out] at hr
        simp at hr
        subst hr
        have LF := HL0.out.trans ((HBi.out.trans (hB9.mono HBi.out.size)).mono HL0.out.size)
        go_wp2
        go_ret
        exact ⟨rfl, LF⟩
      | true =>
       as_aux_lemma =>
       have HLT : Hid (Op.bytesLess (⟨y.name.toArray⟩ : ByteArray).toList (⟨x.name.toArray⟩ : ByteArray).toList = true) := hlt'
       have HGK : Hid (goodAt xs k = true) := by show _ = _; unfold goodAt; rw [← HX.out, ← HY.out]; rw [hfi, show (k == 0) = false by have := hp.out; simp; omega, hlt']; rfl
       have hcon : ∀ W, Calls Tryd.prog 18 #[.agg x.cells.toArray] W fun e w' => e = .returned (.bool true) ∧ Below W.heap.size W w' := fun W => by
        have := ritem_any x W HNM.out
        rw [hfi] at this
        exact this
       clear hlt' hfi
       refine wpIn_wide (n := 5).1 (wpIn_flowM (F0 := Fence.wide) (n0 := 5) (fun _ => trivial) (fun h => by cases h) (by kernel_rfl) (by kernel_rfl) 29 29 (by kernel_rfl) (fun j => ([0, 1, 2, 3, 4, 5, 6, 7, 8, 9, 10, 11, 12, 13, 14, 15, 16, 17, 18, 19, 20, 21, 22, 23, 24, 25, 26, 27, 28] : List Nat).getD j 0) (fun j => ([87, 88, 89, 90, 91, 92, 93, 94, 95, 96, 97, 98, 99, 100, 101, 102, 103, 104, 105, 106, 107, 108, 109, 110, 111, 112, 113, 114, 115] : List Nat).getD j 0) (by kernel_rfl) (by kernel_rfl) (by kernel_rfl) (by kernel_rfl) (by kernel_rfl) (by kernel_rfl) (by kernel_rfl) (fun j zv => ([(fun zv => zv = (.pointer (some ⟨w.heap.size, 7, none⟩))), (fun zv => zv = (.slice (some ⟨b, off, none⟩) n cap)), (fun zv => zv = (.int .i64 (k : Int))), (fun zv => zv = (.pointer (some ⟨b, off + k * 19, none⟩))), (fun zv => zv = (.agg x.cells.toArray)), (fun zv => zv = (.bool true)), (fun zv => zv = (.bool false)), (fun zv => zv = (.bool false)), (fun zv => zv = (.int .i64 (k : Int))), (fun zv => zv = (.bool true)), (fun zv => zv = (.bool true)), (fun zv => zv = (.pointer (some ⟨w.heap.size, 7, none⟩))), (fun zv => zv = (.slice (some ⟨b, off, none⟩) n cap)), (fun zv => zv = (.int .i64 (k : Int))), (fun zv => zv = (.int .i64 ((k : Int) - 1))), (fun zv => zv = (.pointer (some ⟨b, off + (k - 1) * 19, none⟩))), (fun zv => zv = (.pointer (some ⟨b, off + (k - 1) * 19, none⟩))), (fun zv => zv = (.pointer (some ⟨b, off + (k - 1) * 19, none⟩))), (fun zv => zv = (.string ⟨y.name.toArray⟩)), (fun zv => zv = (.pointer (some ⟨w.heap.size, 7, none⟩))), (fun zv => zv = (.slice (some ⟨b, off, none⟩) n cap)), (fun zv => zv = (.int .i64 (k : Int))), (fun zv => zv = (.pointer (some ⟨b, off + k * 19, none⟩))), (fun zv => zv = (.pointer (some ⟨b, off + k * 19, none⟩))), (fun zv => zv = (.pointer (some ⟨b, off + k * 19, none⟩))), (fun zv => zv = (.string ⟨x.name.toArray⟩)), (fun zv => zv = (.bool (!true))), (fun zv => zv = (.bool false)), (fun zv => zv = (.bool false))] : List (Value → Prop)).getD j (fun _ => True) zv) (fun _ _ W => Below Wi.heap.size Wi W) ?h0q7 ?stepq7 ?finq7)
       case h0q7 => exact fun _ => bdN Wi.heap.size Wi 1
       case stepq7 =>
        intro i o a W d vs hi ho hdi hJ hf hr hF
        replace hi : i < 29 := hi
        rcases (show i = 0 ∨ i = 1 ∨ i = 2 ∨ i = 3 ∨ i = 4 ∨ i = 5 ∨ i = 6 ∨ i = 7 ∨ i = 8 ∨ i = 9 ∨ i = 10 ∨ i = 11 ∨ i = 12 ∨ i = 13 ∨ i = 14 ∨ i = 15 ∨ i = 16 ∨ i = 17 ∨ i = 18 ∨ i = 19 ∨ i = 20 ∨ i = 21 ∨ i = 22 ∨ i = 23 ∨ i = 24 ∨ i = 25 ∨ i = 26 ∨ i = 27 ∨ i = 28 by omega) with rfl | rfl | rfl | rfl | rfl | rfl | rfl | rfl | rfl | rfl | rfl | rfl | rfl | rfl | rfl | rfl | rfl | rfl | rfl | rfl | rfl | rfl | rfl | rfl | rfl | rfl | rfl | rfl | rfl
        ·replace ho := op_at ho (by rfl)
         subst ho
         have f1 : a.tmps.getD 1 undef = (.pointer (some ⟨w.heap.size, 0, none⟩)) := hf 1 (by kernel_rfl)
         exact .inl ⟨(fun k b h => by cases h), .inl ⟨0, by decide, rfl, (.pointer (some ⟨w.heap.size, 7, none⟩)), W, (by simp [go_sem, Act.eval, f1]), rfl, hJ⟩⟩
        ·replace ho := op_at ho (by rfl)
         subst ho
         have d0 : a.tmps.getD 87 undef = (.pointer (some ⟨w.heap.size, 7, none⟩)) := by have h1 := hF 0 (by decide) (hr 0 (by kernel_rfl)); exact h1.2.trans h1.1
         have c7 := cell_of_row _ _ 7 _ _ _ (stays KB.out hJ)
         exact .inl ⟨(fun k b h => by cases h), .inl ⟨1, by decide, rfl, (.slice (some ⟨b, off, none⟩) n cap), W, (by simp [go_sem, Act.eval, d0, c7]), rfl, hJ⟩⟩
        ·replace ho := op_at ho (by rfl)
         subst ho
         have f3 : a.tmps.getD 3 undef = (.int .i64 (k : Int)) := hf 3 (by kernel_rfl)
         exact .inl ⟨(fun k b h => by cases h), .inl ⟨2, by decide, rfl, (.int .i64 (k : Int)), W, (by simp [go_sem, Act.eval, f3]), rfl, hJ⟩⟩
        ·replace ho := op_at ho (by rfl)
         subst ho
         have d1 : a.tmps.getD 88 undef = (.slice (some ⟨b, off, none⟩) n cap) := by have h1 := hF 1 (by decide) (hr 1 (by kernel_rfl)); exact h1.2.trans h1.1
         have d2 : a.tmps.getD 89 undef = (.int .i64 (k : Int)) := by have h1 := hF 2 (by decide) (hr 2 (by kernel_rfl)); exact h1.2.trans h1.1
         exact .inl ⟨(fun k b h => by cases h), .inl ⟨3, by decide, rfl, (.pointer (some ⟨b, off + k * 19, none⟩)), W, (by simp [go_sem, Act.eval, d1, d2, hki]), rfl, hJ⟩⟩
        ·replace ho := op_at ho (by rfl)
         subst ho
         have d3 : a.tmps.getD 90 undef = (.pointer (some ⟨b, off + k * 19, none⟩)) := by have h1 := hF 3 (by decide) (hr 3 (by kernel_rfl)); exact h1.2.trans h1.1
         exact .inl ⟨(fun k b h => by cases h), .inl ⟨4, by decide, rfl, (.agg x.cells.toArray), W, (exec_load_mid 38 _ rfl b (off + k * 19) _ (.struct (Tryd.prog.fieldsOf 38)) (show a.eval (.tmp 90) = _ from d3) (fun j u hu => (hJ.cell (p := ⟨b, off + k * 19 + j, none⟩) hbW).trans (hrk j u hu)) (by kernel_rfl) rfl (by kernel_rfl)), rfl, hJ⟩⟩
        ·replace ho := op_at ho (by rfl)
         subst ho
         have d4 : a.tmps.getD 91 undef = (.agg x.cells.toArray) := by have h1 := hF 4 (by decide) (hr 4 (by kernel_rfl)); exact h1.2.trans h1.1
         refine .inl ⟨(fun k b h => by cases h), .inr (.inr ⟨5, by decide, rfl, 18, #[(.agg x.cells.toArray)], W, (by simp [go_sem, Act.eval, d4]), ?_⟩)⟩
         refine (callsIn_wide.2 (hcon W)).mono ?_
         rintro e W' ⟨rfl, hBe⟩
         exact ⟨_, rfl, rfl, hJ.trans (hBe.mono hJ.size)⟩
        ·replace ho := op_at ho (by rfl)
         subst ho
         have d5 : a.tmps.getD 92 undef = (.bool true) := by have h1 := hF 5 (by decide) (hr 5 (by kernel_rfl)); exact h1.2.trans h1.1
         exact .inl ⟨(fun k b h => by cases h), .inl ⟨6, by decide, rfl, (.bool false), W, (by simp [go_sem, Act.eval, d5]), rfl, hJ⟩⟩
        ·replace ho := op_at ho (by rfl)
         subst ho
         have d6 : a.tmps.getD 93 undef = (.bool false) := by have h1 := hF 6 (by decide) (hr 6 (by kernel_rfl)); exact h1.2.trans h1.1
         exact .inl ⟨(fun k b h => by cases h), .inl ⟨7, by decide, rfl, (.bool false), W, (by simp [go_sem, Act.eval, d6]), rfl, hJ⟩⟩
        ·replace ho := op_at ho (by rfl)
         subst ho
         have d7 : a.tmps.getD 94 undef = (.bool false) := by have h1 := hF 7 (by decide) (hr 7 (by kernel_rfl)); exact h1.2.trans h1.1
         have f3 : a.tmps.getD 3 undef = (.int .i64 (k : Int)) := hf 3 (by kernel_rfl)
         exact .inl ⟨(fun k b h => by cases h; exact ⟨7, by decide, rfl, d7⟩), .inl ⟨8, by decide, rfl, (.int .i64 (k : Int)), W, (by simp [go_sem, Act.eval, d7, f3]), rfl, hJ⟩⟩
        ·replace ho := op_at ho (by rfl)
         subst ho
         have d8 : a.tmps.getD 95 undef = (.int .i64 (k : Int)) := by have h1 := hF 8 (by decide) (hr 8 (by kernel_rfl)); exact h1.2.trans h1.1
         have d7 : a.tmps.getD 94 undef = (.bool false) := by have h1 := hF 7 (by decide) (hr 7 (by kernel_rfl)); exact h1.2.trans h1.1
         exact .inl ⟨(fun k b h => by cases h; exact ⟨7, by decide, rfl, d7⟩), .inl ⟨9, by decide, rfl, (.bool true), W, (by simp [go_sem, Act.eval, d8, d7, hp.out]), rfl, hJ⟩⟩
        ·replace ho := op_at ho (by rfl)
         subst ho
         have d9 : a.tmps.getD 96 undef = (.bool true) := by have h1 := hF 9 (by decide) (hr 9 (by kernel_rfl)); exact h1.2.trans h1.1
         have d7 : a.tmps.getD 94 undef = (.bool false) := by have h1 := hF 7 (by decide) (hr 7 (by kernel_rfl)); exact h1.2.trans h1.1
         exact .inl ⟨(fun k b h => by cases h; exact ⟨7, by decide, rfl, d7⟩), .inl ⟨10, by decide, rfl, (.bool true), W, (by simp [go_sem, Act.eval, d9, d7]), rfl, hJ⟩⟩
        ·replace ho := op_at ho (by rfl)
         subst ho
         have d10 : a.tmps.getD 97 undef = (.bool true) := by have h1 := hF 10 (by decide) (hr 10 (by kernel_rfl)); exact h1.2.trans h1.1
         have f1 : a.tmps.getD 1 undef = (.pointer (some ⟨w.heap.size, 0, none⟩)) := hf 1 (by kernel_rfl)
         exact .inl ⟨(fun k b h => by cases h; exact ⟨10, by decide, rfl, d10⟩), .inl ⟨11, by decide, rfl, (.pointer (some ⟨w.heap.size, 7, none⟩)), W, (by simp [go_sem, Act.eval, d10, f1]), rfl, hJ⟩⟩
        ·replace ho := op_at ho (by rfl)
         subst ho
         have d11 : a.tmps.getD 98 undef = (.pointer (some ⟨w.heap.size, 7, none⟩)) := by have h1 := hF 11 (by decide) (hr 11 (by kernel_rfl)); exact h1.2.trans h1.1
         have d10 : a.tmps.getD 97 undef = (.bool true) := by have h1 := hF 10 (by decide) (hr 10 (by kernel_rfl)); exact h1.2.trans h1.1
         have c7 := cell_of_row _ _ 7 _ _ _ (stays KB.out hJ)
         exact .inl ⟨(fun k b h => by cases h; exact ⟨10, by decide, rfl, d10⟩), .inl ⟨12, by decide, rfl, (.slice (some ⟨b, off, none⟩) n cap), W, (by simp [go_sem, Act.eval, d11, d10, c7]), rfl, hJ⟩⟩
        ·replace ho := op_at ho (by rfl)
         subst ho
         have d10 : a.tmps.getD 97 undef = (.bool true) := by have h1 := hF 10 (by decide) (hr 10 (by kernel_rfl)); exact h1.2.trans h1.1
         have f3 : a.tmps.getD 3 undef = (.int .i64 (k : Int)) := hf 3 (by kernel_rfl)
         exact .inl ⟨(fun k b h => by cases h; exact ⟨10, by decide, rfl, d10⟩), .inl ⟨13, by decide, rfl, (.int .i64 (k : Int)), W, (by simp [go_sem, Act.eval, d10, f3]), rfl, hJ⟩⟩
        ·replace ho := op_at ho (by rfl)
         subst ho
         have d13 : a.tmps.getD 100 undef = (.int .i64 (k : Int)) := by have h1 := hF 13 (by decide) (hr 13 (by kernel_rfl)); exact h1.2.trans h1.1
         have d10 : a.tmps.getD 97 undef = (.bool true) := by have h1 := hF 10 (by decide) (hr 10 (by kernel_rfl)); exact h1.2.trans h1.1
         exact .inl ⟨(fun k b h => by cases h; exact ⟨10, by decide, rfl, d10⟩), .inl ⟨14, by decide, rfl, (.int .i64 ((k : Int) - 1)), W, (by simp [go_sem, Act.eval, d13, d10, hsub]), rfl, hJ⟩⟩
        ·replace ho := op_at ho (by rfl)
         subst ho
         have d12 : a.tmps.getD 99 undef = (.slice (some ⟨b, off, none⟩) n cap) := by have h1 := hF 12 (by decide) (hr 12 (by kernel_rfl)); exact h1.2.trans h1.1
         have d14 : a.tmps.getD 101 undef = (.int .i64 ((k : Int) - 1)) := by have h1 := hF 14 (by decide) (hr 14 (by kernel_rfl)); exact h1.2.trans h1.1
         have d10 : a.tmps.getD 97 undef = (.bool true) := by have h1 := hF 10 (by decide) (hr 10 (by kernel_rfl)); exact h1.2.trans h1.1
         exact .inl ⟨(fun k b h => by cases h; exact ⟨10, by decide, rfl, d10⟩), .inl ⟨15, by decide, rfl, (.pointer (some ⟨b, off + (k - 1) * 19, none⟩)), W, (by simp [go_sem, Act.eval, d12, d14, d10, hki1, htn, hk1n.out]), rfl, hJ⟩⟩
        ·replace ho := op_at ho (by rfl)
         subst ho
         have d15 : a.tmps.getD 102 undef = (.pointer (some ⟨b, off + (k - 1) * 19, none⟩)) := by have h1 := hF 15 (by decide) (hr 15 (by kernel_rfl)); exact h1.2.trans h1.1
         have d10 : a.tmps.getD 97 undef = (.bool true) := by have h1 := hF 10 (by decide) (hr 10 (by kernel_rfl)); exact h1.2.trans h1.1
         exact .inl ⟨(fun k b h => by cases h; exact ⟨10, by decide, rfl, d10⟩), .inl ⟨16, by decide, rfl, (.pointer (some ⟨b, off + (k - 1) * 19, none⟩)), W, (by simp [go_sem, Act.eval, d15, d10]), rfl, hJ⟩⟩
        ·replace ho := op_at ho (by rfl)
         subst ho
         have d16 : a.tmps.getD 103 undef = (.pointer (some ⟨b, off + (k - 1) * 19, none⟩)) := by have h1 := hF 16 (by decide) (hr 16 (by kernel_rfl)); exact h1.2.trans h1.1
         have d10 : a.tmps.getD 97 undef = (.bool true) := by have h1 := hF 10 (by decide) (hr 10 (by kernel_rfl)); exact h1.2.trans h1.1
         exact .inl ⟨(fun k b h => by cases h; exact ⟨10, by decide, rfl, d10⟩), .inl ⟨17, by decide, rfl, (.pointer (some ⟨b, off + (k - 1) * 19, none⟩)), W, (by simp [go_sem, Act.eval, d16, d10]), rfl, hJ⟩⟩
        ·replace ho := op_at ho (by rfl)
         subst ho
         have d17 : a.tmps.getD 104 undef = (.pointer (some ⟨b, off + (k - 1) * 19, none⟩)) := by have h1 := hF 17 (by decide) (hr 17 (by kernel_rfl)); exact h1.2.trans h1.1
         have d10 : a.tmps.getD 97 undef = (.bool true) := by have h1 := hF 10 (by decide) (hr 10 (by kernel_rfl)); exact h1.2.trans h1.1
         have cn := (hJ.cell (p := ⟨b, off + (k - 1) * 19, none⟩) hbW).trans hc1
         exact .inl ⟨(fun k b h => by cases h; exact ⟨10, by decide, rfl, d10⟩), .inl ⟨18, by decide, rfl, (.string ⟨y.name.toArray⟩), W, (by simp [go_sem, Act.eval, d17, d10, cn]), rfl, hJ⟩⟩
        ·replace ho := op_at ho (by rfl)
         subst ho
         have d10 : a.tmps.getD 97 undef = (.bool true) := by have h1 := hF 10 (by decide) (hr 10 (by kernel_rfl)); exact h1.2.trans h1.1
         have f1 : a.tmps.getD 1 undef = (.pointer (some ⟨w.heap.size, 0, none⟩)) := hf 1 (by kernel_rfl)
         exact .inl ⟨(fun k b h => by cases h; exact ⟨10, by decide, rfl, d10⟩), .inl ⟨19, by decide, rfl, (.pointer (some ⟨w.heap.size, 7, none⟩)), W, (by simp [go_sem, Act.eval, d10, f1]), rfl, hJ⟩⟩
        ·replace ho := op_at ho (by rfl)
         subst ho
         have d19 : a.tmps.getD 106 undef = (.pointer (some ⟨w.heap.size, 7, none⟩)) := by have h1 := hF 19 (by decide) (hr 19 (by kernel_rfl)); exact h1.2.trans h1.1
         have d10 : a.tmps.getD 97 undef = (.bool true) := by have h1 := hF 10 (by decide) (hr 10 (by kernel_rfl)); exact h1.2.trans h1.1
         have c7 := cell_of_row _ _ 7 _ _ _ (stays KB.out hJ)
         exact .inl ⟨(fun k b h => by cases h; exact ⟨10, by decide, rfl, d10⟩), .inl ⟨20, by decide, rfl, (.slice (some ⟨b, off, none⟩) n cap), W, (by simp [go_sem, Act.eval, d19, d10, c7]), rfl, hJ⟩⟩
        ·replace ho := op_at ho (by rfl)
         subst ho
         have d10 : a.tmps.getD 97 undef = (.bool true) := by have h1 := hF 10 (by decide) (hr 10 (by kernel_rfl)); exact h1.2.trans h1.1
         have f3 : a.tmps.getD 3 undef = (.int .i64 (k : Int)) := hf 3 (by kernel_rfl)
         exact .inl ⟨(fun k b h => by cases h; exact ⟨10, by decide, rfl, d10⟩), .inl ⟨21, by decide, rfl, (.int .i64 (k : Int)), W, (by simp [go_sem, Act.eval, d10, f3]), rfl, hJ⟩⟩
        ·replace ho := op_at ho (by rfl)
         subst ho
         have d20 : a.tmps.getD 107 undef = (.slice (some ⟨b, off, none⟩) n cap) := by have h1 := hF 20 (by decide) (hr 20 (by kernel_rfl)); exact h1.2.trans h1.1
         have d21 : a.tmps.getD 108 undef = (.int .i64 (k : Int)) := by have h1 := hF 21 (by decide) (hr 21 (by kernel_rfl)); exact h1.2.trans h1.1
         have d10 : a.tmps.getD 97 undef = (.bool true) := by have h1 := hF 10 (by decide) (hr 10 (by kernel_rfl)); exact h1.2.trans h1.1
         exact .inl ⟨(fun k b h => by cases h; exact ⟨10, by decide, rfl, d10⟩), .inl ⟨22, by decide, rfl, (.pointer (some ⟨b, off + k * 19, none⟩)), W, (by simp [go_sem, Act.eval, d20, d21, d10, hki]), rfl, hJ⟩⟩
        ·replace ho := op_at ho (by rfl)
         subst ho
         have d22 : a.tmps.getD 109 undef = (.pointer (some ⟨b, off + k * 19, none⟩)) := by have h1 := hF 22 (by decide) (hr 22 (by kernel_rfl)); exact h1.2.trans h1.1
         have d10 : a.tmps.getD 97 undef = (.bool true) := by have h1 := hF 10 (by decide) (hr 10 (by kernel_rfl)); exact h1.2.trans h1.1
         exact .inl ⟨(fun k b h => by cases h; exact ⟨10, by decide, rfl, d10⟩), .inl ⟨23, by decide, rfl, (.pointer (some ⟨b, off + k * 19, none⟩)), W, (by simp [go_sem, Act.eval, d22, d10]), rfl, hJ⟩⟩
        ·replace ho := op_at ho (by rfl)
         subst ho
         have d23 : a.tmps.getD 110 undef = (.pointer (some ⟨b, off + k * 19, none⟩)) := by have h1 := hF 23 (by decide) (hr 23 (by kernel_rfl)); exact h1.2.trans h1.1
         have d10 : a.tmps.getD 97 undef = (.bool true) := by have h1 := hF 10 (by decide) (hr 10 (by kernel_rfl)); exact h1.2.trans h1.1
         exact .inl ⟨(fun k b h => by cases h; exact ⟨10, by decide, rfl, d10⟩), .inl ⟨24, by decide, rfl, (.pointer (some ⟨b, off + k * 19, none⟩)), W, (by simp [go_sem, Act.eval, d23, d10]), rfl, hJ⟩⟩
        ·replace ho := op_at ho (by rfl)
         subst ho
         have d24 : a.tmps.getD 111 undef = (.pointer (some ⟨b, off + k * 19, none⟩)) := by have h1 := hF 24 (by decide) (hr 24 (by kernel_rfl)); exact h1.2.trans h1.1
         have d10 : a.tmps.getD 97 undef = (.bool true) := by have h1 := hF 10 (by decide) (hr 10 (by kernel_rfl)); exact h1.2.trans h1.1
         have cn := (hJ.cell (p := ⟨b, off + k * 19, none⟩) hbW).trans hc0
         exact .inl ⟨(fun k b h => by cases h; exact ⟨10, by decide, rfl, d10⟩), .inl ⟨25, by decide, rfl, (.string ⟨x.name.toArray⟩), W, (by simp [go_sem, Act.eval, d24, d10, cn]), rfl, hJ⟩⟩
        ·replace ho := op_at ho (by rfl)
         subst ho
         have d18 : a.tmps.getD 105 undef = (.string ⟨y.name.toArray⟩) := by have h1 := hF 18 (by decide) (hr 18 (by kernel_rfl)); exact h1.2.trans h1.1
         have d25 : a.tmps.getD 112 undef = (.string ⟨x.name.toArray⟩) := by have h1 := hF 25 (by decide) (hr 25 (by kernel_rfl)); exact h1.2.trans h1.1
         have d10 : a.tmps.getD 97 undef = (.bool true) := by have h1 := hF 10 (by decide) (hr 10 (by kernel_rfl)); exact h1.2.trans h1.1
         exact .inl ⟨(fun k b h => by cases h; exact ⟨10, by decide, rfl, d10⟩), .inl ⟨26, by decide, rfl, (.bool (!true)), W, (exec_geq_str _ _ _ _ rfl _ _ (show a.eval (.tmp 105) = _ from d18) (show a.eval (.tmp 112) = _ from d25) _ HLT.out), rfl, hJ⟩⟩
        ·replace ho := op_at ho (by rfl)
         subst ho
         have d10 : a.tmps.getD 97 undef = (.bool true) := by have h1 := hF 10 (by decide) (hr 10 (by kernel_rfl)); exact h1.2.trans h1.1
         have d26 : a.tmps.getD 113 undef = (.bool (!true)) := by have h1 := hF 26 (by decide) (hr 26 (by kernel_rfl)); exact h1.2.trans h1.1
         have d7 : a.tmps.getD 94 undef = (.bool false) := by have h1 := hF 7 (by decide) (hr 7 (by kernel_rfl)); exact h1.2.trans h1.1
         exact .inl ⟨(fun k b h => by cases h; exact ⟨7, by decide, rfl, d7⟩), .inl ⟨27, by decide, rfl, (.bool false), W, (by simp [go_sem, Act.eval, d10, d26, d7]), rfl, hJ⟩⟩
        ·replace ho := op_at ho (by rfl)
         subst ho
         have d7 : a.tmps.getD 94 undef = (.bool false) := by have h1 := hF 7 (by decide) (hr 7 (by kernel_rfl)); exact h1.2.trans h1.1
         have d27 : a.tmps.getD 114 undef = (.bool false) := by have h1 := hF 27 (by decide) (hr 27 (by kernel_rfl)); exact h1.2.trans h1.1
         exact .inl ⟨(fun k b h => by cases h), .inl ⟨28, by decide, rfl, (.bool false), W, (by simp [go_sem, Act.eval, d7, d27]), rfl, hJ⟩⟩
       case finq7 =>
        intro d vs Wq7 hall hJ hF
        have h0 : vs 0 = (.pointer (some ⟨w.heap.size, 7, none⟩)) := hF 0 (by decide)
        have h1 : vs 1 = (.slice (some ⟨b, off, none⟩) n cap) := hF 1 (by decide)
        have h2 : vs 2 = (.int .i64 (k : Int)) := hF 2 (by decide)
        have h3 : vs 3 = (.pointer (some ⟨b, off + k * 19, none⟩)) := hF 3 (by decide)
        have h4 : vs 4 = (.agg x.cells.toArray) := hF 4 (by decide)
        have h5 : vs 5 = (.bool true) := hF 5 (by decide)
        have h6 : vs 6 = (.bool false) := hF 6 (by decide)
        have h7 : vs 7 = (.bool false) := hF 7 (by decide)
        have h8 : vs 8 = (.int .i64 (k : Int)) := hF 8 (by decide)
        have h9 : vs 9 = (.bool true) := hF 9 (by decide)
        have h10 : vs 10 = (.bool true) := hF 10 (by decide)
        have h11 : vs 11 = (.pointer (some ⟨w.heap.size, 7, none⟩)) := hF 11 (by decide)
        have h12 : vs 12 = (.slice (some ⟨b, off, none⟩) n cap) := hF 12 (by decide)
        have h13 : vs 13 = (.int .i64 (k : Int)) := hF 13 (by decide)
        have h14 : vs 14 = (.int .i64 ((k : Int) - 1)) := hF 14 (by decide)
        have h15 : vs 15 = (.pointer (some ⟨b, off + (k - 1) * 19, none⟩)) := hF 15 (by decide)
        have h16 : vs 16 = (.pointer (some ⟨b, off + (k - 1) * 19, none⟩)) := hF 16 (by decide)
        have h17 : vs 17 = (.pointer (some ⟨b, off + (k - 1) * 19, none⟩)) := hF 17 (by decide)
        have h18 : vs 18 = (.string ⟨y.name.toArray⟩) := hF 18 (by decide)
        have h19 : vs 19 = (.pointer (some ⟨w.heap.size, 7, none⟩)) := hF 19 (by decide)
        have h20 : vs 20 = (.slice (some ⟨b, off, none⟩) n cap) := hF 20 (by decide)
        have h21 : vs 21 = (.int .i64 (k : Int)) := hF 21 (by decide)
        have h22 : vs 22 = (.pointer (some ⟨b, off + k * 19, none⟩)) := hF 22 (by decide)
        have h23 : vs 23 = (.pointer (some ⟨b, off + k * 19, none⟩)) := hF 23 (by decide)
        have h24 : vs 24 = (.pointer (some ⟨b, off + k * 19, none⟩)) := hF 24 (by decide)
        have h25 : vs 25 = (.string ⟨x.name.toArray⟩) := hF 25 (by decide)
        have h26 : vs 26 = (.bool (!true)) := hF 26 (by decide)
        have h27 : vs 27 = (.bool false) := hF 27 (by decide)
        have h28 : vs 28 = (.bool false) := hF 28 (by decide)
        clear hF
        show (_ : Exit → Act → World → Prop) Exit.normal (puts _ vs 29 _) Wq7
        simp only [puts, h0, h1, h2, h3, h4, h5, h6, h7, h8, h9, h10, h11, h12, h13, h14, h15, h16, h17, h18, h19, h20, h21, h22, h23, h24, h25, h26, h27, h28, List.getD_cons_zero, List.getD_cons_succ]
        clear h0 h1 h2 h3 h4 h5 h6 h7 h8 h9 h10 h11 h12 h13 h14 h15 h16 h17 h18 h19 h20 h21 h22 h23 h24 h25 h26 h27 h28
        go_simp
        have hB9 : Below Wi.heap.size Wi Wq7 := hJ
        generalize Wq7 = W9 at *
        clear hJ hall
        have HG2 : Hid (∀ j, j < k + 1 → goodAt xs j = true) := fun j hj => by
         rcases Nat.lt_or_ge j k with h | h
         ·exact HG.out j h
         ·obtain rfl : j = k := by omega
          exact HGK.out
        have HB9 : Hid (Below W0.heap.size W0 W9) := HBi.out.trans (hB9.mono HBi.out.size)
        clear hB9 HG
        go_wp2
        go_roundw
        case rel => exact ⟨k + 1, by omega, by go_num, HG2, HB9⟩
        case measure => simp [intOf]; omega
     ·as_aux_lemma =>
      have hk0 : Hid (k = 0) := by show _ = _; omega
      clear hp
      have HGK : Hid (goodAt xs k = true) := by show _ = _; unfold goodAt; rw [← HX.out, ← HY.out]; rw [hfi, show (k == 0) = true by have := hk0.out; simp; omega]; rfl
      have hcon : ∀ W, Calls Tryd.prog 18 #[.agg x.cells.toArray] W fun e w' => e = .returned (.bool true) ∧ Below W.heap.size W w' := fun W => by
       have := ritem_any x W HNM.out
       rw [hfi] at this
       exact this
      clear hki1 htn hsub hc1 hfi
      refine wpIn_wide (n := 5).1 (wpIn_flowM (F0 := Fence.wide) (n0 := 5) (fun _ => trivial) (fun h => by cases h) (by kernel_rfl) (by kernel_rfl) 29 29 (by kernel_rfl) (fun j => ([0, 1, 2, 3, 4, 5, 6, 7, 8, 9, 10, 11, 12, 13, 14, 15, 16, 17, 18, 19, 20, 21, 22, 23, 24, 25, 26, 27, 28] : List Nat).getD j 0) (fun j => ([87, 88, 89, 90, 91, 92, 93, 94, 95, 96, 97, 98, 99, 100, 101, 102, 103, 104, 105, 106, 107, 108, 109, 110, 111, 112, 113, 114, 115] : List Nat).getD j 0) (by kernel_rfl) (by kernel_rfl) (by kernel_rfl) (by kernel_rfl) (by kernel_rfl) (by kernel_rfl) (by kernel_rfl) (fun j zv => ([(fun zv => zv = (.pointer (some ⟨w.heap.size, 7, none⟩))), (fun zv => zv = (.slice (some ⟨b, off, none⟩) n cap)), (fun zv => zv = (.int .i64 (k : Int))), (fun zv => zv = (.pointer (some ⟨b, off + k * 19, none⟩))), (fun zv => zv = (.agg x.cells.toArray)), (fun zv => zv = (.bool true)), (fun zv => zv = (.bool false)), (fun zv => zv = (.bool false)), (fun zv => zv = (.int .i64 (k : Int))), (fun zv => zv = (.bool false)), (fun zv => zv = (.bool false)), (fun zv => zv = undef), (fun zv => zv = undef), (fun zv => zv = undef), (fun zv => zv = undef), (fun zv => zv = undef), (fun zv => zv = undef), (fun zv => zv = undef), (fun zv => zv = undef), (fun zv => zv = undef), (fun zv => zv = undef), (fun zv => zv = undef), (fun zv => zv = undef), (fun zv => zv = undef), (fun zv => zv = undef), (fun zv => zv = undef), (fun zv => zv = undef), (fun zv => zv = (.bool false)), (fun zv => zv = (.bool false))] : List (Value → Prop)).getD j (fun _ => True) zv) (fun _ _ W => Below Wi.heap.size Wi W) ?h0q8 ?stepq8 ?finq8)
      case h0q8 => exact fun _ => bdN Wi.heap.size Wi 1
      case stepq8 =>
       intro i o a W d vs hi ho hdi hJ hf hr hF
       replace hi : i < 29 := hi
       rcases (show i = 0 ∨ i = 1 ∨ i = 2 ∨ i = 3 ∨ i = 4 ∨ i = 5 ∨ i = 6 ∨ i = 7 ∨ i = 8 ∨ i = 9 ∨ i = 10 ∨ i = 11 ∨ i = 12 ∨ i = 13 ∨ i = 14 ∨ i = 15 ∨ i = 16 ∨ i = 17 ∨ i = 18 ∨ i = 19 ∨ i = 20 ∨ i = 21 ∨ i = 22 ∨ i = 23 ∨ i = 24 ∨ i = 25 ∨ i = 26 ∨ i = 27 ∨ i = 28 by omega) with rfl | rfl | rfl | rfl | rfl | rfl | rfl | rfl | rfl | rfl | rfl | rfl | rfl | rfl | rfl | rfl | rfl | rfl | rfl | rfl | rfl | rfl | rfl | rfl | rfl | rfl | rfl | rfl | rfl
       ·replace ho := op_at ho (by rfl)
        subst ho
        have f1 : a.tmps.getD 1 undef = (.pointer (some ⟨w.heap.size, 0, none⟩)) := hf 1 (by kernel_rfl)
        exact .inl ⟨(fun k b h => by cases h), .inl ⟨0, by decide, rfl, (.pointer (some ⟨w.heap.size, 7, none⟩)), W, (by simp [go_sem, Act.eval, f1]), rfl, hJ⟩⟩
       ·replace ho := op_at ho (by rfl)
        subst ho
        have d0 : a.tmps.getD 87 undef = (.pointer (some ⟨w.heap.size, 7, none⟩)) := by have h1 := hF 0 (by decide) (hr 0 (by kernel_rfl)); exact h1.2.trans h1.1
        have c7 := cell_of_row _ _ 7 _ _ _ (stays KB.out hJ)
        exact .inl ⟨(fun k b h => by cases h), .inl ⟨1, by decide, rfl, (.slice (some ⟨b, off, none⟩) n cap), W, (by simp [go_sem, Act.eval, d0, c7]), rfl, hJ⟩⟩
       ·replace ho := op_at ho (by rfl)
        subst ho
        have f3 : a.tmps.getD 3 undef = (.int .i64 (k : Int)) := hf 3 (by kernel_rfl)
        exact .inl ⟨(fun k b h => by cases h), .inl ⟨2, by decide, rfl, (.int .i64 (k : Int)), W, (by simp [go_sem, Act.eval, f3]), rfl, hJ⟩⟩
       ·replace ho := op_at ho (by rfl)
        subst ho
        have d1 : a.tmps.getD 88 undef = (.slice (some ⟨b, off, none⟩) n cap) := by have h1 := hF 1 (by decide) (hr 1 (by kernel_rfl)); exact h1.2.trans h1.1
        have d2 : a.tmps.getD 89 undef = (.int .i64 (k : Int)) := by have h1 := hF 2 (by decide) (hr 2 (by kernel_rfl)); exact h1.2.trans h1.1
        exact .inl ⟨(fun k b h => by cases h), .inl ⟨3, by decide, rfl, (.pointer (some ⟨b, off + k * 19, none⟩)), W, (by simp [go_sem, Act.eval, d1, d2, hki]), rfl, hJ⟩⟩
       ·replace ho := op_at ho (by rfl)
        subst ho
        have d3 : a.tmps.getD 90 undef = (.pointer (some ⟨b, off + k * 19, none⟩)) := by have h1 := hF 3 (by decide) (hr 3 (by kernel_rfl)); exact h1.2.trans h1.1
        exact .inl ⟨(fun k b h => by cases h), .inl ⟨4, by decide, rfl, (.agg x.cells.toArray), W, (exec_load_mid 38 _ rfl b (off + k * 19) _ (.struct (Tryd.prog.fieldsOf 38)) (show a.eval (.tmp 90) = _ from d3) (fun j u hu => (hJ.cell (p := ⟨b, off + k * 19 + j, none⟩) hbW).trans (hrk j u hu)) (by kernel_rfl) rfl (by kernel_rfl)), rfl, hJ⟩⟩
       ·replace ho := op_at ho (by rfl)
        subst ho
        have d4 : a.tmps.getD 91 undef = (.agg x.cells.toArray) := by have h1 := hF 4 (by decide) (hr 4 (by kernel_rfl)); exact h1.2.trans h1.1
        refine .inl ⟨(fun k b h => by cases h), .inr (.inr ⟨5, by decide, rfl, 18, #[(.agg x.cells.toArray)], W, (by simp [go_sem, Act.eval, d4]), ?_⟩)⟩
        refine (callsIn_wide.2 (hcon W)).mono ?_
        rintro e W' ⟨rfl, hBe⟩
        exact ⟨_, rfl, rfl, hJ.trans (hBe.mono hJ.size)⟩
       ·replace ho := op_at ho (by rfl)
        subst ho
        have d5 : a.tmps.getD 92 undef = (.bool true) := by have h1 := hF 5 (by decide) (hr 5 (by kernel_rfl)); exact h1.2.trans h1.1
        exact .inl ⟨(fun k b h => by cases h), .inl ⟨6, by decide, rfl, (.bool false), W, (by simp [go_sem, Act.eval, d5]), rfl, hJ⟩⟩
       ·replace ho := op_at ho (by rfl)
        subst ho
        have d6 : a.tmps.getD 93 undef = (.bool false) := by have h1 := hF 6 (by decide) (hr 6 (by kernel_rfl)); exact h1.2.trans h1.1
        exact .inl ⟨(fun k b h => by cases h), .inl ⟨7, by decide, rfl, (.bool false), W, (by simp [go_sem, Act.eval, d6]), rfl, hJ⟩⟩
       ·replace ho := op_at ho (by rfl)
        subst ho
        have d7 : a.tmps.getD 94 undef = (.bool false) := by have h1 := hF 7 (by decide) (hr 7 (by kernel_rfl)); exact h1.2.trans h1.1
        have f3 : a.tmps.getD 3 undef = (.int .i64 (k : Int)) := hf 3 (by kernel_rfl)
        exact .inl ⟨(fun k b h => by cases h; exact ⟨7, by decide, rfl, d7⟩), .inl ⟨8, by decide, rfl, (.int .i64 (k : Int)), W, (by simp [go_sem, Act.eval, d7, f3]), rfl, hJ⟩⟩
       ·replace ho := op_at ho (by rfl)
        subst ho
        have d8 : a.tmps.getD 95 undef = (.int .i64 (k : Int)) := by have h1 := hF 8 (by decide) (hr 8 (by kernel_rfl)); exact h1.2.trans h1.1
        have d7 : a.tmps.getD 94 undef = (.bool false) := by have h1 := hF 7 (by decide) (hr 7 (by kernel_rfl)); exact h1.2.trans h1.1
        exact .inl ⟨(fun k b h => by cases h; exact ⟨7, by decide, rfl, d7⟩), .inl ⟨9, by decide, rfl, (.bool false), W, (by simp [go_sem, Act.eval, d8, d7, hk0.out]), rfl, hJ⟩⟩
       ·replace ho := op_at ho (by rfl)
        subst ho
        have d9 : a.tmps.getD 96 undef = (.bool false) := by have h1 := hF 9 (by decide) (hr 9 (by kernel_rfl)); exact h1.2.trans h1.1
        have d7 : a.tmps.getD 94 undef = (.bool false) := by have h1 := hF 7 (by decide) (hr 7 (by kernel_rfl)); exact h1.2.trans h1.1
        exact .inl ⟨(fun k b h => by cases h; exact ⟨7, by decide, rfl, d7⟩), .inl ⟨10, by decide, rfl, (.bool false), W, (by simp [go_sem, Act.eval, d9, d7]), rfl, hJ⟩⟩
       ·replace ho := op_at ho (by rfl)
        subst ho
        have d10 : a.tmps.getD 97 undef = (.bool false) := by have h1 := hF 10 (by decide) (hr 10 (by kernel_rfl)); exact h1.2.trans h1.1
        exact .inr ⟨10, true, 10, rfl, by decide, rfl, (fun hc => by have hc2 := d10.symm.trans hc; first | (cases hc2; done) | simp [undef] at hc2), .inl ⟨11, by decide, rfl, rfl, hJ⟩⟩
       ·replace ho := op_at ho (by rfl)
        subst ho
        have d10 : a.tmps.getD 97 undef = (.bool false) := by have h1 := hF 10 (by decide) (hr 10 (by kernel_rfl)); exact h1.2.trans h1.1
        exact .inr ⟨10, true, 10, rfl, by decide, rfl, (fun hc => by have hc2 := d10.symm.trans hc; first | (cases hc2; done) | simp [undef] at hc2), .inl ⟨12, by decide, rfl, rfl, hJ⟩⟩
       ·replace ho := op_at ho (by rfl)
        subst ho
        have d10 : a.tmps.getD 97 undef = (.bool false) := by have h1 := hF 10 (by decide) (hr 10 (by kernel_rfl)); exact h1.2.trans h1.1
        exact .inr ⟨10, true, 10, rfl, by decide, rfl, (fun hc => by have hc2 := d10.symm.trans hc; first | (cases hc2; done) | simp [undef] at hc2), .inl ⟨13, by decide, rfl, rfl, hJ⟩⟩
       ·replace ho := op_at ho (by rfl)
        subst ho
        have d10 : a.tmps.getD 97 undef = (.bool false) := by have h1 := hF 10 (by decide) (hr 10 (by kernel_rfl)); exact h1.2.trans h1.1
        exact .inr ⟨10, true, 10, rfl, by decide, rfl, (fun hc => by have hc2 := d10.symm.trans hc; first | (cases hc2; done) | simp [undef] at hc2), .inl ⟨14, by decide, rfl, rfl, hJ⟩⟩
       ·replace ho := op_at ho (by rfl)
        subst ho
        have d10 : a.tmps.getD 97 undef = (.bool false) := by have h1 := hF 10 (by decide) (hr 10 (by kernel_rfl)); exact h1.2.trans h1.1
        exact .inr ⟨10, true, 10, rfl, by decide, rfl, (fun hc => by have hc2 := d10.symm.trans hc; first | (cases hc2; done) | simp [undef] at hc2), .inl ⟨15, by decide, rfl, rfl, hJ⟩⟩
       ·replace ho := op_at ho (by rfl)
        subst ho
        have d10 : a.tmps.getD 97 undef = (.bool false) := by have h1 := hF 10 (by decide) (hr 10 (by kernel_rfl)); exact h1.2.trans h1.1
        exact .inr ⟨10, true, 10, rfl, by decide, rfl, (fun hc => by have hc2 := d10.symm.trans hc; first | (cases hc2; done) | simp [undef] at hc2), .inl ⟨16, by decide, rfl, rfl, hJ⟩⟩
       ·replace ho := op_at ho (by rfl)
        subst ho
        have d10 : a.tmps.getD 97 undef = (.bool false) := by have h1 := hF 10 (by decide) (hr 10 (by kernel_rfl)); exact h1.2.trans h1.1
        exact .inr ⟨10, true, 10, rfl, by decide, rfl, (fun hc => by have hc2 := d10.symm.trans hc; first | (cases hc2; done) | simp [undef] at hc2), .inl ⟨17, by decide, rfl, rfl, hJ⟩⟩
       ·replace ho := op_at ho (by rfl)
        subst ho
        have d10 : a.tmps.getD 97 undef = (.bool false) := by have h1 := hF 10 (by decide) (hr 10 (by kernel_rfl)); exact h1.2.trans h1.1
        exact .inr ⟨10, true, 10, rfl, by decide, rfl, (fun hc => by have hc2 := d10.symm.trans hc; first | (cases hc2; done) | simp [undef] at hc2), .inl ⟨18, by decide, rfl, rfl, hJ⟩⟩
       ·replace ho := op_at ho (by rfl)
        subst ho
        have d10 : a.tmps.getD 97 undef = (.bool false) := by have h1 := hF 10 (by decide) (hr 10 (by kernel_rfl)); exact h1.2.trans h1.1
        exact .inr ⟨10, true, 10, rfl, by decide, rfl, (fun hc => by have hc2 := d10.symm.trans hc; first | (cases hc2; done) | simp [undef] at hc2), .inl ⟨19, by decide, rfl, rfl, hJ⟩⟩
       ·replace ho := op_at ho (by rfl)
        subst ho
        have d10 : a.tmps.getD 97 undef = (.bool false) := by have h1 := hF 10 (by decide) (hr 10 (by kernel_rfl)); exact h1.2.trans h1.1
        exact .inr ⟨10, true, 10, rfl, by decide, rfl, (fun hc => by have hc2 := d10.symm.trans hc; first | (cases hc2; done) | simp [undef] at hc2), .inl ⟨20, by decide, rfl, rfl, hJ⟩⟩
       ·replace ho := op_at ho (by rfl)
        subst ho
        have d10 : a.tmps.getD 97 undef = (.bool false) := by have h1 := hF 10 (by decide) (hr 10 (by kernel_rfl)); exact h1.2.trans h1.1
        exact .inr ⟨10, true, 10, rfl, by decide, rfl, (fun hc => by have hc2 := d10.symm.trans hc; first | (cases hc2; done) | simp [undef] at hc2), .inl ⟨21, by decide, rfl, rfl, hJ⟩⟩
       ·replace ho := op_at ho (by rfl)
        subst ho
        have d10 : a.tmps.getD 97 undef = (.bool false) := by have h1 := hF 10 (by decide) (hr 10 (by kernel_rfl)); exact h1.2.trans h1.1
        exact .inr ⟨10, true, 10, rfl, by decide, rfl, (fun hc => by have hc2 := d10.symm.trans hc; first | (cases hc2; done) | simp [undef] at hc2), .inl ⟨22, by decide, rfl, rfl, hJ⟩⟩
       ·replace ho := op_at ho (by rfl)
        subst ho
        have d10 : a.tmps.getD 97 undef = (.bool false) := by have h1 := hF 10 (by decide) (hr 10 (by kernel_rfl)); exact h1.2.trans h1.1
        exact .inr ⟨10, true, 10, rfl, by decide, rfl, (fun hc => by have hc2 := d10.symm.trans hc; first | (cases hc2; done) | simp [undef] at hc2), .inl ⟨23, by decide, rfl, rfl, hJ⟩⟩
       ·replace ho := op_at ho (by rfl)
        subst ho
        have d10 : a.tmps.getD 97 undef = (.bool false) := by have h1 := hF 10 (by decide) (hr 10 (by kernel_rfl)); exact h1.2.trans h1.1
        exact .inr ⟨10, true, 10, rfl, by decide, rfl, (fun hc => by have hc2 := d10.symm.trans hc; first | (cases hc2; done) | simp [undef] at hc2), .inl ⟨24, by decide, rfl, rfl, hJ⟩⟩
       ·replace ho := op_at ho (by rfl)
        subst ho
        have d10 : a.tmps.getD 97 undef = (.bool false) := by have h1 := hF 10 (by decide) (hr 10 (by kernel_rfl)); exact h1.2.trans h1.1
        exact .inr ⟨10, true, 10, rfl, by decide, rfl, (fun hc => by have hc2 := d10.symm.trans hc; first | (cases hc2; done) | simp [undef] at hc2), .inl ⟨25, by decide, rfl, rfl, hJ⟩⟩
       ·replace ho := op_at ho (by rfl)
        subst ho
        have d10 : a.tmps.getD 97 undef = (.bool false) := by have h1 := hF 10 (by decide) (hr 10 (by kernel_rfl)); exact h1.2.trans h1.1
        exact .inr ⟨10, true, 10, rfl, by decide, rfl, (fun hc => by have hc2 := d10.symm.trans hc; first | (cases hc2; done) | simp [undef] at hc2), .inl ⟨26, by decide, rfl, rfl, hJ⟩⟩
       ·replace ho := op_at ho (by rfl)
        subst ho
        have d10 : a.tmps.getD 97 undef = (.bool false) := by have h1 := hF 10 (by decide) (hr 10 (by kernel_rfl)); exact h1.2.trans h1.1
        have d7 : a.tmps.getD 94 undef = (.bool false) := by have h1 := hF 7 (by decide) (hr 7 (by kernel_rfl)); exact h1.2.trans h1.1
        exact .inl ⟨(fun k b h => by cases h; exact ⟨7, by decide, rfl, d7⟩), .inl ⟨27, by decide, rfl, (.bool false), W, (by simp [go_sem, Act.eval, d10, d7]), rfl, hJ⟩⟩
       ·replace ho := op_at ho (by rfl)
        subst ho
        have d7 : a.tmps.getD 94 undef = (.bool false) := by have h1 := hF 7 (by decide) (hr 7 (by kernel_rfl)); exact h1.2.trans h1.1
        have d27 : a.tmps.getD 114 undef = (.bool false) := by have h1 := hF 27 (by decide) (hr 27 (by kernel_rfl)); exact h1.2.trans h1.1
        exact .inl ⟨(fun k b h => by cases h), .inl ⟨28, by decide, rfl, (.bool false), W, (by simp [go_sem, Act.eval, d7, d27]), rfl, hJ⟩⟩
      case finq8 =>
       intro d vs Wq8 hall hJ hF
       have h0 : vs 0 = (.pointer (some ⟨w.heap.size, 7, none⟩)) := hF 0 (by decide)
       have h1 : vs 1 = (.slice (some ⟨b, off, none⟩) n cap) := hF 1 (by decide)
       have h2 : vs 2 = (.int .i64 (k : Int)) := hF 2 (by decide)
       have h3 : vs 3 = (.pointer (some ⟨b, off + k * 19, none⟩)) := hF 3 (by decide)
       have h4 : vs 4 = (.agg x.cells.toArray) := hF 4 (by decide)
       have h5 : vs 5 = (.bool true) := hF 5 (by decide)
       have h6 : vs 6 = (.bool false) := hF 6 (by decide)
       have h7 : vs 7 = (.bool false) := hF 7 (by decide)
       have h8 : vs 8 = (.int .i64 (k : Int)) := hF 8 (by decide)
       have h9 : vs 9 = (.bool false) := hF 9 (by decide)
       have h10 : vs 10 = (.bool false) := hF 10 (by decide)
       have h11 : vs 11 = undef := hF 11 (by decide)
       have h12 : vs 12 = undef := hF 12 (by decide)
       have h13 : vs 13 = undef := hF 13 (by decide)
       have h14 : vs 14 = undef := hF 14 (by decide)
       have h15 : vs 15 = undef := hF 15 (by decide)
       have h16 : vs 16 = undef := hF 16 (by decide)
       have h17 : vs 17 = undef := hF 17 (by decide)
       have h18 : vs 18 = undef := hF 18 (by decide)
       have h19 : vs 19 = undef := hF 19 (by decide)
       have h20 : vs 20 = undef := hF 20 (by decide)
       have h21 : vs 21 = undef := hF 21 (by decide)
       have h22 : vs 22 = undef := hF 22 (by decide)
       have h23 : vs 23 = undef := hF 23 (by decide)
       have h24 : vs 24 = undef := hF 24 (by decide)
       have h25 : vs 25 = undef := hF 25 (by decide)
       have h26 : vs 26 = undef := hF 26 (by decide)
       have h27 : vs 27 = (.bool false) := hF 27 (by decide)
       have h28 : vs 28 = (.bool false) := hF 28 (by decide)
       clear hF
       show (_ : Exit → Act → World → Prop) Exit.normal (puts _ vs 29 _) Wq8
       simp only [puts, h0, h1, h2, h3, h4, h5, h6, h7, h8, h9, h10, h11, h12, h13, h14, h15, h16, h17, h18, h19, h20, h21, h22, h23, h24, h25, h26, h27, h28, List.getD_cons_zero, List.getD_cons_succ]
       clear h0 h1 h2 h3 h4 h5 h6 h7 h8 h9 h10 h11 h12 h13 h14 h15 h16 h17 h18 h19 h20 h21 h22 h23 h24 h25 h26 h27 h28
       go_simp
       have hB9 : Below Wi.heap.size Wi Wq8 := hJ
       generalize Wq8 = W9 at *
       clear hJ hall
       have HG2 : Hid (∀ j, j < k + 1 → goodAt xs j = true) := fun j hj => by
        rcases Nat.lt_or_ge j k with h | h
        ·exact HG.out j h
        ·obtain rfl : j = k := by omega
         exact HGK.out
       have HB9 : Hid (Below W0.heap.size W0 W9) := HBi.out.trans (hB9.mono HBi.out.size)
       clear hB9 HG
       go_wp2
       go_roundw
       case rel => exact ⟨k + 1, by omega, by go_num, HG2, HB9⟩
       case measure => simp [intOf]; omega
   ·have hr := HRB.out
    rw [itemsB_t (fun j hj => HG.out j (by have := HN.out; omega))] at hr
    simp at hr
    have LF := HL0.out.trans (HB.out.mono HL0.out.size)
    have c7 := cell_of_row _ _ 7 _ _ _ (stays KB1.out HB.out)
    clear HG HB
    rw [show decide (n ≤ 8) = true by simp; omega] at hr
    subst hr
    go_wp2
    go_ret
    exact ⟨rfl, LF⟩
 have hk3' : (kind != 3) = true := by simpa using hk3
 have hk4' : (kind != 4) = true := by simpa using hk4
 rw [if_neg (by omega)] at HRB
 clear hk1 hk3 hk4
 by_cases hn0 : n = 0
 ·have q0 : decide ((n : Int) = 0) = true := by simp; omega
  have q1 : ((n : Int) == 0) = true := by simp; omega
  rw [show (n == 0) = true by simp; omega] at HRB
  clear hn0
  as_aux_lemma =>
  go_enter Tryd.func12, Tryd.ntmps12
  go_wp2_with (first | (with_reducible refine (hf _).mono ?_; rintro e w' ⟨rfl, rfl⟩) | (with_reducible refine (ht _).mono ?_; rintro e w' ⟨rfl, rfl⟩) | (with_reducible refine (hb _).mono ?_; rintro e w' ⟨rfl, rfl⟩) | (with_reducible refine (hl _).mono ?_; rintro e w' ⟨rfl, rfl⟩) | (with_reducible refine (he1 _).mono ?_; rintro e w' ⟨rfl, rfl⟩) | (with_reducible refine (he2 _).mono ?_; rintro e w' ⟨rfl, rfl⟩))
  go_ret
  have hr := HRB.out
  try simp at hr
  subst hr
  exact ⟨by first | rfl | simp, (Below.refl _ _).alloc (Nat.le_refl _) _⟩
 ·have q0 : decide ((n : Int) = 0) = false := by simp; omega
  have q1 : ((n : Int) == 0) = false := by simp; omega
  rw [show (n == 0) = false by simp; omega] at HRB
  clear hn0
  as_aux_lemma =>
  go_enter Tryd.func12, Tryd.ntmps12
  go_wp2_with (first | (with_reducible refine (hf _).mono ?_; rintro e w' ⟨rfl, rfl⟩) | (with_reducible refine (ht _).mono ?_; rintro e w' ⟨rfl, rfl⟩) | (with_reducible refine (hb _).mono ?_; rintro e w' ⟨rfl, rfl⟩) | (with_reducible refine (hl _).mono ?_; rintro e w' ⟨rfl, rfl⟩) | (with_reducible refine (he1 _).mono ?_; rintro e w' ⟨rfl, rfl⟩) | (with_reducible refine (he2 _).mono ?_; rintro e w' ⟨rfl, rfl⟩))
  go_ret
  have hr := HRB.out
  try simp at hr
  subst hr
  exact ⟨by first | rfl | simp, (Below.refl _ _).alloc (Nat.le_refl _) _⟩

end Go.Proofs.YtgnpjenpehfjbaaDoor

