/- Wire: Fit, both sides (by program: wip/tools/gen_wire7.py). -/
import Derived.Test.YtgnpjenpehfjbaaDoorME
set_option linter.unusedSimpArgs false
set_option linter.unusedVariables false
namespace Go.Proofs.YtgnpjenpehfjbaaDoor
open Go.RowKit


set_option maxRecDepth 100000 in
set_option maxHeartbeats 4000000 in
theorem fit_any (p : Pkt) (v : Value) (w : World) (hv : Ims w w.heap.size v p.items) (hnl : ∀ x ∈ p.items, x.name.length ≤ 9223372036854775807) : Calls Tryd.prog 11 #[.agg (p.cells v).toArray] w fun e w' => e = .returned (.bool (fitP p)) ∧ Below w.heap.size w w' := by
 obtain ⟨kind, frm, to, boot, life, echo, elife, xs⟩ := p
 obtain ⟨ao, cap, rfl, hcap, hmx⟩ := hv.slice
 have HV := Lib.hid hv
 obtain ⟨n, hn⟩ : ∃ n, n = xs.length := ⟨_, rfl⟩
 have hmx' : n ≤ 9223372036854775807 := by rw [hn]; unfold maxLen at hmx; exact hmx
 obtain ⟨R, hR⟩ : ∃ R, R = fitP ⟨kind, frm, to, boot, life, echo, elife, xs⟩ := ⟨_, rfl⟩
 have HRB : Hid (R = ((decide (1 ≤ kind) && (decide (kind ≤ 5) && (nodeB frm && (nodeB to && (!(frm == to) && (inB boot 1 1099511627776 && inB life 0 1099511627776)))))) && ((if kind = 1 then echo == 0 && elife == 0 else inB echo 1 1099511627776 && inB elife 0 1099511627776) && (if kind = 3 ∨ kind = 4 then itemsB xs && decide (n ≤ 8) else n == 0)))) := by rw [hn]; exact hR
 show Calls _ _ #[.agg #[.int .i64 kind, .int .i64 frm, .int .i64 to, .int .i64 boot, .int .i64 life, .int .i64 echo, .int .i64 elife, .slice ao xs.length cap]] w _
 rw [← hR]
 simp only at HV
 rw [← hn] at HV hcap hmx ⊢
 have HN := Lib.hid hn
 have HNL := Lib.hid hnl
 clear hv hn hR hnl hmx
 have hf := fun W => node_any frm W
 have ht := fun W => node_any to W
 have hb := fun W => within_any boot 1 1099511627776 W
 have hl := fun W => within_any life 0 1099511627776 W
 generalize nodeB frm = b2 at *
 generalize nodeB to = b3 at *
 generalize inB boot 1 1099511627776 = b5 at *
 generalize inB life 0 1099511627776 = b6 at *
 by_cases h1 : 1 ≤ kind
 case neg =>
  have k1 : decide (kind < 1) = true := by simp; omega
  rw [show decide (1 ≤ kind) = false by simp; omega] at HRB
  clear h1 hf ht hb hl
  as_aux_lemma =>
  go_enter Tryd.func11, Tryd.ntmps11
  go_wp2_with (fail)
  go_ret
  have hr := HRB.out
  try simp at hr
  subst hr
  exact ⟨by first | rfl | simp, (Below.refl _ _).alloc (Nat.le_refl _) _⟩
 have k1 : decide (kind < 1) = false := by simp; omega
 rw [show decide (1 ≤ kind) = true by simp; omega] at HRB
 by_cases h5 : kind ≤ 5
 case neg =>
  have k5 : decide (5 < kind) = true := by simp; omega
  rw [show decide (kind ≤ 5) = false by simp; omega] at HRB
  clear h1 h5 hf ht hb hl
  as_aux_lemma =>
  go_enter Tryd.func11, Tryd.ntmps11
  go_wp2_with (fail)
  go_ret
  have hr := HRB.out
  try simp at hr
  subst hr
  exact ⟨by first | rfl | simp, (Below.refl _ _).alloc (Nat.le_refl _) _⟩
 have k5 : decide (5 < kind) = false := by simp; omega
 rw [show decide (kind ≤ 5) = true by simp; omega] at HRB
 clear h1 h5
 cases b2
 ·clear ht hb hl
  as_aux_lemma =>
  go_enter Tryd.func11, Tryd.ntmps11
  go_wp2_with (first | (with_reducible refine (hf _).mono ?_; rintro e w' ⟨rfl, rfl⟩))
  go_ret
  have hr := HRB.out
  try simp at hr
  subst hr
  exact ⟨by first | rfl | simp, (Below.refl _ _).alloc (Nat.le_refl _) _⟩
 cases b3
 ·clear hb hl
  as_aux_lemma =>
  go_enter Tryd.func11, Tryd.ntmps11
  go_wp2_with (first | (with_reducible refine (hf _).mono ?_; rintro e w' ⟨rfl, rfl⟩) | (with_reducible refine (ht _).mono ?_; rintro e w' ⟨rfl, rfl⟩))
  go_ret
  have hr := HRB.out
  try simp at hr
  subst hr
  exact ⟨by first | rfl | simp, (Below.refl _ _).alloc (Nat.le_refl _) _⟩
 by_cases hft : frm = to
 ·have e5 : (frm == to) = true := by simpa using hft
  rw [e5] at HRB
  clear hb hl hft
  as_aux_lemma =>
  go_enter Tryd.func11, Tryd.ntmps11
  go_wp2_with (first | (with_reducible refine (hf _).mono ?_; rintro e w' ⟨rfl, rfl⟩) | (with_reducible refine (ht _).mono ?_; rintro e w' ⟨rfl, rfl⟩))
  go_ret
  have hr := HRB.out
  try simp at hr
  subst hr
  exact ⟨by first | rfl | simp, (Below.refl _ _).alloc (Nat.le_refl _) _⟩
 have e5 : (frm == to) = false := by simpa using hft
 rw [e5] at HRB
 clear hft
 cases b5
 ·clear hl
  as_aux_lemma =>
  go_enter Tryd.func11, Tryd.ntmps11
  go_wp2_with (first | (with_reducible refine (hf _).mono ?_; rintro e w' ⟨rfl, rfl⟩) | (with_reducible refine (ht _).mono ?_; rintro e w' ⟨rfl, rfl⟩) | (with_reducible refine (hb _).mono ?_; rintro e w' ⟨rfl, rfl⟩))
  go_ret
  have hr := HRB.out
  try simp at hr
  subst hr
  exact ⟨by first | rfl | simp, (Below.refl _ _).alloc (Nat.le_refl _) _⟩
 cases b6
 ·as_aux_lemma =>
  go_enter Tryd.func11, Tryd.ntmps11
  go_wp2_with (first | (with_reducible refine (hf _).mono ?_; rintro e w' ⟨rfl, rfl⟩) | (with_reducible refine (ht _).mono ?_; rintro e w' ⟨rfl, rfl⟩) | (with_reducible refine (hb _).mono ?_; rintro e w' ⟨rfl, rfl⟩) | (with_reducible refine (hl _).mono ?_; rintro e w' ⟨rfl, rfl⟩))
  go_ret
  have hr := HRB.out
  try simp at hr
  subst hr
  exact ⟨by first | rfl | simp, (Below.refl _ _).alloc (Nat.le_refl _) _⟩
 by_cases hk1 : kind = 1
 ·subst hk1
  rw [if_pos rfl, if_neg (by omega)] at HRB
  obtain ⟨z1, hz1⟩ : ∃ z, z = (echo == 0) := ⟨_, rfl⟩
  obtain ⟨z2, hz2⟩ : ∃ z, z = (elife == 0) := ⟨_, rfl⟩
  rw [← hz1, ← hz2] at HRB
  have y1 : (echo != 0) = !z1 := by rw [hz1]; rfl
  have y2 : (elife != 0) = !z2 := by rw [hz2]; rfl
  clear hz1 hz2 k1 k5
  cases z1
  ·as_aux_lemma =>
   go_enter Tryd.func11, Tryd.ntmps11
   go_wp2_with (first | (with_reducible refine (hf _).mono ?_; rintro e w' ⟨rfl, rfl⟩) | (with_reducible refine (ht _).mono ?_; rintro e w' ⟨rfl, rfl⟩) | (with_reducible refine (hb _).mono ?_; rintro e w' ⟨rfl, rfl⟩) | (with_reducible refine (hl _).mono ?_; rintro e w' ⟨rfl, rfl⟩))
   go_ret
   have hr := HRB.out
   try simp at hr
   subst hr
   exact ⟨by first | rfl | simp, (Below.refl _ _).alloc (Nat.le_refl _) _⟩
  cases z2
  ·as_aux_lemma =>
   go_enter Tryd.func11, Tryd.ntmps11
   go_wp2_with (first | (with_reducible refine (hf _).mono ?_; rintro e w' ⟨rfl, rfl⟩) | (with_reducible refine (ht _).mono ?_; rintro e w' ⟨rfl, rfl⟩) | (with_reducible refine (hb _).mono ?_; rintro e w' ⟨rfl, rfl⟩) | (with_reducible refine (hl _).mono ?_; rintro e w' ⟨rfl, rfl⟩))
   go_ret
   have hr := HRB.out
   try simp at hr
   subst hr
   exact ⟨by first | rfl | simp, (Below.refl _ _).alloc (Nat.le_refl _) _⟩
  by_cases hn0 : n = 0
  ·have q0 : decide ((n : Int) = 0) = true := by simp; omega
   have q1 : ((n : Int) == 0) = true := by simp; omega
   rw [show (n == 0) = true by simp; omega] at HRB
   clear hn0
   as_aux_lemma =>
   go_enter Tryd.func11, Tryd.ntmps11
   go_wp2_with (first | (with_reducible refine (hf _).mono ?_; rintro e w' ⟨rfl, rfl⟩) | (with_reducible refine (ht _).mono ?_; rintro e w' ⟨rfl, rfl⟩) | (with_reducible refine (hb _).mono ?_; rintro e w' ⟨rfl, rfl⟩) | (with_reducible refine (hl _).mono ?_; rintro e w' ⟨rfl, rfl⟩))
   go_ret
   have hr := HRB.out
   try simp at hr
   subst hr
   exact ⟨by first | rfl | simp, (Below.refl _ _).alloc (Nat.le_refl _) _⟩
  ·have q0 : decide ((n : Int) = 0) = false := by simp; omega
   have q1 : ((n : Int) == 0) = false := by simp; omega
   rw [show (n == 0) = false by simp; omega] at HRB
   clear hn0
   as_aux_lemma =>
   go_enter Tryd.func11, Tryd.ntmps11
   go_wp2_with (first | (with_reducible refine (hf _).mono ?_; rintro e w' ⟨rfl, rfl⟩) | (with_reducible refine (ht _).mono ?_; rintro e w' ⟨rfl, rfl⟩) | (with_reducible refine (hb _).mono ?_; rintro e w' ⟨rfl, rfl⟩) | (with_reducible refine (hl _).mono ?_; rintro e w' ⟨rfl, rfl⟩))
   go_ret
   have hr := HRB.out
   try simp at hr
   subst hr
   exact ⟨by first | rfl | simp, (Below.refl _ _).alloc (Nat.le_refl _) _⟩
 have hk1' : (kind == 1) = false := by simpa using hk1
 rw [if_neg hk1] at HRB
 have he1 := fun W => within_any echo 1 1099511627776 W
 have he2 := fun W => within_any elife 0 1099511627776 W
 generalize inB echo 1 1099511627776 = z1 at *
 generalize inB elife 0 1099511627776 = z2 at *
 cases z1
 ·clear he2 hk1
  as_aux_lemma =>
  go_enter Tryd.func11, Tryd.ntmps11
  go_wp2_with (first | (with_reducible refine (hf _).mono ?_; rintro e w' ⟨rfl, rfl⟩) | (with_reducible refine (ht _).mono ?_; rintro e w' ⟨rfl, rfl⟩) | (with_reducible refine (hb _).mono ?_; rintro e w' ⟨rfl, rfl⟩) | (with_reducible refine (hl _).mono ?_; rintro e w' ⟨rfl, rfl⟩) | (with_reducible refine (he1 _).mono ?_; rintro e w' ⟨rfl, rfl⟩))
  go_ret
  have hr := HRB.out
  try simp at hr
  subst hr
  exact ⟨by first | rfl | simp, (Below.refl _ _).alloc (Nat.le_refl _) _⟩
 cases z2
 ·clear hk1
  as_aux_lemma =>
  go_enter Tryd.func11, Tryd.ntmps11
  go_wp2_with (first | (with_reducible refine (hf _).mono ?_; rintro e w' ⟨rfl, rfl⟩) | (with_reducible refine (ht _).mono ?_; rintro e w' ⟨rfl, rfl⟩) | (with_reducible refine (hb _).mono ?_; rintro e w' ⟨rfl, rfl⟩) | (with_reducible refine (hl _).mono ?_; rintro e w' ⟨rfl, rfl⟩) | (with_reducible refine (he1 _).mono ?_; rintro e w' ⟨rfl, rfl⟩) | (with_reducible refine (he2 _).mono ?_; rintro e w' ⟨rfl, rfl⟩))
  go_ret
  have hr := HRB.out
  try simp at hr
  subst hr
  exact ⟨by first | rfl | simp, (Below.refl _ _).alloc (Nat.le_refl _) _⟩
 by_cases hk3 : kind = 3
 ·subst hk3
  clear hk1 k1 k5 hk1'
  rw [if_pos (.inl rfl)] at HRB
  as_aux_lemma =>
  go_enter Tryd.func11, Tryd.ntmps11
  go_wp2_with (first | (with_reducible refine (hf _).mono ?_; rintro e w' ⟨rfl, rfl⟩) | (with_reducible refine (ht _).mono ?_; rintro e w' ⟨rfl, rfl⟩) | (with_reducible refine (hb _).mono ?_; rintro e w' ⟨rfl, rfl⟩) | (with_reducible refine (hl _).mono ?_; rintro e w' ⟨rfl, rfl⟩) | (with_reducible refine (he1 _).mono ?_; rintro e w' ⟨rfl, rfl⟩) | (with_reducible refine (he2 _).mono ?_; rintro e w' ⟨rfl, rfl⟩))
  clear hf ht hb hl he1 he2
  obtain ⟨g0, kb⟩ := new_block w (.cells #[.int .i64 3, .int .i64 frm, .int .i64 to, .int .i64 boot, .int .i64 life, .int .i64 echo, .int .i64 elife, .slice ao n cap] 24)
  obtain ⟨W0, hW0⟩ : ∃ W0, W0 = w.alloc (.cells #[.int .i64 3, .int .i64 frm, .int .i64 to, .int .i64 boot, .int .i64 life, .int .i64 echo, .int .i64 elife, .slice ao n cap] 24) := ⟨_, rfl⟩
  rw [← hW0] at g0 kb ⊢
  clear hW0
  have HL0 := Lib.hid g0
  have KB1 := Lib.hid kb
  clear g0 kb e5
  skip
  go_loopw [80] (fun i wr => ∃ k : Nat, k ≤ n ∧ i = .int .i64 (k : Int) ∧ Hid (∀ j, j < k → goodAt xs j = true) ∧ Hid (Below W0.heap.size W0 wr)) (fun i _ => n - (intOf i).toNat)
  case atStart => exact ⟨0, Nat.zero_le _, rfl, fun j hj => absurd hj (by omega), Below.refl _ _⟩
  case round =>
   obtain ⟨k, hk, rfl, HG, HB⟩ := hrel
   by_cases hlt : k < n
   ·have hkx : k < xs.length := by have := HN.out; omega
    obtain ⟨b, off, hao, hb, hcc⟩ := (HV.out.below (HL0.out.trans (HB.out.mono HL0.out.size)) (HL0.out.trans (HB.out.mono HL0.out.size)).size).at k hkx
    subst hao
    obtain ⟨x, hx⟩ : ∃ x, x = xs.getD k nilI := ⟨_, rfl⟩
    obtain ⟨y, hy⟩ : ∃ y, y = xs.getD (k - 1) nilI := ⟨_, rfl⟩
    have hrk : wr.rangeAt b (off + k * 19) x.cells := by rw [hx]; exact hcc k _ (getD_some hkx)
    have hc0 : wr.cell? ⟨b, off + k * 19, none⟩ = some (.string ⟨x.name.toArray⟩) := hrk 0 _ rfl
    have hc1 : wr.cell? ⟨b, off + (k - 1) * 19, none⟩ = some (.string ⟨y.name.toArray⟩) := by rw [hy]; exact hcc (k - 1) _ (getD_some (by omega)) 0 _ rfl
    have HNM : Hid (x.name.length ≤ 9223372036854775807) := by show _ ≤ _; rw [hx]; exact HNL.out _ (List.mem_of_getElem? (getD_some hkx))
    have HX := Lib.hid hx
    have HY := Lib.hid hy
    clear hx hy
    clear hcc hkx
    have hki : 0 ≤ (k : Int) ∧ (k : Int) < (n : Int) := by omega
    have c7 := cell_of_row _ _ 7 _ _ _ (stays KB1.out HB.out)
    go_upto_region 12 with (fail)
    refine wp_region_lit ?_
    refine wpList_run (v := .int .i64 (k : Int)) (w' := wr) rfl (by simp [go_sem, Act.eval]) ?_
    refine wpList_run (v := .pointer (some ⟨b, off + k * 19, none⟩)) (w' := wr) rfl (by simp [go_sem, Act.eval, hki]) ?_
    refine wpList_run (w' := wr) rfl (exec_load_mid 38 _ rfl b (off + k * 19) x.cells (.struct (Tryd.prog.fieldsOf 38)) (by kernel_rfl) hrk (by kernel_rfl) rfl (by kernel_rfl)) ?_
    refine wpList_run (v := .pointer (some ⟨wr.heap.size, 0, none⟩)) (w' := wr.alloc (.cells #[.string ⟨#[]⟩, .int .i64 0, .int .i64 0, .bool false, .int .i64 0, .int .i64 0, .int .i64 0, .int .i64 0, .int .i64 0, .bool false, .int .i64 0, .bool false, .int .i64 0, .int .i64 0, .int .i64 0, .bool false, .int .i64 0, .int .i64 0, .int .i64 0] 38)) rfl (by kernel_rfl) ?_
    refine wpList_run (v := .int .i64 (k : Int)) rfl (by simp [go_sem, Act.eval]; rfl) ?_
    refine wpList_store_new rfl rfl 38 _ _ rfl wr #[.string ⟨#[]⟩, .int .i64 0, .int .i64 0, .bool false, .int .i64 0, .int .i64 0, .int .i64 0, .int .i64 0, .int .i64 0, .bool false, .int .i64 0, .bool false, .int .i64 0, .int .i64 0, .int .i64 0, .bool false, .int .i64 0, .int .i64 0, .int .i64 0] x.cells.toArray (by kernel_rfl) (by kernel_rfl) (by kernel_rfl) rfl (by simp [Value.oneCell']) ?_
    refine wpList_nil ?_
    go_simp
    obtain ⟨g5, k5⟩ := new_block wr (.cells x.cells.toArray 38)
    have HBi0 := HB.out.trans (g5.mono HB.out.size)
    have KB0 := stays (stays KB1.out HB.out) g5
    obtain ⟨Wi, hWi⟩ : ∃ Wi, Wi = wr.alloc (.cells x.cells.toArray 38) := ⟨_, rfl⟩
    obtain ⟨Wp, hWp⟩ : ∃ p, p = wr.heap.size := ⟨_, rfl⟩
    have hbW : b < Wi.heap.size := by rw [hWi]; simp; omega
    have hc1 : Wi.cell? ⟨b, off + (k - 1) * 19, none⟩ = some (.string ⟨y.name.toArray⟩) := by rw [hWi]; exact (g5.cell (p := ⟨b, off + (k - 1) * 19, none⟩) hb).trans hc1
    rw [← hWi, ← hWp] at k5
    rw [← hWi] at HBi0 KB0
    have goalW := hWi
    rw [← hWi, ← hWp]
    clear hWi hWp g5 goalW hrk
    have KX := Lib.hid k5
    have HBi := Lib.hid HBi0
    have KB := Lib.hid KB0
    clear k5 HBi0 KB0 HB
    have hki1 : 0 < k → 0 ≤ (k : Int) - 1 ∧ (k : Int) - 1 < (n : Int) := fun _ => by omega
    have htn : 0 < k → ((k : Int) - 1).toNat = k - 1 := fun _ => by omega
    have hsub : 0 < k → IntKind.i64.wrap ((k : Int) - 1) = (k : Int) - 1 := fun _ => IntWalk.i64_in _ (by omega)
    clear hlt hk
    cases hfi : fitI x with
    | false =>
     as_aux_lemma =>
     have HGK : Hid (goodAt xs k = false) := by show _ = _; unfold goodAt; rw [← HX.out, ← HY.out]; rw [hfi]; rfl
     have hcon : ∀ W, Calls Tryd.prog 17 #[.agg x.cells.toArray] W fun e w' => e = .returned (.bool false) ∧ Below W.heap.size W w' := fun W => by
      have := item_any x W HNM.out
      rw [hfi] at this
      exact this
     clear hki1 htn hsub hc1 hfi
     go_upto_region 13 with (fail)
     refine wpIn_wide (n := 5).1 (wpIn_flowM (F0 := Fence.wide) (n0 := 5) (fun _ => trivial) (fun h => by cases h) (by kernel_rfl) (by kernel_rfl) 21 21 (by kernel_rfl) (fun j => ([0, 1, 2, 3, 4, 5, 6, 7, 8, 9, 10, 11, 12, 13, 14, 15, 16, 17, 18, 19, 20] : List Nat).getD j 0) (fun j => ([85, 86, 87, 88, 89, 90, 91, 92, 93, 94, 95, 96, 97, 98, 99, 100, 101, 102, 103, 104, 105] : List Nat).getD j 0) (by kernel_rfl) (by kernel_rfl) (by kernel_rfl) (by kernel_rfl) (by kernel_rfl) (by kernel_rfl) (by kernel_rfl) (fun j zv => ([(fun zv => zv = (.agg x.cells.toArray)), (fun zv => zv = (.bool false)), (fun zv => zv = (.bool true)), (fun zv => zv = (.bool true)), (fun zv => zv = undef), (fun zv => zv = undef), (fun zv => zv = undef), (fun zv => zv = undef), (fun zv => zv = undef), (fun zv => zv = undef), (fun zv => zv = undef), (fun zv => zv = undef), (fun zv => zv = undef), (fun zv => zv = undef), (fun zv => zv = undef), (fun zv => zv = undef), (fun zv => zv = undef), (fun zv => zv = undef), (fun zv => zv = undef), (fun zv => zv = undef), (fun zv => zv = (.bool true))] : List (Value → Prop)).getD j (fun _ => True) zv) (fun _ _ W => Below Wi.heap.size Wi W) ?h0q1 ?stepq1 ?finq1)
     case h0q1 => exact fun _ => bdN Wi.heap.size Wi 1
     case stepq1 =>
      intro i o a W d vs hi ho hdi hJ hf hr hF
      replace hi : i < 21 := hi
      rcases (show i = 0 ∨ i = 1 ∨ i = 2 ∨ i = 3 ∨ i = 4 ∨ i = 5 ∨ i = 6 ∨ i = 7 ∨ i = 8 ∨ i = 9 ∨ i = 10 ∨ i = 11 ∨ i = 12 ∨ i = 13 ∨ i = 14 ∨ i = 15 ∨ i = 16 ∨ i = 17 ∨ i = 18 ∨ i = 19 ∨ i = 20 by omega) with rfl | rfl | rfl | rfl | rfl | rfl | rfl | rfl | rfl | rfl | rfl | rfl | rfl | rfl | rfl | rfl | rfl | rfl | rfl | rfl | rfl
      ·replace ho := op_at ho (by rfl)
       subst ho
       have f4 : a.tmps.getD 4 undef = (.pointer (some ⟨Wp, 0, none⟩)) := hf 4 (by kernel_rfl)
       exact .inl ⟨(fun k b h => by cases h), .inl ⟨0, by decide, rfl, (.agg x.cells.toArray), W, (exec_load_row 38 _ rfl Wp _ _ (.struct (Tryd.prog.fieldsOf 38)) (show a.eval (.tmp 4) = _ from f4) (stays KX.out hJ) (by kernel_rfl) rfl (by kernel_rfl)), rfl, hJ⟩⟩
      ·replace ho := op_at ho (by rfl)
       subst ho
       have d0 : a.tmps.getD 85 undef = (.agg x.cells.toArray) := by have h1 := hF 0 (by decide) (hr 0 (by kernel_rfl)); exact h1.2.trans h1.1
       refine .inl ⟨(fun k b h => by cases h), .inr (.inr ⟨1, by decide, rfl, 17, #[(.agg x.cells.toArray)], W, (by simp [go_sem, Act.eval, d0]), ?_⟩)⟩
       refine (callsIn_wide.2 (hcon W)).mono ?_
       rintro e W' ⟨rfl, hBe⟩
       exact ⟨_, rfl, rfl, hJ.trans (hBe.mono hJ.size)⟩
      ·replace ho := op_at ho (by rfl)
       subst ho
       have d1 : a.tmps.getD 86 undef = (.bool false) := by have h1 := hF 1 (by decide) (hr 1 (by kernel_rfl)); exact h1.2.trans h1.1
       exact .inl ⟨(fun k b h => by cases h), .inl ⟨2, by decide, rfl, (.bool true), W, (by simp [go_sem, Act.eval, d1]), rfl, hJ⟩⟩
      ·replace ho := op_at ho (by rfl)
       subst ho
       have d2 : a.tmps.getD 87 undef = (.bool true) := by have h1 := hF 2 (by decide) (hr 2 (by kernel_rfl)); exact h1.2.trans h1.1
       exact .inl ⟨(fun k b h => by cases h), .inl ⟨3, by decide, rfl, (.bool true), W, (by simp [go_sem, Act.eval, d2]), rfl, hJ⟩⟩
      ·replace ho := op_at ho (by rfl)
       subst ho
       have d3 : a.tmps.getD 88 undef = (.bool true) := by have h1 := hF 3 (by decide) (hr 3 (by kernel_rfl)); exact h1.2.trans h1.1
       exact .inr ⟨3, false, 3, rfl, by decide, rfl, (fun hc => by have hc2 := d3.symm.trans hc; first | (cases hc2; done) | simp [undef] at hc2), .inl ⟨4, by decide, rfl, rfl, hJ⟩⟩
      ·replace ho := op_at ho (by rfl)
       subst ho
       have d3 : a.tmps.getD 88 undef = (.bool true) := by have h1 := hF 3 (by decide) (hr 3 (by kernel_rfl)); exact h1.2.trans h1.1
       exact .inr ⟨3, false, 3, rfl, by decide, rfl, (fun hc => by have hc2 := d3.symm.trans hc; first | (cases hc2; done) | simp [undef] at hc2), .inl ⟨5, by decide, rfl, rfl, hJ⟩⟩
      ·replace ho := op_at ho (by rfl)
       subst ho
       have d3 : a.tmps.getD 88 undef = (.bool true) := by have h1 := hF 3 (by decide) (hr 3 (by kernel_rfl)); exact h1.2.trans h1.1
       exact .inr ⟨3, false, 3, rfl, by decide, rfl, (fun hc => by have hc2 := d3.symm.trans hc; first | (cases hc2; done) | simp [undef] at hc2), .inl ⟨6, by decide, rfl, rfl, hJ⟩⟩
      ·replace ho := op_at ho (by rfl)
       subst ho
       have d6 : a.tmps.getD 91 undef = undef := by have h1 := hF 6 (by decide) (hr 6 (by kernel_rfl)); exact h1.2.trans h1.1
       exact .inr ⟨6, true, 6, rfl, by decide, rfl, (fun hc => by have hc2 := d6.symm.trans hc; first | (cases hc2; done) | simp [undef] at hc2), .inl ⟨7, by decide, rfl, rfl, hJ⟩⟩
      ·replace ho := op_at ho (by rfl)
       subst ho
       have d6 : a.tmps.getD 91 undef = undef := by have h1 := hF 6 (by decide) (hr 6 (by kernel_rfl)); exact h1.2.trans h1.1
       exact .inr ⟨6, true, 6, rfl, by decide, rfl, (fun hc => by have hc2 := d6.symm.trans hc; first | (cases hc2; done) | simp [undef] at hc2), .inl ⟨8, by decide, rfl, rfl, hJ⟩⟩
      ·replace ho := op_at ho (by rfl)
       subst ho
       have d6 : a.tmps.getD 91 undef = undef := by have h1 := hF 6 (by decide) (hr 6 (by kernel_rfl)); exact h1.2.trans h1.1
       exact .inr ⟨6, true, 6, rfl, by decide, rfl, (fun hc => by have hc2 := d6.symm.trans hc; first | (cases hc2; done) | simp [undef] at hc2), .inl ⟨9, by decide, rfl, rfl, hJ⟩⟩
      ·replace ho := op_at ho (by rfl)
       subst ho
       have d6 : a.tmps.getD 91 undef = undef := by have h1 := hF 6 (by decide) (hr 6 (by kernel_rfl)); exact h1.2.trans h1.1
       exact .inr ⟨6, true, 6, rfl, by decide, rfl, (fun hc => by have hc2 := d6.symm.trans hc; first | (cases hc2; done) | simp [undef] at hc2), .inl ⟨10, by decide, rfl, rfl, hJ⟩⟩
      ·replace ho := op_at ho (by rfl)
       subst ho
       have d6 : a.tmps.getD 91 undef = undef := by have h1 := hF 6 (by decide) (hr 6 (by kernel_rfl)); exact h1.2.trans h1.1
       exact .inr ⟨6, true, 6, rfl, by decide, rfl, (fun hc => by have hc2 := d6.symm.trans hc; first | (cases hc2; done) | simp [undef] at hc2), .inl ⟨11, by decide, rfl, rfl, hJ⟩⟩
      ·replace ho := op_at ho (by rfl)
       subst ho
       have d6 : a.tmps.getD 91 undef = undef := by have h1 := hF 6 (by decide) (hr 6 (by kernel_rfl)); exact h1.2.trans h1.1
       exact .inr ⟨6, true, 6, rfl, by decide, rfl, (fun hc => by have hc2 := d6.symm.trans hc; first | (cases hc2; done) | simp [undef] at hc2), .inl ⟨12, by decide, rfl, rfl, hJ⟩⟩
      ·replace ho := op_at ho (by rfl)
       subst ho
       have d6 : a.tmps.getD 91 undef = undef := by have h1 := hF 6 (by decide) (hr 6 (by kernel_rfl)); exact h1.2.trans h1.1
       exact .inr ⟨6, true, 6, rfl, by decide, rfl, (fun hc => by have hc2 := d6.symm.trans hc; first | (cases hc2; done) | simp [undef] at hc2), .inl ⟨13, by decide, rfl, rfl, hJ⟩⟩
      ·replace ho := op_at ho (by rfl)
       subst ho
       have d6 : a.tmps.getD 91 undef = undef := by have h1 := hF 6 (by decide) (hr 6 (by kernel_rfl)); exact h1.2.trans h1.1
       exact .inr ⟨6, true, 6, rfl, by decide, rfl, (fun hc => by have hc2 := d6.symm.trans hc; first | (cases hc2; done) | simp [undef] at hc2), .inl ⟨14, by decide, rfl, rfl, hJ⟩⟩
      ·replace ho := op_at ho (by rfl)
       subst ho
       have d6 : a.tmps.getD 91 undef = undef := by have h1 := hF 6 (by decide) (hr 6 (by kernel_rfl)); exact h1.2.trans h1.1
       exact .inr ⟨6, true, 6, rfl, by decide, rfl, (fun hc => by have hc2 := d6.symm.trans hc; first | (cases hc2; done) | simp [undef] at hc2), .inl ⟨15, by decide, rfl, rfl, hJ⟩⟩
      ·replace ho := op_at ho (by rfl)
       subst ho
       have d6 : a.tmps.getD 91 undef = undef := by have h1 := hF 6 (by decide) (hr 6 (by kernel_rfl)); exact h1.2.trans h1.1
       exact .inr ⟨6, true, 6, rfl, by decide, rfl, (fun hc => by have hc2 := d6.symm.trans hc; first | (cases hc2; done) | simp [undef] at hc2), .inl ⟨16, by decide, rfl, rfl, hJ⟩⟩
      ·replace ho := op_at ho (by rfl)
       subst ho
       have d6 : a.tmps.getD 91 undef = undef := by have h1 := hF 6 (by decide) (hr 6 (by kernel_rfl)); exact h1.2.trans h1.1
       exact .inr ⟨6, true, 6, rfl, by decide, rfl, (fun hc => by have hc2 := d6.symm.trans hc; first | (cases hc2; done) | simp [undef] at hc2), .inl ⟨17, by decide, rfl, rfl, hJ⟩⟩
      ·replace ho := op_at ho (by rfl)
       subst ho
       have d6 : a.tmps.getD 91 undef = undef := by have h1 := hF 6 (by decide) (hr 6 (by kernel_rfl)); exact h1.2.trans h1.1
       exact .inr ⟨6, true, 6, rfl, by decide, rfl, (fun hc => by have hc2 := d6.symm.trans hc; first | (cases hc2; done) | simp [undef] at hc2), .inl ⟨18, by decide, rfl, rfl, hJ⟩⟩
      ·replace ho := op_at ho (by rfl)
       subst ho
       have d3 : a.tmps.getD 88 undef = (.bool true) := by have h1 := hF 3 (by decide) (hr 3 (by kernel_rfl)); exact h1.2.trans h1.1
       exact .inr ⟨3, false, 3, rfl, by decide, rfl, (fun hc => by have hc2 := d3.symm.trans hc; first | (cases hc2; done) | simp [undef] at hc2), .inl ⟨19, by decide, rfl, rfl, hJ⟩⟩
      ·replace ho := op_at ho (by rfl)
       subst ho
       have d3 : a.tmps.getD 88 undef = (.bool true) := by have h1 := hF 3 (by decide) (hr 3 (by kernel_rfl)); exact h1.2.trans h1.1
       exact .inl ⟨(fun k b h => by cases h), .inl ⟨20, by decide, rfl, (.bool true), W, (by simp [go_sem, Act.eval, d3]), rfl, hJ⟩⟩
     case finq1 =>
      intro d vs Wq1 hall hJ hF
      have h0 : vs 0 = (.agg x.cells.toArray) := hF 0 (by decide)
      have h1 : vs 1 = (.bool false) := hF 1 (by decide)
      have h2 : vs 2 = (.bool true) := hF 2 (by decide)
      have h3 : vs 3 = (.bool true) := hF 3 (by decide)
      have h4 : vs 4 = undef := hF 4 (by decide)
      have h5 : vs 5 = undef := hF 5 (by decide)
      have h6 : vs 6 = undef := hF 6 (by decide)
      have h7 : vs 7 = undef := hF 7 (by decide)
      have h8 : vs 8 = undef := hF 8 (by decide)
      have h9 : vs 9 = undef := hF 9 (by decide)
      have h10 : vs 10 = undef := hF 10 (by decide)
      have h11 : vs 11 = undef := hF 11 (by decide)
      have h12 : vs 12 = undef := hF 12 (by decide)
      have h13 : vs 13 = undef := hF 13 (by decide)
      have h14 : vs 14 = undef := hF 14 (by decide)
      have h15 : vs 15 = undef := hF 15 (by decide)
      have h16 : vs 16 = undef := hF 16 (by decide)
      have h17 : vs 17 = undef := hF 17 (by decide)
      have h18 : vs 18 = undef := hF 18 (by decide)
      have h19 : vs 19 = undef := hF 19 (by decide)
      have h20 : vs 20 = (.bool true) := hF 20 (by decide)
      clear hF
      show (_ : Exit → Act → World → Prop) Exit.normal (puts _ vs 21 _) Wq1
      simp only [puts, h0, h1, h2, h3, h4, h5, h6, h7, h8, h9, h10, h11, h12, h13, h14, h15, h16, h17, h18, h19, h20, List.getD_cons_zero, List.getD_cons_succ]
      clear h0 h1 h2 h3 h4 h5 h6 h7 h8 h9 h10 h11 h12 h13 h14 h15 h16 h17 h18 h19 h20
      go_simp
      have hB9 : Below Wi.heap.size Wi Wq1 := hJ
      generalize Wq1 = W9 at *
      clear hJ hall
      have hr := HRB.out
      rw [itemsB_f k (by have := HN.out; omega) HGK.out] at hr
      simp at hr
      subst hr
      have LF := HL0.out.trans ((HBi.out.trans (hB9.mono HBi.out.size)).mono HL0.out.size)
      go_wp2
      go_ret
      exact ⟨rfl, LF⟩
    | true =>
     by_cases hp : 0 < k
     ·replace hki1 := hki1 hp
      replace htn := htn hp
      replace hsub := hsub hp
      have hk1n : Hid (((k : Int) < 1) = False) := by show _ = _; simp; omega
      replace hp := Lib.hid hp
      cases hlt' : ltN y.name x.name with
      | false =>
       as_aux_lemma =>
       have HLT : Hid (Op.bytesLess (⟨y.name.toArray⟩ : ByteArray).toList (⟨x.name.toArray⟩ : ByteArray).toList = false) := hlt'
       have HGK : Hid (goodAt xs k = false) := by show _ = _; unfold goodAt; rw [← HX.out, ← HY.out]; rw [hfi, show (k == 0) = false by have := hp.out; simp; omega, hlt']; rfl
       have hcon : ∀ W, Calls Tryd.prog 17 #[.agg x.cells.toArray] W fun e w' => e = .returned (.bool true) ∧ Below W.heap.size W w' := fun W => by
        have := item_any x W HNM.out
        rw [hfi] at this
        exact this
       clear hlt' hfi
       go_upto_region 13 with (fail)
       refine wpIn_wide (n := 5).1 (wpIn_flowM (F0 := Fence.wide) (n0 := 5) (fun _ => trivial) (fun h => by cases h) (by kernel_rfl) (by kernel_rfl) 21 21 (by kernel_rfl) (fun j => ([0, 1, 2, 3, 4, 5, 6, 7, 8, 9, 10, 11, 12, 13, 14, 15, 16, 17, 18, 19, 20] : List Nat).getD j 0) (fun j => ([85, 86, 87, 88, 89, 90, 91, 92, 93, 94, 95, 96, 97, 98, 99, 100, 101, 102, 103, 104, 105] : List Nat).getD j 0) (by kernel_rfl) (by kernel_rfl) (by kernel_rfl) (by kernel_rfl) (by kernel_rfl) (by kernel_rfl) (by kernel_rfl) (fun j zv => ([(fun zv => zv = (.agg x.cells.toArray)), (fun zv => zv = (.bool true)), (fun zv => zv = (.bool false)), (fun zv => zv = (.bool false)), (fun zv => zv = (.int .i64 (k : Int))), (fun zv => zv = (.bool true)), (fun zv => zv = (.bool true)), (fun zv => zv = (.pointer (some ⟨w.heap.size, 7, none⟩))), (fun zv => zv = (.slice (some ⟨b, off, none⟩) n cap)), (fun zv => zv = (.int .i64 (k : Int))), (fun zv => zv = (.int .i64 ((k : Int) - 1))), (fun zv => zv = (.pointer (some ⟨b, off + (k - 1) * 19, none⟩))), (fun zv => zv = (.pointer (some ⟨b, off + (k - 1) * 19, none⟩))), (fun zv => zv = (.pointer (some ⟨b, off + (k - 1) * 19, none⟩))), (fun zv => zv = (.string ⟨y.name.toArray⟩)), (fun zv => zv = (.pointer (some ⟨Wp, 0, none⟩))), (fun zv => zv = (.pointer (some ⟨Wp, 0, none⟩))), (fun zv => zv = (.string ⟨x.name.toArray⟩)), (fun zv => zv = (.bool (!false))), (fun zv => zv = (.bool true)), (fun zv => zv = (.bool true))] : List (Value → Prop)).getD j (fun _ => True) zv) (fun _ _ W => Below Wi.heap.size Wi W) ?h0q2 ?stepq2 ?finq2)
       case h0q2 => exact fun _ => bdN Wi.heap.size Wi 1
       case stepq2 =>
        intro i o a W d vs hi ho hdi hJ hf hr hF
        replace hi : i < 21 := hi
        rcases (show i = 0 ∨ i = 1 ∨ i = 2 ∨ i = 3 ∨ i = 4 ∨ i = 5 ∨ i = 6 ∨ i = 7 ∨ i = 8 ∨ i = 9 ∨ i = 10 ∨ i = 11 ∨ i = 12 ∨ i = 13 ∨ i = 14 ∨ i = 15 ∨ i = 16 ∨ i = 17 ∨ i = 18 ∨ i = 19 ∨ i = 20 by omega) with rfl | rfl | rfl | rfl | rfl | rfl | rfl | rfl | rfl | rfl | rfl | rfl | rfl | rfl | rfl | rfl | rfl | rfl | rfl | rfl | rfl
        ·replace ho := op_at ho (by rfl)
         subst ho
         have f4 : a.tmps.getD 4 undef = (.pointer (some ⟨Wp, 0, none⟩)) := hf 4 (by kernel_rfl)
         exact .inl ⟨(fun k b h => by cases h), .inl ⟨0, by decide, rfl, (.agg x.cells.toArray), W, (exec_load_row 38 _ rfl Wp _ _ (.struct (Tryd.prog.fieldsOf 38)) (show a.eval (.tmp 4) = _ from f4) (stays KX.out hJ) (by kernel_rfl) rfl (by kernel_rfl)), rfl, hJ⟩⟩
        ·replace ho := op_at ho (by rfl)
         subst ho
         have d0 : a.tmps.getD 85 undef = (.agg x.cells.toArray) := by have h1 := hF 0 (by decide) (hr 0 (by kernel_rfl)); exact h1.2.trans h1.1
         refine .inl ⟨(fun k b h => by cases h), .inr (.inr ⟨1, by decide, rfl, 17, #[(.agg x.cells.toArray)], W, (by simp [go_sem, Act.eval, d0]), ?_⟩)⟩
         refine (callsIn_wide.2 (hcon W)).mono ?_
         rintro e W' ⟨rfl, hBe⟩
         exact ⟨_, rfl, rfl, hJ.trans (hBe.mono hJ.size)⟩
        ·replace ho := op_at ho (by rfl)
         subst ho
         have d1 : a.tmps.getD 86 undef = (.bool true) := by have h1 := hF 1 (by decide) (hr 1 (by kernel_rfl)); exact h1.2.trans h1.1
         exact .inl ⟨(fun k b h => by cases h), .inl ⟨2, by decide, rfl, (.bool false), W, (by simp [go_sem, Act.eval, d1]), rfl, hJ⟩⟩
        ·replace ho := op_at ho (by rfl)
         subst ho
         have d2 : a.tmps.getD 87 undef = (.bool false) := by have h1 := hF 2 (by decide) (hr 2 (by kernel_rfl)); exact h1.2.trans h1.1
         exact .inl ⟨(fun k b h => by cases h), .inl ⟨3, by decide, rfl, (.bool false), W, (by simp [go_sem, Act.eval, d2]), rfl, hJ⟩⟩
        ·replace ho := op_at ho (by rfl)
         subst ho
         have d3 : a.tmps.getD 88 undef = (.bool false) := by have h1 := hF 3 (by decide) (hr 3 (by kernel_rfl)); exact h1.2.trans h1.1
         have f3 : a.tmps.getD 3 undef = (.int .i64 (k : Int)) := hf 3 (by kernel_rfl)
         exact .inl ⟨(fun k b h => by cases h; exact ⟨3, by decide, rfl, d3⟩), .inl ⟨4, by decide, rfl, (.int .i64 (k : Int)), W, (by simp [go_sem, Act.eval, d3, f3]), rfl, hJ⟩⟩
        ·replace ho := op_at ho (by rfl)
         subst ho
         have d4 : a.tmps.getD 89 undef = (.int .i64 (k : Int)) := by have h1 := hF 4 (by decide) (hr 4 (by kernel_rfl)); exact h1.2.trans h1.1
         have d3 : a.tmps.getD 88 undef = (.bool false) := by have h1 := hF 3 (by decide) (hr 3 (by kernel_rfl)); exact h1.2.trans h1.1
         exact .inl ⟨(fun k b h => by cases h; exact ⟨3, by decide, rfl, d3⟩), .inl ⟨5, by decide, rfl, (.bool true), W, (by simp [go_sem, Act.eval, d4, d3, hp.out]), rfl, hJ⟩⟩
        ·replace ho := op_at ho (by rfl)
         subst ho
         have d5 : a.tmps.getD 90 undef = (.bool true) := by have h1 := hF 5 (by decide) (hr 5 (by kernel_rfl)); exact h1.2.trans h1.1
         have d3 : a.tmps.getD 88 undef = (.bool false) := by have h1 := hF 3 (by decide) (hr 3 (by kernel_rfl)); exact h1.2.trans h1.1
         exact .inl ⟨(fun k b h => by cases h; exact ⟨3, by decide, rfl, d3⟩), .inl ⟨6, by decide, rfl, (.bool true), W, (by simp [go_sem, Act.eval, d5, d3]), rfl, hJ⟩⟩
        ·replace ho := op_at ho (by rfl)
         subst ho
         have d6 : a.tmps.getD 91 undef = (.bool true) := by have h1 := hF 6 (by decide) (hr 6 (by kernel_rfl)); exact h1.2.trans h1.1
         have f1 : a.tmps.getD 1 undef = (.pointer (some ⟨w.heap.size, 0, none⟩)) := hf 1 (by kernel_rfl)
         exact .inl ⟨(fun k b h => by cases h; exact ⟨6, by decide, rfl, d6⟩), .inl ⟨7, by decide, rfl, (.pointer (some ⟨w.heap.size, 7, none⟩)), W, (by simp [go_sem, Act.eval, d6, f1]), rfl, hJ⟩⟩
        ·replace ho := op_at ho (by rfl)
         subst ho
         have d7 : a.tmps.getD 92 undef = (.pointer (some ⟨w.heap.size, 7, none⟩)) := by have h1 := hF 7 (by decide) (hr 7 (by kernel_rfl)); exact h1.2.trans h1.1
         have d6 : a.tmps.getD 91 undef = (.bool true) := by have h1 := hF 6 (by decide) (hr 6 (by kernel_rfl)); exact h1.2.trans h1.1
         have c7 := cell_of_row _ _ 7 _ _ _ (stays KB.out hJ)
         exact .inl ⟨(fun k b h => by cases h; exact ⟨6, by decide, rfl, d6⟩), .inl ⟨8, by decide, rfl, (.slice (some ⟨b, off, none⟩) n cap), W, (by simp [go_sem, Act.eval, d7, d6, c7]), rfl, hJ⟩⟩
        ·replace ho := op_at ho (by rfl)
         subst ho
         have d6 : a.tmps.getD 91 undef = (.bool true) := by have h1 := hF 6 (by decide) (hr 6 (by kernel_rfl)); exact h1.2.trans h1.1
         have f3 : a.tmps.getD 3 undef = (.int .i64 (k : Int)) := hf 3 (by kernel_rfl)
         exact .inl ⟨(fun k b h => by cases h; exact ⟨6, by decide, rfl, d6⟩), .inl ⟨9, by decide, rfl, (.int .i64 (k : Int)), W, (by simp [go_sem, Act.eval, d6, f3]), rfl, hJ⟩⟩
        ·replace ho := op_at ho (by rfl)
         subst ho
         have d9 : a.tmps.getD 94 undef = (.int .i64 (k : Int)) := by have h1 := hF 9 (by decide) (hr 9 (by kernel_rfl)); exact h1.2.trans h1.1
         have d6 : a.tmps.getD 91 undef = (.bool true) := by have h1 := hF 6 (by decide) (hr 6 (by kernel_rfl)); exact h1.2.trans h1.1
         exact .inl ⟨(fun k b h => by cases h; exact ⟨6, by decide, rfl, d6⟩), .inl ⟨10, by decide, rfl, (.int .i64 ((k : Int) - 1)), W, (by simp [go_sem, Act.eval, d9, d6, hsub]), rfl, hJ⟩⟩
        ·replace ho := op_at ho (by rfl)
         subst ho
         have d8 : a.tmps.getD 93 undef = (.slice (some ⟨b, off, none⟩) n cap) := by have h1 := hF 8 (by decide) (hr 8 (by kernel_rfl)); exact h1.2.trans h1.1
         have d10 : a.tmps.getD 95 undef = (.int .i64 ((k : Int) - 1)) := by have h1 := hF 10 (by decide) (hr 10 (by kernel_rfl)); exact h1.2.trans h1.1
         have d6 : a.tmps.getD 91 undef = (.bool true) := by have h1 := hF 6 (by decide) (hr 6 (by kernel_rfl)); exact h1.2.trans h1.1
         exact .inl ⟨(fun k b h => by cases h; exact ⟨6, by decide, rfl, d6⟩), .inl ⟨11, by decide, rfl, (.pointer (some ⟨b, off + (k - 1) * 19, none⟩)), W, (by simp [go_sem, Act.eval, d8, d10, d6, hki1, htn, hk1n.out]), rfl, hJ⟩⟩
        ·replace ho := op_at ho (by rfl)
         subst ho
         have d11 : a.tmps.getD 96 undef = (.pointer (some ⟨b, off + (k - 1) * 19, none⟩)) := by have h1 := hF 11 (by decide) (hr 11 (by kernel_rfl)); exact h1.2.trans h1.1
         have d6 : a.tmps.getD 91 undef = (.bool true) := by have h1 := hF 6 (by decide) (hr 6 (by kernel_rfl)); exact h1.2.trans h1.1
         exact .inl ⟨(fun k b h => by cases h; exact ⟨6, by decide, rfl, d6⟩), .inl ⟨12, by decide, rfl, (.pointer (some ⟨b, off + (k - 1) * 19, none⟩)), W, (by simp [go_sem, Act.eval, d11, d6]), rfl, hJ⟩⟩
        ·replace ho := op_at ho (by rfl)
         subst ho
         have d12 : a.tmps.getD 97 undef = (.pointer (some ⟨b, off + (k - 1) * 19, none⟩)) := by have h1 := hF 12 (by decide) (hr 12 (by kernel_rfl)); exact h1.2.trans h1.1
         have d6 : a.tmps.getD 91 undef = (.bool true) := by have h1 := hF 6 (by decide) (hr 6 (by kernel_rfl)); exact h1.2.trans h1.1
         exact .inl ⟨(fun k b h => by cases h; exact ⟨6, by decide, rfl, d6⟩), .inl ⟨13, by decide, rfl, (.pointer (some ⟨b, off + (k - 1) * 19, none⟩)), W, (by simp [go_sem, Act.eval, d12, d6]), rfl, hJ⟩⟩
        ·replace ho := op_at ho (by rfl)
         subst ho
         have d13 : a.tmps.getD 98 undef = (.pointer (some ⟨b, off + (k - 1) * 19, none⟩)) := by have h1 := hF 13 (by decide) (hr 13 (by kernel_rfl)); exact h1.2.trans h1.1
         have d6 : a.tmps.getD 91 undef = (.bool true) := by have h1 := hF 6 (by decide) (hr 6 (by kernel_rfl)); exact h1.2.trans h1.1
         have cn := (hJ.cell (p := ⟨b, off + (k - 1) * 19, none⟩) hbW).trans hc1
         exact .inl ⟨(fun k b h => by cases h; exact ⟨6, by decide, rfl, d6⟩), .inl ⟨14, by decide, rfl, (.string ⟨y.name.toArray⟩), W, (by simp [go_sem, Act.eval, d13, d6, cn]), rfl, hJ⟩⟩
        ·replace ho := op_at ho (by rfl)
         subst ho
         have d6 : a.tmps.getD 91 undef = (.bool true) := by have h1 := hF 6 (by decide) (hr 6 (by kernel_rfl)); exact h1.2.trans h1.1
         have f4 : a.tmps.getD 4 undef = (.pointer (some ⟨Wp, 0, none⟩)) := hf 4 (by kernel_rfl)
         exact .inl ⟨(fun k b h => by cases h; exact ⟨6, by decide, rfl, d6⟩), .inl ⟨15, by decide, rfl, (.pointer (some ⟨Wp, 0, none⟩)), W, (by simp [go_sem, Act.eval, d6, f4]), rfl, hJ⟩⟩
        ·replace ho := op_at ho (by rfl)
         subst ho
         have d15 : a.tmps.getD 100 undef = (.pointer (some ⟨Wp, 0, none⟩)) := by have h1 := hF 15 (by decide) (hr 15 (by kernel_rfl)); exact h1.2.trans h1.1
         have d6 : a.tmps.getD 91 undef = (.bool true) := by have h1 := hF 6 (by decide) (hr 6 (by kernel_rfl)); exact h1.2.trans h1.1
         exact .inl ⟨(fun k b h => by cases h; exact ⟨6, by decide, rfl, d6⟩), .inl ⟨16, by decide, rfl, (.pointer (some ⟨Wp, 0, none⟩)), W, (by simp [go_sem, Act.eval, d15, d6]), rfl, hJ⟩⟩
        ·replace ho := op_at ho (by rfl)
         subst ho
         have d16 : a.tmps.getD 101 undef = (.pointer (some ⟨Wp, 0, none⟩)) := by have h1 := hF 16 (by decide) (hr 16 (by kernel_rfl)); exact h1.2.trans h1.1
         have d6 : a.tmps.getD 91 undef = (.bool true) := by have h1 := hF 6 (by decide) (hr 6 (by kernel_rfl)); exact h1.2.trans h1.1
         have cn := cell_of_row _ _ 0 _ _ _ (stays KX.out hJ)
         exact .inl ⟨(fun k b h => by cases h; exact ⟨6, by decide, rfl, d6⟩), .inl ⟨17, by decide, rfl, (.string ⟨x.name.toArray⟩), W, (by simp [go_sem, Act.eval, d16, d6, cn]), rfl, hJ⟩⟩
        ·replace ho := op_at ho (by rfl)
         subst ho
         have d14 : a.tmps.getD 99 undef = (.string ⟨y.name.toArray⟩) := by have h1 := hF 14 (by decide) (hr 14 (by kernel_rfl)); exact h1.2.trans h1.1
         have d17 : a.tmps.getD 102 undef = (.string ⟨x.name.toArray⟩) := by have h1 := hF 17 (by decide) (hr 17 (by kernel_rfl)); exact h1.2.trans h1.1
         have d6 : a.tmps.getD 91 undef = (.bool true) := by have h1 := hF 6 (by decide) (hr 6 (by kernel_rfl)); exact h1.2.trans h1.1
         exact .inl ⟨(fun k b h => by cases h; exact ⟨6, by decide, rfl, d6⟩), .inl ⟨18, by decide, rfl, (.bool (!false)), W, (exec_geq_str _ _ _ _ rfl _ _ (show a.eval (.tmp 99) = _ from d14) (show a.eval (.tmp 102) = _ from d17) _ HLT.out), rfl, hJ⟩⟩
        ·replace ho := op_at ho (by rfl)
         subst ho
         have d6 : a.tmps.getD 91 undef = (.bool true) := by have h1 := hF 6 (by decide) (hr 6 (by kernel_rfl)); exact h1.2.trans h1.1
         have d18 : a.tmps.getD 103 undef = (.bool (!false)) := by have h1 := hF 18 (by decide) (hr 18 (by kernel_rfl)); exact h1.2.trans h1.1
         have d3 : a.tmps.getD 88 undef = (.bool false) := by have h1 := hF 3 (by decide) (hr 3 (by kernel_rfl)); exact h1.2.trans h1.1
         exact .inl ⟨(fun k b h => by cases h; exact ⟨3, by decide, rfl, d3⟩), .inl ⟨19, by decide, rfl, (.bool true), W, (by simp [go_sem, Act.eval, d6, d18, d3]), rfl, hJ⟩⟩
        ·replace ho := op_at ho (by rfl)
         subst ho
         have d3 : a.tmps.getD 88 undef = (.bool false) := by have h1 := hF 3 (by decide) (hr 3 (by kernel_rfl)); exact h1.2.trans h1.1
         have d19 : a.tmps.getD 104 undef = (.bool true) := by have h1 := hF 19 (by decide) (hr 19 (by kernel_rfl)); exact h1.2.trans h1.1
         exact .inl ⟨(fun k b h => by cases h), .inl ⟨20, by decide, rfl, (.bool true), W, (by simp [go_sem, Act.eval, d3, d19]), rfl, hJ⟩⟩
       case finq2 =>
        intro d vs Wq2 hall hJ hF
        have h0 : vs 0 = (.agg x.cells.toArray) := hF 0 (by decide)
        have h1 : vs 1 = (.bool true) := hF 1 (by decide)
        have h2 : vs 2 = (.bool false) := hF 2 (by decide)
        have h3 : vs 3 = (.bool false) := hF 3 (by decide)
        have h4 : vs 4 = (.int .i64 (k : Int)) := hF 4 (by decide)
        have h5 : vs 5 = (.bool true) := hF 5 (by decide)
        have h6 : vs 6 = (.bool true) := hF 6 (by decide)
        have h7 : vs 7 = (.pointer (some ⟨w.heap.size, 7, none⟩)) := hF 7 (by decide)
        have h8 : vs 8 = (.slice (some ⟨b, off, none⟩) n cap) := hF 8 (by decide)
        have h9 : vs 9 = (.int .i64 (k : Int)) := hF 9 (by decide)
        have h10 : vs 10 = (.int .i64 ((k : Int) - 1)) := hF 10 (by decide)
        have h11 : vs 11 = (.pointer (some ⟨b, off + (k - 1) * 19, none⟩)) := hF 11 (by decide)
        have h12 : vs 12 = (.pointer (some ⟨b, off + (k - 1) * 19, none⟩)) := hF 12 (by decide)
        have h13 : vs 13 = (.pointer (some ⟨b, off + (k - 1) * 19, none⟩)) := hF 13 (by decide)
        have h14 : vs 14 = (.string ⟨y.name.toArray⟩) := hF 14 (by decide)
        have h15 : vs 15 = (.pointer (some ⟨Wp, 0, none⟩)) := hF 15 (by decide)
        have h16 : vs 16 = (.pointer (some ⟨Wp, 0, none⟩)) := hF 16 (by decide)
        have h17 : vs 17 = (.string ⟨x.name.toArray⟩) := hF 17 (by decide)
        have h18 : vs 18 = (.bool (!false)) := hF 18 (by decide)
        have h19 : vs 19 = (.bool true) := hF 19 (by decide)
        have h20 : vs 20 = (.bool true) := hF 20 (by decide)
        clear hF
        show (_ : Exit → Act → World → Prop) Exit.normal (puts _ vs 21 _) Wq2
        simp only [puts, h0, h1, h2, h3, h4, h5, h6, h7, h8, h9, h10, h11, h12, h13, h14, h15, h16, h17, h18, h19, h20, List.getD_cons_zero, List.getD_cons_succ]
        clear h0 h1 h2 h3 h4 h5 h6 h7 h8 h9 h10 h11 h12 h13 h14 h15 h16 h17 h18 h19 h20
        go_simp
        have hB9 : Below Wi.heap.size Wi Wq2 := hJ
        generalize Wq2 = W9 at *
        clear hJ hall
        have hr := HRB.out
        rw [itemsB_f k (by have := HN.out; omega) HGK.out] at hr
        simp at hr
        subst hr
        have LF := HL0.out.trans ((HBi.out.trans (hB9.mono HBi.out.size)).mono HL0.out.size)
        go_wp2
        go_ret
        exact ⟨rfl, LF⟩
      | true =>
       as_aux_lemma =>
       have HLT : Hid (Op.bytesLess (⟨y.name.toArray⟩ : ByteArray).toList (⟨x.name.toArray⟩ : ByteArray).toList = true) := hlt'
       have HGK : Hid (goodAt xs k = true) := by show _ = _; unfold goodAt; rw [← HX.out, ← HY.out]; rw [hfi, show (k == 0) = false by have := hp.out; simp; omega, hlt']; rfl
       have hcon : ∀ W, Calls Tryd.prog 17 #[.agg x.cells.toArray] W fun e w' => e = .returned (.bool true) ∧ Below W.heap.size W w' := fun W => by
        have := item_any x W HNM.out
        rw [hfi] at this
        exact this
       clear hlt' hfi
       go_upto_region 13 with (fail)
       refine wpIn_wide (n := 5).1 (wpIn_flowM (F0 := Fence.wide) (n0 := 5) (fun _ => trivial) (fun h => by cases h) (by kernel_rfl) (by kernel_rfl) 21 21 (by kernel_rfl) (fun j => ([0, 1, 2, 3, 4, 5, 6, 7, 8, 9, 10, 11, 12, 13, 14, 15, 16, 17, 18, 19, 20] : List Nat).getD j 0) (fun j => ([85, 86, 87, 88, 89, 90, 91, 92, 93, 94, 95, 96, 97, 98, 99, 100, 101, 102, 103, 104, 105] : List Nat).getD j 0) (by kernel_rfl) (by kernel_rfl) (by kernel_rfl) (by kernel_rfl) (by kernel_rfl) (by kernel_rfl) (by kernel_rfl) (fun j zv => ([(fun zv => zv = (.agg x.cells.toArray)), (fun zv => zv = (.bool true)), (fun zv => zv = (.bool false)), (fun zv => zv = (.bool false)), (fun zv => zv = (.int .i64 (k : Int))), (fun zv => zv = (.bool true)), (fun zv => zv = (.bool true)), (fun zv => zv = (.pointer (some ⟨w.heap.size, 7, none⟩))), (fun zv => zv = (.slice (some ⟨b, off, none⟩) n cap)), (fun zv => zv = (.int .i64 (k : Int))), (fun zv => zv = (.int .i64 ((k : Int) - 1))), (fun zv => zv = (.pointer (some ⟨b, off + (k - 1) * 19, none⟩))), (fun zv => zv = (.pointer (some ⟨b, off + (k - 1) * 19, none⟩))), (fun zv => zv = (.pointer (some ⟨b, off + (k - 1) * 19, none⟩))), (fun zv => zv = (.string ⟨y.name.toArray⟩)), (fun zv => zv = (.pointer (some ⟨Wp, 0, none⟩))), (fun zv => zv = (.pointer (some ⟨Wp, 0, none⟩))), (fun zv => zv = (.string ⟨x.name.toArray⟩)), (fun zv => zv = (.bool (!true))), (fun zv => zv = (.bool false)), (fun zv => zv = (.bool false))] : List (Value → Prop)).getD j (fun _ => True) zv) (fun _ _ W => Below Wi.heap.size Wi W) ?h0q3 ?stepq3 ?finq3)
       case h0q3 => exact fun _ => bdN Wi.heap.size Wi 1
       case stepq3 =>
        intro i o a W d vs hi ho hdi hJ hf hr hF
        replace hi : i < 21 := hi
        rcases (show i = 0 ∨ i = 1 ∨ i = 2 ∨ i = 3 ∨ i = 4 ∨ i = 5 ∨ i = 6 ∨ i = 7 ∨ i = 8 ∨ i = 9 ∨ i = 10 ∨ i = 11 ∨ i = 12 ∨ i = 13 ∨ i = 14 ∨ i = 15 ∨ i = 16 ∨ i = 17 ∨ i = 18 ∨ i = 19 ∨ i = 20 by omega) with rfl | rfl | rfl | rfl | rfl | rfl | rfl | rfl | rfl | rfl | rfl | rfl | rfl | rfl | rfl | rfl | rfl | rfl | rfl | rfl | rfl
        ·replace ho := op_at ho (by rfl)
         subst ho
         have f4 : a.tmps.getD 4 undef = (.pointer (some ⟨Wp, 0, none⟩)) := hf 4 (by kernel_rfl)
         exact .inl ⟨(fun k b h => by cases h), .inl ⟨0, by decide, rfl, (.agg x.cells.toArray), W, (exec_load_row 38 _ rfl Wp _ _ (.struct (Tryd.prog.fieldsOf 38)) (show a.eval (.tmp 4) = _ from f4) (stays KX.out hJ) (by kernel_rfl) rfl (by kernel_rfl)), rfl, hJ⟩⟩
        ·replace ho := op_at ho (by rfl)
         subst ho
         have d0 : a.tmps.getD 85 undef = (.agg x.cells.toArray) := by have h1 := hF 0 (by decide) (hr 0 (by kernel_rfl)); exact h1.2.trans h1.1
         refine .inl ⟨(fun k b h => by cases h), .inr (.inr ⟨1, by decide, rfl, 17, #[(.agg x.cells.toArray)], W, (by simp [go_sem, Act.eval, d0]), ?_⟩)⟩
         refine (callsIn_wide.2 (hcon W)).mono ?_
         rintro e W' ⟨rfl, hBe⟩
         exact ⟨_, rfl, rfl, hJ.trans (hBe.mono hJ.size)⟩
        ·replace ho := op_at ho (by rfl)
         subst ho
         have d1 : a.tmps.getD 86 undef = (.bool true) := by have h1 := hF 1 (by decide) (hr 1 (by kernel_rfl)); exact h1.2.trans h1.1
         exact .inl ⟨(fun k b h => by cases h), .inl ⟨2, by decide, rfl, (.bool false), W, (by simp [go_sem, Act.eval, d1]), rfl, hJ⟩⟩
        ·replace ho := op_at ho (by rfl)
         subst ho
         have d2 : a.tmps.getD 87 undef = (.bool false) := by have h1 := hF 2 (by decide) (hr 2 (by kernel_rfl)); exact h1.2.trans h1.1
         exact .inl ⟨(fun k b h => by cases h), .inl ⟨3, by decide, rfl, (.bool false), W, (by simp [go_sem, Act.eval, d2]), rfl, hJ⟩⟩
        ·replace ho := op_at ho (by rfl)
         subst ho
         have d3 : a.tmps.getD 88 undef = (.bool false) := by have h1 := hF 3 (by decide) (hr 3 (by kernel_rfl)); exact h1.2.trans h1.1
         have f3 : a.tmps.getD 3 undef = (.int .i64 (k : Int)) := hf 3 (by kernel_rfl)
         exact .inl ⟨(fun k b h => by cases h; exact ⟨3, by decide, rfl, d3⟩), .inl ⟨4, by decide, rfl, (.int .i64 (k : Int)), W, (by simp [go_sem, Act.eval, d3, f3]), rfl, hJ⟩⟩
        ·replace ho := op_at ho (by rfl)
         subst ho
         have d4 : a.tmps.getD 89 undef = (.int .i64 (k : Int)) := by have h1 := hF 4 (by decide) (hr 4 (by kernel_rfl)); exact h1.2.trans h1.1
         have d3 : a.tmps.getD 88 undef = (.bool false) := by have h1 := hF 3 (by decide) (hr 3 (by kernel_rfl)); exact h1.2.trans h1.1
         exact .inl ⟨(fun k b h => by cases h; exact ⟨3, by decide, rfl, d3⟩), .inl ⟨5, by decide, rfl, (.bool true), W, (by simp [go_sem, Act.eval, d4, d3, hp.out]), rfl, hJ⟩⟩
        ·replace ho := op_at ho (by rfl)
         subst ho
         have d5 : a.tmps.getD 90 undef = (.bool true) := by have h1 := hF 5 (by decide) (hr 5 (by kernel_rfl)); exact h1.2.trans h1.1
         have d3 : a.tmps.getD 88 undef = (.bool false) := by have h1 := hF 3 (by decide) (hr 3 (by kernel_rfl)); exact h1.2.trans h1.1
         exact .inl ⟨(fun k b h => by cases h; exact ⟨3, by decide, rfl, d3⟩), .inl ⟨6, by decide, rfl, (.bool true), W, (by simp [go_sem, Act.eval, d5, d3]), rfl, hJ⟩⟩
        ·replace ho := op_at ho (by rfl)
         subst ho
         have d6 : a.tmps.getD 91 undef = (.bool true) := by have h1 := hF 6 (by decide) (hr 6 (by kernel_rfl)); exact h1.2.trans h1.1
         have f1 : a.tmps.getD 1 undef = (.pointer (some ⟨w.heap.size, 0, none⟩)) := hf 1 (by kernel_rfl)
         exact .inl ⟨(fun k b h => by cases h; exact ⟨6, by decide, rfl, d6⟩), .inl ⟨7, by decide, rfl, (.pointer (some ⟨w.heap.size, 7, none⟩)), W, (by simp [go_sem, Act.eval, d6, f1]), rfl, hJ⟩⟩
        ·replace ho := op_at ho (by rfl)
         subst ho
         have d7 : a.tmps.getD 92 undef = (.pointer (some ⟨w.heap.size, 7, none⟩)) := by have h1 := hF 7 (by decide) (hr 7 (by kernel_rfl)); exact h1.2.trans h1.1
         have d6 : a.tmps.getD 91 undef = (.bool true) := by have h1 := hF 6 (by decide) (hr 6 (by kernel_rfl)); exact h1.2.trans h1.1
         have c7 := cell_of_row _ _ 7 _ _ _ (stays KB.out hJ)
         exact .inl ⟨(fun k b h => by cases h; exact ⟨6, by decide, rfl, d6⟩), .inl ⟨8, by decide, rfl, (.slice (some ⟨b, off, none⟩) n cap), W, (by simp [go_sem, Act.eval, d7, d6, c7]), rfl, hJ⟩⟩
        ·replace ho := op_at ho (by rfl)
         subst ho
         have d6 : a.tmps.getD 91 undef = (.bool true) := by have h1 := hF 6 (by decide) (hr 6 (by kernel_rfl)); exact h1.2.trans h1.1
         have f3 : a.tmps.getD 3 undef = (.int .i64 (k : Int)) := hf 3 (by kernel_rfl)
         exact .inl ⟨(fun k b h => by cases h; exact ⟨6, by decide, rfl, d6⟩), .inl ⟨9, by decide, rfl, (.int .i64 (k : Int)), W, (by simp [go_sem, Act.eval, d6, f3]), rfl, hJ⟩⟩
        ·replace ho := op_at ho (by rfl)
         subst ho
         have d9 : a.tmps.getD 94 undef = (.int .i64 (k : Int)) := by have h1 := hF 9 (by decide) (hr 9 (by kernel_rfl)); exact h1.2.trans h1.1
         have d6 : a.tmps.getD 91 undef = (.bool true) := by have h1 := hF 6 (by decide) (hr 6 (by kernel_rfl)); exact h1.2.trans h1.1
         exact .inl ⟨(fun k b h => by cases h; exact ⟨6, by decide, rfl, d6⟩), .inl ⟨10, by decide, rfl, (.int .i64 ((k : Int) - 1)), W, (by simp [go_sem, Act.eval, d9, d6, hsub]), rfl, hJ⟩⟩
        ·replace ho := op_at ho (by rfl)
         subst ho
         have d8 : a.tmps.getD 93 undef = (.slice (some ⟨b, off, none⟩) n cap) := by have h1 := hF 8 (by decide) (hr 8 (by kernel_rfl)); exact h1.2.trans h1.1
         have d10 : a.tmps.getD 95 undef = (.int .i64 ((k : Int) - 1)) := by have h1 := hF 10 (by decide) (hr 10 (by kernel_rfl)); exact h1.2.trans h1.1
         have d6 : a.tmps.getD 91 undef = (.bool true) := by have h1 := hF 6 (by decide) (hr 6 (by kernel_rfl)); exact h1.2.trans h1.1
         exact .inl ⟨(fun k b h => by cases h; exact ⟨6, by decide, rfl, d6⟩), .inl ⟨11, by decide, rfl, (.pointer (some ⟨b, off + (k - 1) * 19, none⟩)), W, (by simp [go_sem, Act.eval, d8, d10, d6, hki1, htn, hk1n.out]), rfl, hJ⟩⟩
        ·replace ho := op_at ho (by rfl)
         subst ho
         have d11 : a.tmps.getD 96 undef = (.pointer (some ⟨b, off + (k - 1) * 19, none⟩)) := by have h1 := hF 11 (by decide) (hr 11 (by kernel_rfl)); exact h1.2.trans h1.1
         have d6 : a.tmps.getD 91 undef = (.bool true) := by have h1 := hF 6 (by decide) (hr 6 (by kernel_rfl)); exact h1.2.trans h1.1
         exact .inl ⟨(fun k b h => by cases h; exact ⟨6, by decide, rfl, d6⟩), .inl ⟨12, by decide, rfl, (.pointer (some ⟨b, off + (k - 1) * 19, none⟩)), W, (by simp [go_sem, Act.eval, d11, d6]), rfl, hJ⟩⟩
        ·replace ho := op_at ho (by rfl)
         subst ho
         have d12 : a.tmps.getD 97 undef = (.pointer (some ⟨b, off + (k - 1) * 19, none⟩)) := by have h1 := hF 12 (by decide) (hr 12 (by kernel_rfl)); exact h1.2.trans h1.1
         have d6 : a.tmps.getD 91 undef = (.bool true) := by have h1 := hF 6 (by decide) (hr 6 (by kernel_rfl)); exact h1.2.trans h1.1
         exact .inl ⟨(fun k b h => by cases h; exact ⟨6, by decide, rfl, d6⟩), .inl ⟨13, by decide, rfl, (.pointer (some ⟨b, off + (k - 1) * 19, none⟩)), W, (by simp [go_sem, Act.eval, d12, d6]), rfl, hJ⟩⟩
        ·replace ho := op_at ho (by rfl)
         subst ho
         have d13 : a.tmps.getD 98 undef = (.pointer (some ⟨b, off + (k - 1) * 19, none⟩)) := by have h1 := hF 13 (by decide) (hr 13 (by kernel_rfl)); exact h1.2.trans h1.1
         have d6 : a.tmps.getD 91 undef = (.bool true) := by have h1 := hF 6 (by decide) (hr 6 (by kernel_rfl)); exact h1.2.trans h1.1
         have cn := (hJ.cell (p := ⟨b, off + (k - 1) * 19, none⟩) hbW).trans hc1
         exact .inl ⟨(fun k b h => by cases h; exact ⟨6, by decide, rfl, d6⟩), .inl ⟨14, by decide, rfl, (.string ⟨y.name.toArray⟩), W, (by simp [go_sem, Act.eval, d13, d6, cn]), rfl, hJ⟩⟩
        ·replace ho := op_at ho (by rfl)
         subst ho
         have d6 : a.tmps.getD 91 undef = (.bool true) := by have h1 := hF 6 (by decide) (hr 6 (by kernel_rfl)); exact h1.2.trans h1.1
         have f4 : a.tmps.getD 4 undef = (.pointer (some ⟨Wp, 0, none⟩)) := hf 4 (by kernel_rfl)
         exact .inl ⟨(fun k b h => by cases h; exact ⟨6, by decide, rfl, d6⟩), .inl ⟨15, by decide, rfl, (.pointer (some ⟨Wp, 0, none⟩)), W, (by simp [go_sem, Act.eval, d6, f4]), rfl, hJ⟩⟩
        ·replace ho := op_at ho (by rfl)
         subst ho
         have d15 : a.tmps.getD 100 undef = (.pointer (some ⟨Wp, 0, none⟩)) := by have h1 := hF 15 (by decide) (hr 15 (by kernel_rfl)); exact h1.2.trans h1.1
         have d6 : a.tmps.getD 91 undef = (.bool true) := by have h1 := hF 6 (by decide) (hr 6 (by kernel_rfl)); exact h1.2.trans h1.1
         exact .inl ⟨(fun k b h => by cases h; exact ⟨6, by decide, rfl, d6⟩), .inl ⟨16, by decide, rfl, (.pointer (some ⟨Wp, 0, none⟩)), W, (by simp [go_sem, Act.eval, d15, d6]), rfl, hJ⟩⟩
        ·replace ho := op_at ho (by rfl)
         subst ho
         have d16 : a.tmps.getD 101 undef = (.pointer (some ⟨Wp, 0, none⟩)) := by have h1 := hF 16 (by decide) (hr 16 (by kernel_rfl)); exact h1.2.trans h1.1
         have d6 : a.tmps.getD 91 undef = (.bool true) := by have h1 := hF 6 (by decide) (hr 6 (by kernel_rfl)); exact h1.2.trans h1.1
         have cn := cell_of_row _ _ 0 _ _ _ (stays KX.out hJ)
         exact .inl ⟨(fun k b h => by cases h; exact ⟨6, by decide, rfl, d6⟩), .inl ⟨17, by decide, rfl, (.string ⟨x.name.toArray⟩), W, (by simp [go_sem, Act.eval, d16, d6, cn]), rfl, hJ⟩⟩
        ·replace ho := op_at ho (by rfl)
         subst ho
         have d14 : a.tmps.getD 99 undef = (.string ⟨y.name.toArray⟩) := by have h1 := hF 14 (by decide) (hr 14 (by kernel_rfl)); exact h1.2.trans h1.1
         have d17 : a.tmps.getD 102 undef = (.string ⟨x.name.toArray⟩) := by have h1 := hF 17 (by decide) (hr 17 (by kernel_rfl)); exact h1.2.trans h1.1
         have d6 : a.tmps.getD 91 undef = (.bool true) := by have h1 := hF 6 (by decide) (hr 6 (by kernel_rfl)); exact h1.2.trans h1.1
         exact .inl ⟨(fun k b h => by cases h; exact ⟨6, by decide, rfl, d6⟩), .inl ⟨18, by decide, rfl, (.bool (!true)), W, (exec_geq_str _ _ _ _ rfl _ _ (show a.eval (.tmp 99) = _ from d14) (show a.eval (.tmp 102) = _ from d17) _ HLT.out), rfl, hJ⟩⟩
        ·replace ho := op_at ho (by rfl)
         subst ho
         have d6 : a.tmps.getD 91 undef = (.bool true) := by have h1 := hF 6 (by decide) (hr 6 (by kernel_rfl)); exact h1.2.trans h1.1
         have d18 : a.tmps.getD 103 undef = (.bool (!true)) := by have h1 := hF 18 (by decide) (hr 18 (by kernel_rfl)); exact h1.2.trans h1.1
         have d3 : a.tmps.getD 88 undef = (.bool false) := by have h1 := hF 3 (by decide) (hr 3 (by kernel_rfl)); exact h1.2.trans h1.1
         exact .inl ⟨(fun k b h => by cases h; exact ⟨3, by decide, rfl, d3⟩), .inl ⟨19, by decide, rfl, (.bool false), W, (by simp [go_sem, Act.eval, d6, d18, d3]), rfl, hJ⟩⟩
        ·replace ho := op_at ho (by rfl)
         subst ho
         have d3 : a.tmps.getD 88 undef = (.bool false) := by have h1 := hF 3 (by decide) (hr 3 (by kernel_rfl)); exact h1.2.trans h1.1
         have d19 : a.tmps.getD 104 undef = (.bool false) := by have h1 := hF 19 (by decide) (hr 19 (by kernel_rfl)); exact h1.2.trans h1.1
         exact .inl ⟨(fun k b h => by cases h), .inl ⟨20, by decide, rfl, (.bool false), W, (by simp [go_sem, Act.eval, d3, d19]), rfl, hJ⟩⟩
       case finq3 =>
        intro d vs Wq3 hall hJ hF
        have h0 : vs 0 = (.agg x.cells.toArray) := hF 0 (by decide)
        have h1 : vs 1 = (.bool true) := hF 1 (by decide)
        have h2 : vs 2 = (.bool false) := hF 2 (by decide)
        have h3 : vs 3 = (.bool false) := hF 3 (by decide)
        have h4 : vs 4 = (.int .i64 (k : Int)) := hF 4 (by decide)
        have h5 : vs 5 = (.bool true) := hF 5 (by decide)
        have h6 : vs 6 = (.bool true) := hF 6 (by decide)
        have h7 : vs 7 = (.pointer (some ⟨w.heap.size, 7, none⟩)) := hF 7 (by decide)
        have h8 : vs 8 = (.slice (some ⟨b, off, none⟩) n cap) := hF 8 (by decide)
        have h9 : vs 9 = (.int .i64 (k : Int)) := hF 9 (by decide)
        have h10 : vs 10 = (.int .i64 ((k : Int) - 1)) := hF 10 (by decide)
        have h11 : vs 11 = (.pointer (some ⟨b, off + (k - 1) * 19, none⟩)) := hF 11 (by decide)
        have h12 : vs 12 = (.pointer (some ⟨b, off + (k - 1) * 19, none⟩)) := hF 12 (by decide)
        have h13 : vs 13 = (.pointer (some ⟨b, off + (k - 1) * 19, none⟩)) := hF 13 (by decide)
        have h14 : vs 14 = (.string ⟨y.name.toArray⟩) := hF 14 (by decide)
        have h15 : vs 15 = (.pointer (some ⟨Wp, 0, none⟩)) := hF 15 (by decide)
        have h16 : vs 16 = (.pointer (some ⟨Wp, 0, none⟩)) := hF 16 (by decide)
        have h17 : vs 17 = (.string ⟨x.name.toArray⟩) := hF 17 (by decide)
        have h18 : vs 18 = (.bool (!true)) := hF 18 (by decide)
        have h19 : vs 19 = (.bool false) := hF 19 (by decide)
        have h20 : vs 20 = (.bool false) := hF 20 (by decide)
        clear hF
        show (_ : Exit → Act → World → Prop) Exit.normal (puts _ vs 21 _) Wq3
        simp only [puts, h0, h1, h2, h3, h4, h5, h6, h7, h8, h9, h10, h11, h12, h13, h14, h15, h16, h17, h18, h19, h20, List.getD_cons_zero, List.getD_cons_succ]
        clear h0 h1 h2 h3 h4 h5 h6 h7 h8 h9 h10 h11 h12 h13 h14 h15 h16 h17 h18 h19 h20
        go_simp
        have hB9 : Below Wi.heap.size Wi Wq3 := hJ
        generalize Wq3 = W9 at *
        clear hJ hall
        have HG2 : Hid (∀ j, j < k + 1 → goodAt xs j = true) := fun j hj => by
         rcases Nat.lt_or_ge j k with h | h
         ·exact HG.out j h
         ·obtain rfl : j = k := by omega
          exact HGK.out
        have HB9 : Hid (Below W0.heap.size W0 W9) := HBi.out.trans (hB9.mono HBi.out.size)
        clear hB9 HG
        go_wp2
        go_roundw
        case rel => exact ⟨k + 1, by omega, by go_num, HG2, HB9⟩
        case measure => simp [intOf]; omega
     ·as_aux_lemma =>
      have hk0 : Hid (k = 0) := by show _ = _; omega
      clear hp
      have HGK : Hid (goodAt xs k = true) := by show _ = _; unfold goodAt; rw [← HX.out, ← HY.out]; rw [hfi, show (k == 0) = true by have := hk0.out; simp; omega]; rfl
      have hcon : ∀ W, Calls Tryd.prog 17 #[.agg x.cells.toArray] W fun e w' => e = .returned (.bool true) ∧ Below W.heap.size W w' := fun W => by
       have := item_any x W HNM.out
       rw [hfi] at this
       exact this
      clear hki1 htn hsub hc1 hfi
      go_upto_region 13 with (fail)
      refine wpIn_wide (n := 5).1 (wpIn_flowM (F0 := Fence.wide) (n0 := 5) (fun _ => trivial) (fun h => by cases h) (by kernel_rfl) (by kernel_rfl) 21 21 (by kernel_rfl) (fun j => ([0, 1, 2, 3, 4, 5, 6, 7, 8, 9, 10, 11, 12, 13, 14, 15, 16, 17, 18, 19, 20] : List Nat).getD j 0) (fun j => ([85, 86, 87, 88, 89, 90, 91, 92, 93, 94, 95, 96, 97, 98, 99, 100, 101, 102, 103, 104, 105] : List Nat).getD j 0) (by kernel_rfl) (by kernel_rfl) (by kernel_rfl) (by kernel_rfl) (by kernel_rfl) (by kernel_rfl) (by kernel_rfl) (fun j zv => ([(fun zv => zv = (.agg x.cells.toArray)), (fun zv => zv = (.bool true)), (fun zv => zv = (.bool false)), (fun zv => zv = (.bool false)), (fun zv => zv = (.int .i64 (k : Int))), (fun zv => zv = (.bool false)), (fun zv => zv = (.bool false)), (fun zv => zv = undef), (fun zv => zv = undef), (fun zv => zv = undef), (fun zv => zv = undef), (fun zv => zv = undef), (fun zv => zv = undef), (fun zv => zv = undef), (fun zv => zv = undef), (fun zv => zv = undef), (fun zv => zv = undef), (fun zv => zv = undef), (fun zv => zv = undef), (fun zv => zv = (.bool false)), (fun zv => zv = (.bool false))] : List (Value → Prop)).getD j (fun _ => True) zv) (fun _ _ W => Below Wi.heap.size Wi W) ?h0q4 ?stepq4 ?finq4)
      case h0q4 => exact fun _ => bdN Wi.heap.size Wi 1
      case stepq4 =>
       intro i o a W d vs hi ho hdi hJ hf hr hF
       replace hi : i < 21 := hi
       rcases (show i = 0 ∨ i = 1 ∨ i = 2 ∨ i = 3 ∨ i = 4 ∨ i = 5 ∨ i = 6 ∨ i = 7 ∨ i = 8 ∨ i = 9 ∨ i = 10 ∨ i = 11 ∨ i = 12 ∨ i = 13 ∨ i = 14 ∨ i = 15 ∨ i = 16 ∨ i = 17 ∨ i = 18 ∨ i = 19 ∨ i = 20 by omega) with rfl | rfl | rfl | rfl | rfl | rfl | rfl | rfl | rfl | rfl | rfl | rfl | rfl | rfl | rfl | rfl | rfl | rfl | rfl | rfl | rfl
       ·replace ho := op_at ho (by rfl)
        subst ho
        have f4 : a.tmps.getD 4 undef = (.pointer (some ⟨Wp, 0, none⟩)) := hf 4 (by kernel_rfl)
        exact .inl ⟨(fun k b h => by cases h), .inl ⟨0, by decide, rfl, (.agg x.cells.toArray), W, (exec_load_row 38 _ rfl Wp _ _ (.struct (Tryd.prog.fieldsOf 38)) (show a.eval (.tmp 4) = _ from f4) (stays KX.out hJ) (by kernel_rfl) rfl (by kernel_rfl)), rfl, hJ⟩⟩
       ·replace ho := op_at ho (by rfl)
        subst ho
        have d0 : a.tmps.getD 85 undef = (.agg x.cells.toArray) := by have h1 := hF 0 (by decide) (hr 0 (by kernel_rfl)); exact h1.2.trans h1.1
        refine .inl ⟨(fun k b h => by cases h), .inr (.inr ⟨1, by decide, rfl, 17, #[(.agg x.cells.toArray)], W, (by simp [go_sem, Act.eval, d0]), ?_⟩)⟩
        refine (callsIn_wide.2 (hcon W)).mono ?_
        rintro e W' ⟨rfl, hBe⟩
        exact ⟨_, rfl, rfl, hJ.trans (hBe.mono hJ.size)⟩
       ·replace ho := op_at ho (by rfl)
        subst ho
        have d1 : a.tmps.getD 86 undef = (.bool true) := by have h1 := hF 1 (by decide) (hr 1 (by kernel_rfl)); exact h1.2.trans h1.1
        exact .inl ⟨(fun k b h => by cases h), .inl ⟨2, by decide, rfl, (.bool false), W, (by simp [go_sem, Act.eval, d1]), rfl, hJ⟩⟩
       ·replace ho := op_at ho (by rfl)
        subst ho
        have d2 : a.tmps.getD 87 undef = (.bool false) := by have h1 := hF 2 (by decide) (hr 2 (by kernel_rfl)); exact h1.2.trans h1.1
        exact .inl ⟨(fun k b h => by cases h), .inl ⟨3, by decide, rfl, (.bool false), W, (by simp [go_sem, Act.eval, d2]), rfl, hJ⟩⟩
       ·replace ho := op_at ho (by rfl)
        subst ho
        have d3 : a.tmps.getD 88 undef = (.bool false) := by have h1 := hF 3 (by decide) (hr 3 (by kernel_rfl)); exact h1.2.trans h1.1
        have f3 : a.tmps.getD 3 undef = (.int .i64 (k : Int)) := hf 3 (by kernel_rfl)
        exact .inl ⟨(fun k b h => by cases h; exact ⟨3, by decide, rfl, d3⟩), .inl ⟨4, by decide, rfl, (.int .i64 (k : Int)), W, (by simp [go_sem, Act.eval, d3, f3]), rfl, hJ⟩⟩
       ·replace ho := op_at ho (by rfl)
        subst ho
        have d4 : a.tmps.getD 89 undef = (.int .i64 (k : Int)) := by have h1 := hF 4 (by decide) (hr 4 (by kernel_rfl)); exact h1.2.trans h1.1
        have d3 : a.tmps.getD 88 undef = (.bool false) := by have h1 := hF 3 (by decide) (hr 3 (by kernel_rfl)); exact h1.2.trans h1.1
        exact .inl ⟨(fun k b h => by cases h; exact ⟨3, by decide, rfl, d3⟩), .inl ⟨5, by decide, rfl, (.bool false), W, (by simp [go_sem, Act.eval, d4, d3, hk0.out]), rfl, hJ⟩⟩
       ·replace ho := op_at ho (by rfl)
        subst ho
        have d5 : a.tmps.getD 90 undef = (.bool false) := by have h1 := hF 5 (by decide) (hr 5 (by kernel_rfl)); exact h1.2.trans h1.1
        have d3 : a.tmps.getD 88 undef = (.bool false) := by have h1 := hF 3 (by decide) (hr 3 (by kernel_rfl)); exact h1.2.trans h1.1
        exact .inl ⟨(fun k b h => by cases h; exact ⟨3, by decide, rfl, d3⟩), .inl ⟨6, by decide, rfl, (.bool false), W, (by simp [go_sem, Act.eval, d5, d3]), rfl, hJ⟩⟩
       ·replace ho := op_at ho (by rfl)
        subst ho
        have d6 : a.tmps.getD 91 undef = (.bool false) := by have h1 := hF 6 (by decide) (hr 6 (by kernel_rfl)); exact h1.2.trans h1.1
        exact .inr ⟨6, true, 6, rfl, by decide, rfl, (fun hc => by have hc2 := d6.symm.trans hc; first | (cases hc2; done) | simp [undef] at hc2), .inl ⟨7, by decide, rfl, rfl, hJ⟩⟩
       ·replace ho := op_at ho (by rfl)
        subst ho
        have d6 : a.tmps.getD 91 undef = (.bool false) := by have h1 := hF 6 (by decide) (hr 6 (by kernel_rfl)); exact h1.2.trans h1.1
        exact .inr ⟨6, true, 6, rfl, by decide, rfl, (fun hc => by have hc2 := d6.symm.trans hc; first | (cases hc2; done) | simp [undef] at hc2), .inl ⟨8, by decide, rfl, rfl, hJ⟩⟩
       ·replace ho := op_at ho (by rfl)
        subst ho
        have d6 : a.tmps.getD 91 undef = (.bool false) := by have h1 := hF 6 (by decide) (hr 6 (by kernel_rfl)); exact h1.2.trans h1.1
        exact .inr ⟨6, true, 6, rfl, by decide, rfl, (fun hc => by have hc2 := d6.symm.trans hc; first | (cases hc2; done) | simp [undef] at hc2), .inl ⟨9, by decide, rfl, rfl, hJ⟩⟩
       ·replace ho := op_at ho (by rfl)
        subst ho
        have d6 : a.tmps.getD 91 undef = (.bool false) := by have h1 := hF 6 (by decide) (hr 6 (by kernel_rfl)); exact h1.2.trans h1.1
        exact .inr ⟨6, true, 6, rfl, by decide, rfl, (fun hc => by have hc2 := d6.symm.trans hc; first | (cases hc2; done) | simp [undef] at hc2), .inl ⟨10, by decide, rfl, rfl, hJ⟩⟩
       ·replace ho := op_at ho (by rfl)
        subst ho
        have d6 : a.tmps.getD 91 undef = (.bool false) := by have h1 := hF 6 (by decide) (hr 6 (by kernel_rfl)); exact h1.2.trans h1.1
        exact .inr ⟨6, true, 6, rfl, by decide, rfl, (fun hc => by have hc2 := d6.symm.trans hc; first | (cases hc2; done) | simp [undef] at hc2), .inl ⟨11, by decide, rfl, rfl, hJ⟩⟩
       ·replace ho := op_at ho (by rfl)
        subst ho
        have d6 : a.tmps.getD 91 undef = (.bool false) := by have h1 := hF 6 (by decide) (hr 6 (by kernel_rfl)); exact h1.2.trans h1.1
        exact .inr ⟨6, true, 6, rfl, by decide, rfl, (fun hc => by have hc2 := d6.symm.trans hc; first | (cases hc2; done) | simp [undef] at hc2), .inl ⟨12, by decide, rfl, rfl, hJ⟩⟩
       ·replace ho := op_at ho (by rfl)
        subst ho
        have d6 : a.tmps.getD 91 undef = (.bool false) := by have h1 := hF 6 (by decide) (hr 6 (by kernel_rfl)); exact h1.2.trans h1.1
        exact .inr ⟨6, true, 6, rfl, by decide, rfl, (fun hc => by have hc2 := d6.symm.trans hc; first | (cases hc2; done) | simp [undef] at hc2), .inl ⟨13, by decide, rfl, rfl, hJ⟩⟩
       ·replace ho := op_at ho (by rfl)
        subst ho
        have d6 : a.tmps.getD 91 undef = (.bool false) := by have h1 := hF 6 (by decide) (hr 6 (by kernel_rfl)); exact h1.2.trans h1.1
        exact .inr ⟨6, true, 6, rfl, by decide, rfl, (fun hc => by have hc2 := d6.symm.trans hc; first | (cases hc2; done) | simp [undef] at hc2), .inl ⟨14, by decide, rfl, rfl, hJ⟩⟩
       ·replace ho := op_at ho (by rfl)
        subst ho
        have d6 : a.tmps.getD 91 undef = (.bool false) := by have h1 := hF 6 (by decide) (hr 6 (by kernel_rfl)); exact h1.2.trans h1.1
        exact .inr ⟨6, true, 6, rfl, by decide, rfl, (fun hc => by have hc2 := d6.symm.trans hc; first | (cases hc2; done) | simp [undef] at hc2), .inl ⟨15, by decide, rfl, rfl, hJ⟩⟩
       ·replace ho := op_at ho (by rfl)
        subst ho
        have d6 : a.tmps.getD 91 undef = (.bool false) := by have h1 := hF 6 (by decide) (hr 6 (by kernel_rfl)); exact h1.2.trans h1.1
        exact .inr ⟨6, true, 6, rfl, by decide, rfl, (fun hc => by have hc2 := d6.symm.trans hc; first | (cases hc2; done) | simp [undef] at hc2), .inl ⟨16, by decide, rfl, rfl, hJ⟩⟩
       ·replace ho := op_at ho (by rfl)
        subst ho
        have d6 : a.tmps.getD 91 undef = (.bool false) := by have h1 := hF 6 (by decide) (hr 6 (by kernel_rfl)); exact h1.2.trans h1.1
        exact .inr ⟨6, true, 6, rfl, by decide, rfl, (fun hc => by have hc2 := d6.symm.trans hc; first | (cases hc2; done) | simp [undef] at hc2), .inl ⟨17, by decide, rfl, rfl, hJ⟩⟩
       ·replace ho := op_at ho (by rfl)
        subst ho
        have d6 : a.tmps.getD 91 undef = (.bool false) := by have h1 := hF 6 (by decide) (hr 6 (by kernel_rfl)); exact h1.2.trans h1.1
        exact .inr ⟨6, true, 6, rfl, by decide, rfl, (fun hc => by have hc2 := d6.symm.trans hc; first | (cases hc2; done) | simp [undef] at hc2), .inl ⟨18, by decide, rfl, rfl, hJ⟩⟩
       ·replace ho := op_at ho (by rfl)
        subst ho
        have d6 : a.tmps.getD 91 undef = (.bool false) := by have h1 := hF 6 (by decide) (hr 6 (by kernel_rfl)); exact h1.2.trans h1.1
        have d3 : a.tmps.getD 88 undef = (.bool false) := by have h1 := hF 3 (by decide) (hr 3 (by kernel_rfl)); exact h1.2.trans h1.1
        exact .inl ⟨(fun k b h => by cases h; exact ⟨3, by decide, rfl, d3⟩), .inl ⟨19, by decide, rfl, (.bool false), W, (by simp [go_sem, Act.eval, d6, d3]), rfl, hJ⟩⟩
       ·replace ho := op_at ho (by rfl)
        subst ho
        have d3 : a.tmps.getD 88 undef = (.bool false) := by have h1 := hF 3 (by decide) (hr 3 (by kernel_rfl)); exact h1.2.trans h1.1
        have d19 : a.tmps.getD 104 undef = (.bool false) := by have h1 := hF 19 (by decide) (hr 19 (by kernel_rfl)); exact h1.2.trans h1.1
        exact .inl ⟨(fun k b h => by cases h), .inl ⟨20, by decide, rfl, (.bool false), W, (by simp [go_sem, Act.eval, d3, d19]), rfl, hJ⟩⟩
      case finq4 =>
       intro d vs Wq4 hall hJ hF
       have h0 : vs 0 = (.agg x.cells.toArray) := hF 0 (by decide)
       have h1 : vs 1 = (.bool true) := hF 1 (by decide)
       have h2 : vs 2 = (.bool false) := hF 2 (by decide)
       have h3 : vs 3 = (.bool false) := hF 3 (by decide)
       have h4 : vs 4 = (.int .i64 (k : Int)) := hF 4 (by decide)
       have h5 : vs 5 = (.bool false) := hF 5 (by decide)
       have h6 : vs 6 = (.bool false) := hF 6 (by decide)
       have h7 : vs 7 = undef := hF 7 (by decide)
       have h8 : vs 8 = undef := hF 8 (by decide)
       have h9 : vs 9 = undef := hF 9 (by decide)
       have h10 : vs 10 = undef := hF 10 (by decide)
       have h11 : vs 11 = undef := hF 11 (by decide)
       have h12 : vs 12 = undef := hF 12 (by decide)
       have h13 : vs 13 = undef := hF 13 (by decide)
       have h14 : vs 14 = undef := hF 14 (by decide)
       have h15 : vs 15 = undef := hF 15 (by decide)
       have h16 : vs 16 = undef := hF 16 (by decide)
       have h17 : vs 17 = undef := hF 17 (by decide)
       have h18 : vs 18 = undef := hF 18 (by decide)
       have h19 : vs 19 = (.bool false) := hF 19 (by decide)
       have h20 : vs 20 = (.bool false) := hF 20 (by decide)
       clear hF
       show (_ : Exit → Act → World → Prop) Exit.normal (puts _ vs 21 _) Wq4
       simp only [puts, h0, h1, h2, h3, h4, h5, h6, h7, h8, h9, h10, h11, h12, h13, h14, h15, h16, h17, h18, h19, h20, List.getD_cons_zero, List.getD_cons_succ]
       clear h0 h1 h2 h3 h4 h5 h6 h7 h8 h9 h10 h11 h12 h13 h14 h15 h16 h17 h18 h19 h20
       go_simp
       have hB9 : Below Wi.heap.size Wi Wq4 := hJ
       generalize Wq4 = W9 at *
       clear hJ hall
       have HG2 : Hid (∀ j, j < k + 1 → goodAt xs j = true) := fun j hj => by
        rcases Nat.lt_or_ge j k with h | h
        ·exact HG.out j h
        ·obtain rfl : j = k := by omega
         exact HGK.out
       have HB9 : Hid (Below W0.heap.size W0 W9) := HBi.out.trans (hB9.mono HBi.out.size)
       clear hB9 HG
       go_wp2
       go_roundw
       case rel => exact ⟨k + 1, by omega, by go_num, HG2, HB9⟩
       case measure => simp [intOf]; omega
   ·have hr := HRB.out
    rw [itemsB_t (fun j hj => HG.out j (by have := HN.out; omega))] at hr
    simp at hr
    have LF := HL0.out.trans (HB.out.mono HL0.out.size)
    have c7 := cell_of_row _ _ 7 _ _ _ (stays KB1.out HB.out)
    clear HG HB
    by_cases h8 : n ≤ 8
    ·have q8 : decide ((n : Int) ≤ 8) = true := by simp; omega
     rw [show decide (n ≤ 8) = true by simp; omega] at hr
     subst hr
     go_wp2
     go_ret
     exact ⟨rfl, LF⟩
    ·have q8 : decide ((n : Int) ≤ 8) = false := by simp; omega
     rw [show decide (n ≤ 8) = false by simp; omega] at hr
     subst hr
     go_wp2
     go_ret
     exact ⟨rfl, LF⟩
 by_cases hk4 : kind = 4
 ·subst hk4
  clear hk1 hk3 k1 k5 hk1'
  rw [if_pos (.inr rfl)] at HRB
  as_aux_lemma =>
  go_enter Tryd.func11, Tryd.ntmps11
  go_wp2_with (first | (with_reducible refine (hf _).mono ?_; rintro e w' ⟨rfl, rfl⟩) | (with_reducible refine (ht _).mono ?_; rintro e w' ⟨rfl, rfl⟩) | (with_reducible refine (hb _).mono ?_; rintro e w' ⟨rfl, rfl⟩) | (with_reducible refine (hl _).mono ?_; rintro e w' ⟨rfl, rfl⟩) | (with_reducible refine (he1 _).mono ?_; rintro e w' ⟨rfl, rfl⟩) | (with_reducible refine (he2 _).mono ?_; rintro e w' ⟨rfl, rfl⟩))
  clear hf ht hb hl he1 he2
  obtain ⟨g0, kb⟩ := new_block w (.cells #[.int .i64 4, .int .i64 frm, .int .i64 to, .int .i64 boot, .int .i64 life, .int .i64 echo, .int .i64 elife, .slice ao n cap] 24)
  obtain ⟨W0, hW0⟩ : ∃ W0, W0 = w.alloc (.cells #[.int .i64 4, .int .i64 frm, .int .i64 to, .int .i64 boot, .int .i64 life, .int .i64 echo, .int .i64 elife, .slice ao n cap] 24) := ⟨_, rfl⟩
  rw [← hW0] at g0 kb ⊢
  clear hW0
  have HL0 := Lib.hid g0
  have KB1 := Lib.hid kb
  clear g0 kb e5
  skip
  go_loopw [80] (fun i wr => ∃ k : Nat, k ≤ n ∧ i = .int .i64 (k : Int) ∧ Hid (∀ j, j < k → goodAt xs j = true) ∧ Hid (Below W0.heap.size W0 wr)) (fun i _ => n - (intOf i).toNat)
  case atStart => exact ⟨0, Nat.zero_le _, rfl, fun j hj => absurd hj (by omega), Below.refl _ _⟩
  case round =>
   obtain ⟨k, hk, rfl, HG, HB⟩ := hrel
   by_cases hlt : k < n
   ·have hkx : k < xs.length := by have := HN.out; omega
    obtain ⟨b, off, hao, hb, hcc⟩ := (HV.out.below (HL0.out.trans (HB.out.mono HL0.out.size)) (HL0.out.trans (HB.out.mono HL0.out.size)).size).at k hkx
    subst hao
    obtain ⟨x, hx⟩ : ∃ x, x = xs.getD k nilI := ⟨_, rfl⟩
    obtain ⟨y, hy⟩ : ∃ y, y = xs.getD (k - 1) nilI := ⟨_, rfl⟩
    have hrk : wr.rangeAt b (off + k * 19) x.cells := by rw [hx]; exact hcc k _ (getD_some hkx)
    have hc0 : wr.cell? ⟨b, off + k * 19, none⟩ = some (.string ⟨x.name.toArray⟩) := hrk 0 _ rfl
    have hc1 : wr.cell? ⟨b, off + (k - 1) * 19, none⟩ = some (.string ⟨y.name.toArray⟩) := by rw [hy]; exact hcc (k - 1) _ (getD_some (by omega)) 0 _ rfl
    have HNM : Hid (x.name.length ≤ 9223372036854775807) := by show _ ≤ _; rw [hx]; exact HNL.out _ (List.mem_of_getElem? (getD_some hkx))
    have HX := Lib.hid hx
    have HY := Lib.hid hy
    clear hx hy
    clear hcc hkx
    have hki : 0 ≤ (k : Int) ∧ (k : Int) < (n : Int) := by omega
    have c7 := cell_of_row _ _ 7 _ _ _ (stays KB1.out HB.out)
    go_upto_region 12 with (fail)
    refine wp_region_lit ?_
    refine wpList_run (v := .int .i64 (k : Int)) (w' := wr) rfl (by simp [go_sem, Act.eval]) ?_
    refine wpList_run (v := .pointer (some ⟨b, off + k * 19, none⟩)) (w' := wr) rfl (by simp [go_sem, Act.eval, hki]) ?_
    refine wpList_run (w' := wr) rfl (exec_load_mid 38 _ rfl b (off + k * 19) x.cells (.struct (Tryd.prog.fieldsOf 38)) (by kernel_rfl) hrk (by kernel_rfl) rfl (by kernel_rfl)) ?_
    refine wpList_run (v := .pointer (some ⟨wr.heap.size, 0, none⟩)) (w' := wr.alloc (.cells #[.string ⟨#[]⟩, .int .i64 0, .int .i64 0, .bool false, .int .i64 0, .int .i64 0, .int .i64 0, .int .i64 0, .int .i64 0, .bool false, .int .i64 0, .bool false, .int .i64 0, .int .i64 0, .int .i64 0, .bool false, .int .i64 0, .int .i64 0, .int .i64 0] 38)) rfl (by kernel_rfl) ?_
    refine wpList_run (v := .int .i64 (k : Int)) rfl (by simp [go_sem, Act.eval]; rfl) ?_
    refine wpList_store_new rfl rfl 38 _ _ rfl wr #[.string ⟨#[]⟩, .int .i64 0, .int .i64 0, .bool false, .int .i64 0, .int .i64 0, .int .i64 0, .int .i64 0, .int .i64 0, .bool false, .int .i64 0, .bool false, .int .i64 0, .int .i64 0, .int .i64 0, .bool false, .int .i64 0, .int .i64 0, .int .i64 0] x.cells.toArray (by kernel_rfl) (by kernel_rfl) (by kernel_rfl) rfl (by simp [Value.oneCell']) ?_
    refine wpList_nil ?_
    go_simp
    obtain ⟨g5, k5⟩ := new_block wr (.cells x.cells.toArray 38)
    have HBi0 := HB.out.trans (g5.mono HB.out.size)
    have KB0 := stays (stays KB1.out HB.out) g5
    obtain ⟨Wi, hWi⟩ : ∃ Wi, Wi = wr.alloc (.cells x.cells.toArray 38) := ⟨_, rfl⟩
    obtain ⟨Wp, hWp⟩ : ∃ p, p = wr.heap.size := ⟨_, rfl⟩
    have hbW : b < Wi.heap.size := by rw [hWi]; simp; omega
    have hc1 : Wi.cell? ⟨b, off + (k - 1) * 19, none⟩ = some (.string ⟨y.name.toArray⟩) := by rw [hWi]; exact (g5.cell (p := ⟨b, off + (k - 1) * 19, none⟩) hb).trans hc1
    rw [← hWi, ← hWp] at k5
    rw [← hWi] at HBi0 KB0
    have goalW := hWi
    rw [← hWi, ← hWp]
    clear hWi hWp g5 goalW hrk
    have KX := Lib.hid k5
    have HBi := Lib.hid HBi0
    have KB := Lib.hid KB0
    clear k5 HBi0 KB0 HB
    have hki1 : 0 < k → 0 ≤ (k : Int) - 1 ∧ (k : Int) - 1 < (n : Int) := fun _ => by omega
    have htn : 0 < k → ((k : Int) - 1).toNat = k - 1 := fun _ => by omega
    have hsub : 0 < k → IntKind.i64.wrap ((k : Int) - 1) = (k : Int) - 1 := fun _ => IntWalk.i64_in _ (by omega)
    clear hlt hk
    cases hfi : fitI x with
    | false =>
     as_aux_lemma =>
     have HGK : Hid (goodAt xs k = false) := by show _ = _; unfold goodAt; rw [← HX.out, ← HY.out]; rw [hfi]; rfl
     have hcon : ∀ W, Calls Tryd.prog 17 #[.agg x.cells.toArray] W fun e w' => e = .returned (.bool false) ∧ Below W.heap.size W w' := fun W => by
      have := item_any x W HNM.out
      rw [hfi] at this
      exact this
     clear hki1 htn hsub hc1 hfi
     go_upto_region 13 with (fail)
     refine wpIn_wide (n := 5).1 (wpIn_flowM (F0 := Fence.wide) (n0 := 5) (fun _ => trivial) (fun h => by cases h) (by kernel_rfl) (by kernel_rfl) 21 21 (by kernel_rfl) (fun j => ([0, 1, 2, 3, 4, 5, 6, 7, 8, 9, 10, 11, 12, 13, 14, 15, 16, 17, 18, 19, 20] : List Nat).getD j 0) (fun j => ([85, 86, 87, 88, 89, 90, 91, 92, 93, 94, 95, 96, 97, 98, 99, 100, 101, 102, 103, 104, 105] : List Nat).getD j 0) (by kernel_rfl) (by kernel_rfl) (by kernel_rfl) (by kernel_rfl) (by kernel_rfl) (by kernel_rfl) (by kernel_rfl) (fun j zv => ([(fun zv => zv = (.agg x.cells.toArray)), (fun zv => zv = (.bool false)), (fun zv => zv = (.bool true)), (fun zv => zv = (.bool true)), (fun zv => zv = undef), (fun zv => zv = undef), (fun zv => zv = undef), (fun zv => zv = undef), (fun zv => zv = undef), (fun zv => zv = undef), (fun zv => zv = undef), (fun zv => zv = undef), (fun zv => zv = undef), (fun zv => zv = undef), (fun zv => zv = undef), (fun zv => zv = undef), (fun zv => zv = undef), (fun zv => zv = undef), (fun zv => zv = undef), (fun zv => zv = undef), (fun zv => zv = (.bool true))] : List (Value → Prop)).getD j (fun _ => True) zv) (fun _ _ W => Below Wi.heap.size Wi W) ?h0q1 ?stepq1 ?finq1)
     case h0q1 => exact fun _ => bdN Wi.heap.size Wi 1
     case stepq1 =>
      intro i o a W d vs hi ho hdi hJ hf hr hF
      replace hi : i < 21 := hi
      rcases (show i = 0 ∨ i = 1 ∨ i = 2 ∨ i = 3 ∨ i = 4 ∨ i = 5 ∨ i = 6 ∨ i = 7 ∨ i = 8 ∨ i = 9 ∨ i = 10 ∨ i = 11 ∨ i = 12 ∨ i = 13 ∨ i = 14 ∨ i = 15 ∨ i = 16 ∨ i = 17 ∨ i = 18 ∨ i = 19 ∨ i = 20 by omega) with rfl | rfl | rfl | rfl | rfl | rfl | rfl | rfl | rfl | rfl | rfl | rfl | rfl | rfl | rfl | rfl | rfl | rfl | rfl | rfl | rfl
      ·replace ho := op_at ho (by rfl)
       subst ho
       have f4 : a.tmps.getD 4 undef = (.pointer (some ⟨Wp, 0, none⟩)) := hf 4 (by kernel_rfl)
       exact .inl ⟨(fun k b h => by cases h), .inl ⟨0, by decide, rfl, (.agg x.cells.toArray), W, (exec_load_row 38 _ rfl Wp _ _ (.struct (Tryd.prog.fieldsOf 38)) (show a.eval (.tmp 4) = _ from f4) (stays KX.out hJ) (by kernel_rfl) rfl (by kernel_rfl)), rfl, hJ⟩⟩
      ·replace ho := op_at ho (by rfl)
       subst ho
       have d0 : a.tmps.getD 85 undef = (.agg x.cells.toArray) := by have h1 := hF 0 (by decide) (hr 0 (by kernel_rfl)); exact h1.2.trans h1.1
       refine .inl ⟨(fun k b h => by cases h), .inr (.inr ⟨1, by decide, rfl, 17, #[(.agg x.cells.toArray)], W, (by simp [go_sem, Act.eval, d0]), ?_⟩)⟩
       refine (callsIn_wide.2 (hcon W)).mono ?_
       rintro e W' ⟨rfl, hBe⟩
       exact ⟨_, rfl, rfl, hJ.trans (hBe.mono hJ.size)⟩
      ·replace ho := op_at ho (by rfl)
       subst ho
       have d1 : a.tmps.getD 86 undef = (.bool false) := by have h1 := hF 1 (by decide) (hr 1 (by kernel_rfl)); exact h1.2.trans h1.1
       exact .inl ⟨(fun k b h => by cases h), .inl ⟨2, by decide, rfl, (.bool true), W, (by simp [go_sem, Act.eval, d1]), rfl, hJ⟩⟩
      ·replace ho := op_at ho (by rfl)
       subst ho
       have d2 : a.tmps.getD 87 undef = (.bool true) := by have h1 := hF 2 (by decide) (hr 2 (by kernel_rfl)); exact h1.2.trans h1.1
       exact .inl ⟨(fun k b h => by cases h), .inl ⟨3, by decide, rfl, (.bool true), W, (by simp [go_sem, Act.eval, d2]), rfl, hJ⟩⟩
      ·replace ho := op_at ho (by rfl)
       subst ho
       have d3 : a.tmps.getD 88 undef = (.bool true) := by have h1 := hF 3 (by decide) (hr 3 (by kernel_rfl)); exact h1.2.trans h1.1
       exact .inr ⟨3, false, 3, rfl, by decide, rfl, (fun hc => by have hc2 := d3.symm.trans hc; first | (cases hc2; done) | simp [undef] at hc2), .inl ⟨4, by decide, rfl, rfl, hJ⟩⟩
      ·replace ho := op_at ho (by rfl)
       subst ho
       have d3 : a.tmps.getD 88 undef = (.bool true) := by have h1 := hF 3 (by decide) (hr 3 (by kernel_rfl)); exact h1.2.trans h1.1
       exact .inr ⟨3, false, 3, rfl, by decide, rfl, (fun hc => by have hc2 := d3.symm.trans hc; first | (cases hc2; done) | simp [undef] at hc2), .inl ⟨5, by decide, rfl, rfl, hJ⟩⟩
      ·replace ho := op_at ho (by rfl)
       subst ho
       have d3 : a.tmps.getD 88 undef = (.bool true) := by have h1 := hF 3 (by decide) (hr 3 (by kernel_rfl)); exact h1.2.trans h1.1
       exact .inr ⟨3, false, 3, rfl, by decide, rfl, (fun hc => by have hc2 := d3.symm.trans hc; first | (cases hc2; done) | simp [undef] at hc2), .inl ⟨6, by decide, rfl, rfl, hJ⟩⟩
      ·replace ho := op_at ho (by rfl)
       subst ho
       have d6 : a.tmps.getD 91 undef = undef := by have h1 := hF 6 (by decide) (hr 6 (by kernel_rfl)); exact h1.2.trans h1.1
       exact .inr ⟨6, true, 6, rfl, by decide, rfl, (fun hc => by have hc2 := d6.symm.trans hc; first | (cases hc2; done) | simp [undef] at hc2), .inl ⟨7, by decide, rfl, rfl, hJ⟩⟩
      ·replace ho := op_at ho (by rfl)
       subst ho
       have d6 : a.tmps.getD 91 undef = undef := by have h1 := hF 6 (by decide) (hr 6 (by kernel_rfl)); exact h1.2.trans h1.1
       exact .inr ⟨6, true, 6, rfl, by decide, rfl, (fun hc => by have hc2 := d6.symm.trans hc; first | (cases hc2; done) | simp [undef] at hc2), .inl ⟨8, by decide, rfl, rfl, hJ⟩⟩
      ·replace ho := op_at ho (by rfl)
       subst ho
       have d6 : a.tmps.getD 91 undef = undef := by have h1 := hF 6 (by decide) (hr 6 (by kernel_rfl)); exact h1.2.trans h1.1
       exact .inr ⟨6, true, 6, rfl, by decide, rfl, (fun hc => by have hc2 := d6.symm.trans hc; first | (cases hc2; done) | simp [undef] at hc2), .inl ⟨9, by decide, rfl, rfl, hJ⟩⟩
      ·replace ho := op_at ho (by rfl)
       subst ho
       have d6 : a.tmps.getD 91 undef = undef := by have h1 := hF 6 (by decide) (hr 6 (by kernel_rfl)); exact h1.2.trans h1.1
       exact .inr ⟨6, true, 6, rfl, by decide, rfl, (fun hc => by have hc2 := d6.symm.trans hc; first | (cases hc2; done) | simp [undef] at hc2), .inl ⟨10, by decide, rfl, rfl, hJ⟩⟩
      ·replace ho := op_at ho (by rfl)
       subst ho
       have d6 : a.tmps.getD 91 undef = undef := by have h1 := hF 6 (by decide) (hr 6 (by kernel_rfl)); exact h1.2.trans h1.1
       exact .inr ⟨6, true, 6, rfl, by decide, rfl, (fun hc => by have hc2 := d6.symm.trans hc; first | (cases hc2; done) | simp [undef] at hc2), .inl ⟨11, by decide, rfl, rfl, hJ⟩⟩
      ·replace ho := op_at ho (by rfl)
       subst ho
       have d6 : a.tmps.getD 91 undef = undef := by have h1 := hF 6 (by decide) (hr 6 (by kernel_rfl)); exact h1.2.trans h1.1
       exact .inr ⟨6, true, 6, rfl, by decide, rfl, (fun hc => by have hc2 := d6.symm.trans hc; first | (cases hc2; done) | simp [undef] at hc2), .inl ⟨12, by decide, rfl, rfl, hJ⟩⟩
      ·replace ho := op_at ho (by rfl)
       subst ho
       have d6 : a.tmps.getD 91 undef = undef := by have h1 := hF 6 (by decide) (hr 6 (by kernel_rfl)); exact h1.2.trans h1.1
       exact .inr ⟨6, true, 6, rfl, by decide, rfl, (fun hc => by have hc2 := d6.symm.trans hc; first | (cases hc2; done) | simp [undef] at hc2), .inl ⟨13, by decide, rfl, rfl, hJ⟩⟩
      ·replace ho := op_at ho (by rfl)
       subst ho
       have d6 : a.tmps.getD 91 undef = undef := by have h1 := hF 6 (by decide) (hr 6 (by kernel_rfl)); exact h1.2.trans h1.1
       exact .inr ⟨6, true, 6, rfl, by decide, rfl, (fun hc => by have hc2 := d6.symm.trans hc; first | (cases hc2; done) | simp [undef] at hc2), .inl ⟨14, by decide, rfl, rfl, hJ⟩⟩
      ·replace ho := op_at ho (by rfl)
       subst ho
       have d6 : a.tmps.getD 91 undef = undef := by have h1 := hF 6 (by decide) (hr 6 (by kernel_rfl)); exact h1.2.trans h1.1
       exact .inr ⟨6, true, 6, rfl, by decide, rfl, (fun hc => by have hc2 := d6.symm.trans hc; first | (cases hc2; done) | simp [undef] at hc2), .inl ⟨15, by decide, rfl, rfl, hJ⟩⟩
      ·replace ho := op_at ho (by rfl)
       subst ho
       have d6 : a.tmps.getD 91 undef = undef := by have h1 := hF 6 (by decide) (hr 6 (by kernel_rfl)); exact h1.2.trans h1.1
       exact .inr ⟨6, true, 6, rfl, by decide, rfl, (fun hc => by have hc2 := d6.symm.trans hc; first | (cases hc2; done) | simp [undef] at hc2), .inl ⟨16, by decide, rfl, rfl, hJ⟩⟩
      ·replace ho := op_at ho (by rfl)
       subst ho
       have d6 : a.tmps.getD 91 undef = undef := by have h1 := hF 6 (by decide) (hr 6 (by kernel_rfl)); exact h1.2.trans h1.1
       exact .inr ⟨6, true, 6, rfl, by decide, rfl, (fun hc => by have hc2 := d6.symm.trans hc; first | (cases hc2; done) | simp [undef] at hc2), .inl ⟨17, by decide, rfl, rfl, hJ⟩⟩
      ·replace ho := op_at ho (by rfl)
       subst ho
       have d6 : a.tmps.getD 91 undef = undef := by have h1 := hF 6 (by decide) (hr 6 (by kernel_rfl)); exact h1.2.trans h1.1
       exact .inr ⟨6, true, 6, rfl, by decide, rfl, (fun hc => by have hc2 := d6.symm.trans hc; first | (cases hc2; done) | simp [undef] at hc2), .inl ⟨18, by decide, rfl, rfl, hJ⟩⟩
      ·replace ho := op_at ho (by rfl)
       subst ho
       have d3 : a.tmps.getD 88 undef = (.bool true) := by have h1 := hF 3 (by decide) (hr 3 (by kernel_rfl)); exact h1.2.trans h1.1
       exact .inr ⟨3, false, 3, rfl, by decide, rfl, (fun hc => by have hc2 := d3.symm.trans hc; first | (cases hc2; done) | simp [undef] at hc2), .inl ⟨19, by decide, rfl, rfl, hJ⟩⟩
      ·replace ho := op_at ho (by rfl)
       subst ho
       have d3 : a.tmps.getD 88 undef = (.bool true) := by have h1 := hF 3 (by decide) (hr 3 (by kernel_rfl)); exact h1.2.trans h1.1
       exact .inl ⟨(fun k b h => by cases h), .inl ⟨20, by decide, rfl, (.bool true), W, (by simp [go_sem, Act.eval, d3]), rfl, hJ⟩⟩
     case finq1 =>
      intro d vs Wq1 hall hJ hF
      have h0 : vs 0 = (.agg x.cells.toArray) := hF 0 (by decide)
      have h1 : vs 1 = (.bool false) := hF 1 (by decide)
      have h2 : vs 2 = (.bool true) := hF 2 (by decide)
      have h3 : vs 3 = (.bool true) := hF 3 (by decide)
      have h4 : vs 4 = undef := hF 4 (by decide)
      have h5 : vs 5 = undef := hF 5 (by decide)
      have h6 : vs 6 = undef := hF 6 (by decide)
      have h7 : vs 7 = undef := hF 7 (by decide)
      have h8 : vs 8 = undef := hF 8 (by decide)
      have h9 : vs 9 = undef := hF 9 (by decide)
      have h10 : vs 10 = undef := hF 10 (by decide)
      have h11 : vs 11 = undef := hF 11 (by decide)
      have h12 : vs 12 = undef := hF 12 (by decide)
      have h13 : vs 13 = undef := hF 13 (by decide)
      have h14 : vs 14 = undef := hF 14 (by decide)
      have h15 : vs 15 = undef := hF 15 (by decide)
      have h16 : vs 16 = undef := hF 16 (by decide)
      have h17 : vs 17 = undef := hF 17 (by decide)
      have h18 : vs 18 = undef := hF 18 (by decide)
      have h19 : vs 19 = undef := hF 19 (by decide)
      have h20 : vs 20 = (.bool true) := hF 20 (by decide)
      clear hF
      show (_ : Exit → Act → World → Prop) Exit.normal (puts _ vs 21 _) Wq1
      simp only [puts, h0, h1, h2, h3, h4, h5, h6, h7, h8, h9, h10, h11, h12, h13, h14, h15, h16, h17, h18, h19, h20, List.getD_cons_zero, List.getD_cons_succ]
      clear h0 h1 h2 h3 h4 h5 h6 h7 h8 h9 h10 h11 h12 h13 h14 h15 h16 h17 h18 h19 h20
      go_simp
      have hB9 : Below Wi.heap.size Wi Wq1 := hJ
      generalize Wq1 = W9 at *
      clear hJ hall
      have hr := HRB.out
      rw [itemsB_f k (by have := HN.out; omega) HGK.out] at hr
      simp at hr
      subst hr
      have LF := HL0.out.trans ((HBi.out.trans (hB9.mono HBi.out.size)).mono HL0.out.size)
      go_wp2
      go_ret
      exact ⟨rfl, LF⟩
    | true =>
     by_cases hp : 0 < k
     ·replace hki1 := hki1 hp
      replace htn := htn hp
      replace hsub := hsub hp
      have hk1n : Hid (((k : Int) < 1) = False) := by show _ = _; simp; omega
      replace hp := Lib.hid hp
      cases hlt' : ltN y.name x.name with
      | false =>
       as_aux_lemma =>
       have HLT : Hid (Op.bytesLess (⟨y.name.toArray⟩ : ByteArray).toList (⟨x.name.toArray⟩ : ByteArray).toList = false) := hlt'
       have HGK : Hid (goodAt xs k = false) := by show _ = _; unfold goodAt; rw [← HX.out, ← HY.out]; rw [hfi, show (k == 0) = false by have := hp.out; simp; omega, hlt']; rfl
       have hcon : ∀ W, Calls Tryd.prog 17 #[.agg x.cells.toArray] W fun e w' => e = .returned (.bool true) ∧ Below W.heap.size W w' := fun W => by
        have := item_any x W HNM.out
        rw [hfi] at this
        exact this
       clear hlt' hfi
       go_upto_region 13 with (fail)
       refine wpIn_wide (n := 5).1 (wpIn_flowM (F0 := Fence.wide) (n0 := 5) (fun _ => trivial) (fun h => by cases h) (by kernel_rfl) (by kernel_rfl) 21 21 (by kernel_rfl) (fun j => ([0, 1, 2, 3, 4, 5, 6, 7, 8, 9, 10, 11, 12, 13, 14, 15, 16, 17, 18, 19, 20] : List Nat).getD j 0) (fun j => ([85, 86, 87, 88, 89, 90, 91, 92, 93, 94, 95, 96, 97, 98, 99, 100, 101, 102, 103, 104, 105] : List Nat).getD j 0) (by kernel_rfl) (by kernel_rfl) (by kernel_rfl) (by kernel_rfl) (by kernel_rfl) (by kernel_rfl) (by kernel_rfl) (fun j zv => ([(fun zv => zv = (.agg x.cells.toArray)), (fun zv => zv = (.bool true)), (fun zv => zv = (.bool false)), (fun zv => zv = (.bool false)), (fun zv => zv = (.int .i64 (k : Int))), (fun zv => zv = (.bool true)), (fun zv => zv = (.bool true)), (fun zv => zv = (.pointer (some ⟨w.heap.size, 7, none⟩))), (fun zv => zv = (.slice (some ⟨b, off, none⟩) n cap)), (fun zv => zv = (.int .i64 (k : Int))), (fun zv => zv = (.int .i64 ((k : Int) - 1))), (fun zv => zv = (.pointer (some ⟨b, off + (k - 1) * 19, none⟩))), (fun zv => zv = (.pointer (some ⟨b, off + (k - 1) * 19, none⟩))), (fun zv => zv = (.pointer (some ⟨b, off + (k - 1) * 19, none⟩))), (fun zv => zv = (.string ⟨y.name.toArray⟩)), (fun zv => zv = (.pointer (some ⟨Wp, 0, none⟩))), (fun zv => zv = (.pointer (some ⟨Wp, 0, none⟩))), (fun zv => zv = (.string ⟨x.name.toArray⟩)), (fun zv => zv = (.bool (!false))), (fun zv => zv = (.bool true)), (fun zv => zv = (.bool true))] : List (Value → Prop)).getD j (fun _ => True) zv) (fun _ _ W => Below Wi.heap.size Wi W) ?h0q2 ?stepq2 ?finq2)
       case h0q2 => exact fun _ => bdN Wi.heap.size Wi 1
       case stepq2 =>
        intro i o a W d vs hi ho hdi hJ hf hr hF
        replace hi : i < 21 := hi
        rcases (show i = 0 ∨ i = 1 ∨ i = 2 ∨ i = 3 ∨ i = 4 ∨ i = 5 ∨ i = 6 ∨ i = 7 ∨ i = 8 ∨ i = 9 ∨ i = 10 ∨ i = 11 ∨ i = 12 ∨ i = 13 ∨ i = 14 ∨ i = 15 ∨ i = 16 ∨ i = 17 ∨ i = 18 ∨ i = 19 ∨ i = 20 by omega) with rfl | rfl | rfl | rfl | rfl | rfl | rfl | rfl | rfl | rfl | rfl | rfl | rfl | rfl | rfl | rfl | rfl | rfl | rfl | rfl | rfl
        ·replace ho := op_at ho (by rfl)
         subst ho
         have f4 : a.tmps.getD 4 undef = (.pointer (some ⟨Wp, 0, none⟩)) := hf 4 (by kernel_rfl)
         exact .inl ⟨(fun k b h => by cases h), .inl ⟨0, by decide, rfl, (.agg x.cells.toArray), W, (exec_load_row 38 _ rfl Wp _ _ (.struct (Tryd.prog.fieldsOf 38)) (show a.eval (.tmp 4) = _ from f4) (stays KX.out hJ) (by kernel_rfl) rfl (by kernel_rfl)), rfl, hJ⟩⟩
        ·replace ho := op_at ho (by rfl)
         subst ho
         have d0 : a.tmps.getD 85 undef = (.agg x.cells.toArray) := by have h1 := hF 0 (by decide) (hr 0 (by kernel_rfl)); exact h1.2.trans h1.1
         refine .inl ⟨(fun k b h => by cases h), .inr (.inr ⟨1, by decide, rfl, 17, #[(.agg x.cells.toArray)], W, (by simp [go_sem, Act.eval, d0]), ?_⟩)⟩
         refine (callsIn_wide.2 (hcon W)).mono ?_
         rintro e W' ⟨rfl, hBe⟩
         exact ⟨_, rfl, rfl, hJ.trans (hBe.mono hJ.size)⟩
        ·replace ho := op_at ho (by rfl)
         subst ho
         have d1 : a.tmps.getD 86 undef = (.bool true) := by have h1 := hF 1 (by decide) (hr 1 (by kernel_rfl)); exact h1.2.trans h1.1
         exact .inl ⟨(fun k b h => by cases h), .inl ⟨2, by decide, rfl, (.bool false), W, (by simp [go_sem, Act.eval, d1]), rfl, hJ⟩⟩
        ·replace ho := op_at ho (by rfl)
         subst ho
         have d2 : a.tmps.getD 87 undef = (.bool false) := by have h1 := hF 2 (by decide) (hr 2 (by kernel_rfl)); exact h1.2.trans h1.1
         exact .inl ⟨(fun k b h => by cases h), .inl ⟨3, by decide, rfl, (.bool false), W, (by simp [go_sem, Act.eval, d2]), rfl, hJ⟩⟩
        ·replace ho := op_at ho (by rfl)
         subst ho
         have d3 : a.tmps.getD 88 undef = (.bool false) := by have h1 := hF 3 (by decide) (hr 3 (by kernel_rfl)); exact h1.2.trans h1.1
         have f3 : a.tmps.getD 3 undef = (.int .i64 (k : Int)) := hf 3 (by kernel_rfl)
         exact .inl ⟨(fun k b h => by cases h; exact ⟨3, by decide, rfl, d3⟩), .inl ⟨4, by decide, rfl, (.int .i64 (k : Int)), W, (by simp [go_sem, Act.eval, d3, f3]), rfl, hJ⟩⟩
        ·replace ho := op_at ho (by rfl)
         subst ho
         have d4 : a.tmps.getD 89 undef = (.int .i64 (k : Int)) := by have h1 := hF 4 (by decide) (hr 4 (by kernel_rfl)); exact h1.2.trans h1.1
         have d3 : a.tmps.getD 88 undef = (.bool false) := by have h1 := hF 3 (by decide) (hr 3 (by kernel_rfl)); exact h1.2.trans h1.1
         exact .inl ⟨(fun k b h => by cases h; exact ⟨3, by decide, rfl, d3⟩), .inl ⟨5, by decide, rfl, (.bool true), W, (by simp [go_sem, Act.eval, d4, d3, hp.out]), rfl, hJ⟩⟩
        ·replace ho := op_at ho (by rfl)
         subst ho
         have d5 : a.tmps.getD 90 undef = (.bool true) := by have h1 := hF 5 (by decide) (hr 5 (by kernel_rfl)); exact h1.2.trans h1.1
         have d3 : a.tmps.getD 88 undef = (.bool false) := by have h1 := hF 3 (by decide) (hr 3 (by kernel_rfl)); exact h1.2.trans h1.1
         exact .inl ⟨(fun k b h => by cases h; exact ⟨3, by decide, rfl, d3⟩), .inl ⟨6, by decide, rfl, (.bool true), W, (by simp [go_sem, Act.eval, d5, d3]), rfl, hJ⟩⟩
        ·replace ho := op_at ho (by rfl)
         subst ho
         have d6 : a.tmps.getD 91 undef = (.bool true) := by have h1 := hF 6 (by decide) (hr 6 (by kernel_rfl)); exact h1.2.trans h1.1
         have f1 : a.tmps.getD 1 undef = (.pointer (some ⟨w.heap.size, 0, none⟩)) := hf 1 (by kernel_rfl)
         exact .inl ⟨(fun k b h => by cases h; exact ⟨6, by decide, rfl, d6⟩), .inl ⟨7, by decide, rfl, (.pointer (some ⟨w.heap.size, 7, none⟩)), W, (by simp [go_sem, Act.eval, d6, f1]), rfl, hJ⟩⟩
        ·replace ho := op_at ho (by rfl)
         subst ho
         have d7 : a.tmps.getD 92 undef = (.pointer (some ⟨w.heap.size, 7, none⟩)) := by have h1 := hF 7 (by decide) (hr 7 (by kernel_rfl)); exact h1.2.trans h1.1
         have d6 : a.tmps.getD 91 undef = (.bool true) := by have h1 := hF 6 (by decide) (hr 6 (by kernel_rfl)); exact h1.2.trans h1.1
         have c7 := cell_of_row _ _ 7 _ _ _ (stays KB.out hJ)
         exact .inl ⟨(fun k b h => by cases h; exact ⟨6, by decide, rfl, d6⟩), .inl ⟨8, by decide, rfl, (.slice (some ⟨b, off, none⟩) n cap), W, (by simp [go_sem, Act.eval, d7, d6, c7]), rfl, hJ⟩⟩
        ·replace ho := op_at ho (by rfl)
         subst ho
         have d6 : a.tmps.getD 91 undef = (.bool true) := by have h1 := hF 6 (by decide) (hr 6 (by kernel_rfl)); exact h1.2.trans h1.1
         have f3 : a.tmps.getD 3 undef = (.int .i64 (k : Int)) := hf 3 (by kernel_rfl)
         exact .inl ⟨(fun k b h => by cases h; exact ⟨6, by decide, rfl, d6⟩), .inl ⟨9, by decide, rfl, (.int .i64 (k : Int)), W, (by simp [go_sem, Act.eval, d6, f3]), rfl, hJ⟩⟩
        ·replace ho := op_at ho (by rfl)
         subst ho
         have d9 : a.tmps.getD 94 undef = (.int .i64 (k : Int)) := by have h1 := hF 9 (by decide) (hr 9 (by kernel_rfl)); exact h1.2.trans h1.1
         have d6 : a.tmps.getD 91 undef = (.bool true) := by have h1 := hF 6 (by decide) (hr 6 (by kernel_rfl)); exact h1.2.trans h1.1
         exact .inl ⟨(fun k b h => by cases h; exact ⟨6, by decide, rfl, d6⟩), .inl ⟨10, by decide, rfl, (.int .i64 ((k : Int) - 1)), W, (by simp [go_sem, Act.eval, d9, d6, hsub]), rfl, hJ⟩⟩
        ·replace ho := op_at ho (by rfl)
         subst ho
         have d8 : a.tmps.getD 93 undef = (.slice (some ⟨b, off, none⟩) n cap) := by have h1 := hF 8 (by decide) (hr 8 (by kernel_rfl)); exact h1.2.trans h1.1
         have d10 : a.tmps.getD 95 undef = (.int .i64 ((k : Int) - 1)) := by have h1 := hF 10 (by decide) (hr 10 (by kernel_rfl)); exact h1.2.trans h1.1
         have d6 : a.tmps.getD 91 undef = (.bool true) := by have h1 := hF 6 (by decide) (hr 6 (by kernel_rfl)); exact h1.2.trans h1.1
         exact .inl ⟨(fun k b h => by cases h; exact ⟨6, by decide, rfl, d6⟩), .inl ⟨11, by decide, rfl, (.pointer (some ⟨b, off + (k - 1) * 19, none⟩)), W, (by simp [go_sem, Act.eval, d8, d10, d6, hki1, htn, hk1n.out]), rfl, hJ⟩⟩
        ·replace ho := op_at ho (by rfl)
         subst ho
         have d11 : a.tmps.getD 96 undef = (.pointer (some ⟨b, off + (k - 1) * 19, none⟩)) := by have h1 := hF 11 (by decide) (hr 11 (by kernel_rfl)); exact h1.2.trans h1.1
         have d6 : a.tmps.getD 91 undef = (.bool true) := by have h1 := hF 6 (by decide) (hr 6 (by kernel_rfl)); exact h1.2.trans h1.1
         exact .inl ⟨(fun k b h => by cases h; exact ⟨6, by decide, rfl, d6⟩), .inl ⟨12, by decide, rfl, (.pointer (some ⟨b, off + (k - 1) * 19, none⟩)), W, (by simp [go_sem, Act.eval, d11, d6]), rfl, hJ⟩⟩
        ·replace ho := op_at ho (by rfl)
         subst ho
         have d12 : a.tmps.getD 97 undef = (.pointer (some ⟨b, off + (k - 1) * 19, none⟩)) := by have h1 := hF 12 (by decide) (hr 12 (by kernel_rfl)); exact h1.2.trans h1.1
         have d6 : a.tmps.getD 91 undef = (.bool true) := by have h1 := hF 6 (by decide) (hr 6 (by kernel_rfl)); exact h1.2.trans h1.1
         exact .inl ⟨(fun k b h => by cases h; exact ⟨6, by decide, rfl, d6⟩), .inl ⟨13, by decide, rfl, (.pointer (some ⟨b, off + (k - 1) * 19, none⟩)), W, (by simp [go_sem, Act.eval, d12, d6]), rfl, hJ⟩⟩
        ·replace ho := op_at ho (by rfl)
         subst ho
         have d13 : a.tmps.getD 98 undef = (.pointer (some ⟨b, off + (k - 1) * 19, none⟩)) := by have h1 := hF 13 (by decide) (hr 13 (by kernel_rfl)); exact h1.2.trans h1.1
         have d6 : a.tmps.getD 91 undef = (.bool true) := by have h1 := hF 6 (by decide) (hr 6 (by kernel_rfl)); exact h1.2.trans h1.1
         have cn := (hJ.cell (p := ⟨b, off + (k - 1) * 19, none⟩) hbW).trans hc1
         exact .inl ⟨(fun k b h => by cases h; exact ⟨6, by decide, rfl, d6⟩), .inl ⟨14, by decide, rfl, (.string ⟨y.name.toArray⟩), W, (by simp [go_sem, Act.eval, d13, d6, cn]), rfl, hJ⟩⟩
        ·replace ho := op_at ho (by rfl)
         subst ho
         have d6 : a.tmps.getD 91 undef = (.bool true) := by have h1 := hF 6 (by decide) (hr 6 (by kernel_rfl)); exact h1.2.trans h1.1
         have f4 : a.tmps.getD 4 undef = (.pointer (some ⟨Wp, 0, none⟩)) := hf 4 (by kernel_rfl)
         exact .inl ⟨(fun k b h => by cases h; exact ⟨6, by decide, rfl, d6⟩), .inl ⟨15, by decide, rfl, (.pointer (some ⟨Wp, 0, none⟩)), W, (by simp [go_sem, Act.eval, d6, f4]), rfl, hJ⟩⟩
        ·replace ho := op_at ho (by rfl)
         subst ho
         have d15 : a.tmps.getD 100 undef = (.pointer (some ⟨Wp, 0, none⟩)) := by have h1 := hF 15 (by decide) (hr 15 (by kernel_rfl)); exact h1.2.trans h1.1
         have d6 : a.tmps.getD 91 undef = (.bool true) := by have h1 := hF 6 (by decide) (hr 6 (by kernel_rfl)); exact h1.2.trans h1.1
         exact .inl ⟨(fun k b h => by cases h; exact ⟨6, by decide, rfl, d6⟩), .inl ⟨16, by decide, rfl, (.pointer (some ⟨Wp, 0, none⟩)), W, (by simp [go_sem, Act.eval, d15, d6]), rfl, hJ⟩⟩
        ·replace ho := op_at ho (by rfl)
         subst ho
         have d16 : a.tmps.getD 101 undef = (.pointer (some ⟨Wp, 0, none⟩)) := by have h1 := hF 16 (by decide) (hr 16 (by kernel_rfl)); exact h1.2.trans h1.1
         have d6 : a.tmps.getD 91 undef = (.bool true) := by have h1 := hF 6 (by decide) (hr 6 (by kernel_rfl)); exact h1.2.trans h1.1
         have cn := cell_of_row _ _ 0 _ _ _ (stays KX.out hJ)
         exact .inl ⟨(fun k b h => by cases h; exact ⟨6, by decide, rfl, d6⟩), .inl ⟨17, by decide, rfl, (.string ⟨x.name.toArray⟩), W, (by simp [go_sem, Act.eval, d16, d6, cn]), rfl, hJ⟩⟩
        ·replace ho := op_at ho (by rfl)
         subst ho
         have d14 : a.tmps.getD 99 undef = (.string ⟨y.name.toArray⟩) := by have h1 := hF 14 (by decide) (hr 14 (by kernel_rfl)); exact h1.2.trans h1.1
         have d17 : a.tmps.getD 102 undef = (.string ⟨x.name.toArray⟩) := by have h1 := hF 17 (by decide) (hr 17 (by kernel_rfl)); exact h1.2.trans h1.1
         have d6 : a.tmps.getD 91 undef = (.bool true) := by have h1 := hF 6 (by decide) (hr 6 (by kernel_rfl)); exact h1.2.trans h1.1
         exact .inl ⟨(fun k b h => by cases h; exact ⟨6, by decide, rfl, d6⟩), .inl ⟨18, by decide, rfl, (.bool (!false)), W, (exec_geq_str _ _ _ _ rfl _ _ (show a.eval (.tmp 99) = _ from d14) (show a.eval (.tmp 102) = _ from d17) _ HLT.out), rfl, hJ⟩⟩
        ·replace ho := op_at ho (by rfl)
         subst ho
         have d6 : a.tmps.getD 91 undef = (.bool true) := by have h1 := hF 6 (by decide) (hr 6 (by kernel_rfl)); exact h1.2.trans h1.1
         have d18 : a.tmps.getD 103 undef = (.bool (!false)) := by have h1 := hF 18 (by decide) (hr 18 (by kernel_rfl)); exact h1.2.trans h1.1
         have d3 : a.tmps.getD 88 undef = (.bool false) := by have h1 := hF 3 (by decide) (hr 3 (by kernel_rfl)); exact h1.2.trans h1.1
         exact .inl ⟨(fun k b h => by cases h; exact ⟨3, by decide, rfl, d3⟩), .inl ⟨19, by decide, rfl, (.bool true), W, (by simp [go_sem, Act.eval, d6, d18, d3]), rfl, hJ⟩⟩
        ·replace ho := op_at ho (by rfl)
         subst ho
         have d3 : a.tmps.getD 88 undef = (.bool false) := by have h1 := hF 3 (by decide) (hr 3 (by kernel_rfl)); exact h1.2.trans h1.1
         have d19 : a.tmps.getD 104 undef = (.bool true) := by have h1 := hF 19 (by decide) (hr 19 (by kernel_rfl)); exact h1.2.trans h1.1
         exact .inl ⟨(fun k b h => by cases h), .inl ⟨20, by decide, rfl, (.bool true), W, (by simp [go_sem, Act.eval, d3, d19]), rfl, hJ⟩⟩
       case finq2 =>
        intro d vs Wq2 hall hJ hF
        have h0 : vs 0 = (.agg x.cells.toArray) := hF 0 (by decide)
        have h1 : vs 1 = (.bool true) := hF 1 (by decide)
        have h2 : vs 2 = (.bool false) := hF 2 (by decide)
        have h3 : vs 3 = (.bool false) := hF 3 (by decide)
        have h4 : vs 4 = (.int .i64 (k : Int)) := hF 4 (by decide)
        have h5 : vs 5 = (.bool true) := hF 5 (by decide)
        have h6 : vs 6 = (.bool true) := hF 6 (by decide)
        have h7 : vs 7 = (.pointer (some ⟨w.heap.size, 7, none⟩)) := hF 7 (by decide)
        have h8 : vs 8 = (.slice (some ⟨b, off, none⟩) n cap) := hF 8 (by decide)
        have h9 : vs 9 = (.int .i64 (k : Int)) := hF 9 (by decide)
        have h10 : vs 10 = (.int .i64 ((k : Int) - 1)) := hF 10 (by decide)
        have h11 : vs 11 = (.pointer (some ⟨b, off + (k - 1) * 19, none⟩)) := hF 11 (by decide)
        have h12 : vs 12 = (.pointer (some ⟨b, off + (k - 1) * 19, none⟩)) := hF 12 (by decide)
        have h13 : vs 13 = (.pointer (some ⟨b, off + (k - 1) * 19, none⟩)) := hF 13 (by decide)
        have h14 : vs 14 = (.string ⟨y.name.toArray⟩) := hF 14 (by decide)
        have h15 : vs 15 = (.pointer (some ⟨Wp, 0, none⟩)) := hF 15 (by decide)
        have h16 : vs 16 = (.pointer (some ⟨Wp, 0, none⟩)) := hF 16 (by decide)
        have h17 : vs 17 = (.string ⟨x.name.toArray⟩) := hF 17 (by decide)
        have h18 : vs 18 = (.bool (!false)) := hF 18 (by decide)
        have h19 : vs 19 = (.bool true) := hF 19 (by decide)
        have h20 : vs 20 = (.bool true) := hF 20 (by decide)
        clear hF
        show (_ : Exit → Act → World → Prop) Exit.normal (puts _ vs 21 _) Wq2
        simp only [puts, h0, h1, h2, h3, h4, h5, h6, h7, h8, h9, h10, h11, h12, h13, h14, h15, h16, h17, h18, h19, h20, List.getD_cons_zero, List.getD_cons_succ]
        clear h0 h1 h2 h3 h4 h5 h6 h7 h8 h9 h10 h11 h12 h13 h14 h15 h16 h17 h18 h19 h20
        go_simp
        have hB9 : Below Wi.heap.size Wi Wq2 := hJ
        generalize Wq2 = W9 at *
        clear hJ hall
        have hr := HRB.out
        rw [itemsB_f k (by have := HN.out; omega) HGK.out] at hr
        simp at hr
        subst hr
        have LF := HL0.out.trans ((HBi.out.trans (hB9.mono HBi.out.size)).mono HL0.out.size)
        go_wp2
        go_ret
        exact ⟨rfl, LF⟩
      | true =>
       as_aux_lemma =>
       have HLT : Hid (Op.bytesLess (⟨y.name.toArray⟩ : ByteArray).toList (⟨x.name.toArray⟩ : ByteArray).toList = true) := hlt'
       have HGK : Hid (goodAt xs k = true) := by show _ = _; unfold goodAt; rw [← HX.out, ← HY.out]; rw [hfi, show (k == 0) = false by have := hp.out; simp; omega, hlt']; rfl
       have hcon : ∀ W, Calls Tryd.prog 17 #[.agg x.cells.toArray] W fun e w' => e = .returned (.bool true) ∧ Below W.heap.size W w' := fun W => by
        have := item_any x W HNM.out
        rw [hfi] at this
        exact this
       clear hlt' hfi
       go_upto_region 13 with (fail)
       refine wpIn_wide (n := 5).1 (wpIn_flowM (F0 := Fence.wide) (n0 := 5) (fun _ => trivial) (fun h => by cases h) (by kernel_rfl) (by kernel_rfl) 21 21 (by kernel_rfl) (fun j => ([0, 1, 2, 3, 4, 5, 6, 7, 8, 9, 10, 11, 12, 13, 14, 15, 16, 17, 18, 19, 20] : List Nat).getD j 0) (fun j => ([85, 86, 87, 88, 89, 90, 91, 92, 93, 94, 95, 96, 97, 98, 99, 100, 101, 102, 103, 104, 105] : List Nat).getD j 0) (by kernel_rfl) (by kernel_rfl) (by kernel_rfl) (by kernel_rfl) (by kernel_rfl) (by kernel_rfl) (by kernel_rfl) (fun j zv => ([(fun zv => zv = (.agg x.cells.toArray)), (fun zv => zv = (.bool true)), (fun zv => zv = (.bool false)), (fun zv => zv = (.bool false)), (fun zv => zv = (.int .i64 (k : Int))), (fun zv => zv = (.bool true)), (fun zv => zv = (.bool true)), (fun zv => zv = (.pointer (some ⟨w.heap.size, 7, none⟩))), (fun zv => zv = (.slice (some ⟨b, off, none⟩) n cap)), (fun zv => zv = (.int .i64 (k : Int))), (fun zv => zv = (.int .i64 ((k : Int) - 1))), (fun zv => zv = (.pointer (some ⟨b, off + (k - 1) * 19, none⟩))), (fun zv => zv = (.pointer (some ⟨b, off + (k - 1) * 19, none⟩))), (fun zv => zv = (.pointer (some ⟨b, off + (k - 1) * 19, none⟩))), (fun zv => zv = (.string ⟨y.name.toArray⟩)), (fun zv => zv = (.pointer (some ⟨Wp, 0, none⟩))), (fun zv => zv = (.pointer (some ⟨Wp, 0, none⟩))), (fun zv => zv = (.string ⟨x.name.toArray⟩)), (fun zv => zv = (.bool (!true))), (fun zv => zv = (.bool false)), (fun zv => zv = (.bool false))] : List (Value → Prop)).getD j (fun _ => True) zv) (fun _ _ W => Below Wi.heap.size Wi W) ?h0q3 ?stepq3 ?finq3)
       case h0q3 => exact fun _ => bdN Wi.heap.size Wi 1
       case stepq3 =>
        intro i o a W d vs hi ho hdi hJ hf hr hF
        replace hi : i < 21 := hi
        rcases (show i = 0 ∨ i = 1 ∨ i = 2 ∨ i = 3 ∨ i = 4 ∨ i = 5 ∨ i = 6 ∨ i = 7 ∨ i = 8 ∨ i = 9 ∨ i = 10 ∨ i = 11 ∨ i = 12 ∨ i = 13 ∨ i = 14 ∨ i = 15 ∨ i = 16 ∨ i = 17 ∨ i = 18 ∨ i = 19 ∨ i = 20 by omega) with rfl | rfl | rfl | rfl | rfl | rfl | rfl | rfl | rfl | rfl | rfl | rfl | rfl | rfl | rfl | rfl | rfl | rfl | rfl | rfl | rfl
        ·replace ho := op_at ho (by rfl)
         subst ho
         have f4 : a.tmps.getD 4 undef = (.pointer (some ⟨Wp, 0, none⟩)) := hf 4 (by kernel_rfl)
         exact .inl ⟨(fun k b h => by cases h), .inl ⟨0, by decide, rfl, (.agg x.cells.toArray), W, (exec_load_row 38 _ rfl Wp _ _ (.struct (Tryd.prog.fieldsOf 38)) (show a.eval (.tmp 4) = _ from f4) (stays KX.out hJ) (by kernel_rfl) rfl (by kernel_rfl)), rfl, hJ⟩⟩
        ·replace ho := op_at ho (by rfl)
         subst ho
         have d0 : a.tmps.getD 85 undef = (.agg x.cells.toArray) := by have h1 := hF 0 (by decide) (hr 0 (by kernel_rfl)); exact h1.2.trans h1.1
         refine .inl ⟨(fun k b h => by cases h), .inr (.inr ⟨1, by decide, rfl, 17, #[(.agg x.cells.toArray)], W, (by simp [go_sem, Act.eval, d0]), ?_⟩)⟩
         refine (callsIn_wide.2 (hcon W)).mono ?_
         rintro e W' ⟨rfl, hBe⟩
         exact ⟨_, rfl, rfl, hJ.trans (hBe.mono hJ.size)⟩
        ·replace ho := op_at ho (by rfl)
         subst ho
         have d1 : a.tmps.getD 86 undef = (.bool true) := by have h1 := hF 1 (by decide) (hr 1 (by kernel_rfl)); exact h1.2.trans h1.1
         exact .inl ⟨(fun k b h => by cases h), .inl ⟨2, by decide, rfl, (.bool false), W, (by simp [go_sem, Act.eval, d1]), rfl, hJ⟩⟩
        ·replace ho := op_at ho (by rfl)
         subst ho
         have d2 : a.tmps.getD 87 undef = (.bool false) := by have h1 := hF 2 (by decide) (hr 2 (by kernel_rfl)); exact h1.2.trans h1.1
         exact .inl ⟨(fun k b h => by cases h), .inl ⟨3, by decide, rfl, (.bool false), W, (by simp [go_sem, Act.eval, d2]), rfl, hJ⟩⟩
        ·replace ho := op_at ho (by rfl)
         subst ho
         have d3 : a.tmps.getD 88 undef = (.bool false) := by have h1 := hF 3 (by decide) (hr 3 (by kernel_rfl)); exact h1.2.trans h1.1
         have f3 : a.tmps.getD 3 undef = (.int .i64 (k : Int)) := hf 3 (by kernel_rfl)
         exact .inl ⟨(fun k b h => by cases h; exact ⟨3, by decide, rfl, d3⟩), .inl ⟨4, by decide, rfl, (.int .i64 (k : Int)), W, (by simp [go_sem, Act.eval, d3, f3]), rfl, hJ⟩⟩
        ·replace ho := op_at ho (by rfl)
         subst ho
         have d4 : a.tmps.getD 89 undef = (.int .i64 (k : Int)) := by have h1 := hF 4 (by decide) (hr 4 (by kernel_rfl)); exact h1.2.trans h1.1
         have d3 : a.tmps.getD 88 undef = (.bool false) := by have h1 := hF 3 (by decide) (hr 3 (by kernel_rfl)); exact h1.2.trans h1.1
         exact .inl ⟨(fun k b h => by cases h; exact ⟨3, by decide, rfl, d3⟩), .inl ⟨5, by decide, rfl, (.bool true), W, (by simp [go_sem, Act.eval, d4, d3, hp.out]), rfl, hJ⟩⟩
        ·replace ho := op_at ho (by rfl)
         subst ho
         have d5 : a.tmps.getD 90 undef = (.bool true) := by have h1 := hF 5 (by decide) (hr 5 (by kernel_rfl)); exact h1.2.trans h1.1
         have d3 : a.tmps.getD 88 undef = (.bool false) := by have h1 := hF 3 (by decide) (hr 3 (by kernel_rfl)); exact h1.2.trans h1.1
         exact .inl ⟨(fun k b h => by cases h; exact ⟨3, by decide, rfl, d3⟩), .inl ⟨6, by decide, rfl, (.bool true), W, (by simp [go_sem, Act.eval, d5, d3]), rfl, hJ⟩⟩
        ·replace ho := op_at ho (by rfl)
         subst ho
         have d6 : a.tmps.getD 91 undef = (.bool true) := by have h1 := hF 6 (by decide) (hr 6 (by kernel_rfl)); exact h1.2.trans h1.1
         have f1 : a.tmps.getD 1 undef = (.pointer (some ⟨w.heap.size, 0, none⟩)) := hf 1 (by kernel_rfl)
         exact .inl ⟨(fun k b h => by cases h; exact ⟨6, by decide, rfl, d6⟩), .inl ⟨7, by decide, rfl, (.pointer (some ⟨w.heap.size, 7, none⟩)), W, (by simp [go_sem, Act.eval, d6, f1]), rfl, hJ⟩⟩
        ·replace ho := op_at ho (by rfl)
         subst ho
         have d7 : a.tmps.getD 92 undef = (.pointer (some ⟨w.heap.size, 7, none⟩)) := by have h1 := hF 7 (by decide) (hr 7 (by kernel_rfl)); exact h1.2.trans h1.1
         have d6 : a.tmps.getD 91 undef = (.bool true) := by have h1 := hF 6 (by decide) (hr 6 (by kernel_rfl)); exact h1.2.trans h1.1
         have c7 := cell_of_row _ _ 7 _ _ _ (stays KB.out hJ)
         exact .inl ⟨(fun k b h => by cases h; exact ⟨6, by decide, rfl, d6⟩), .inl ⟨8, by decide, rfl, (.slice (some ⟨b, off, none⟩) n cap), W, (by simp [go_sem, Act.eval, d7, d6, c7]), rfl, hJ⟩⟩
        ·replace ho := op_at ho (by rfl)
         subst ho
         have d6 : a.tmps.getD 91 undef = (.bool true) := by have h1 := hF 6 (by decide) (hr 6 (by kernel_rfl)); exact h1.2.trans h1.1
         have f3 : a.tmps.getD 3 undef = (.int .i64 (k : Int)) := hf 3 (by kernel_rfl)
         exact .inl ⟨(fun k b h => by cases h; exact ⟨6, by decide, rfl, d6⟩), .inl ⟨9, by decide, rfl, (.int .i64 (k : Int)), W, (by simp [go_sem, Act.eval, d6, f3]), rfl, hJ⟩⟩
        ·replace ho := op_at ho (by rfl)
         subst ho
         have d9 : a.tmps.getD 94 undef = (.int .i64 (k : Int)) := by have h1 := hF 9 (by decide) (hr 9 (by kernel_rfl)); exact h1.2.trans h1.1
         have d6 : a.tmps.getD 91 undef = (.bool true) := by have h1 := hF 6 (by decide) (hr 6 (by kernel_rfl)); exact h1.2.trans h1.1
         exact .inl ⟨(fun k b h => by cases h; exact ⟨6, by decide, rfl, d6⟩), .inl ⟨10, by decide, rfl, (.int .i64 ((k : Int) - 1)), W, (by simp [go_sem, Act.eval, d9, d6, hsub]), rfl, hJ⟩⟩
        ·replace ho := op_at ho (by rfl)
         subst ho
         have d8 : a.tmps.getD 93 undef = (.slice (some ⟨b, off, none⟩) n cap) := by have h1 := hF 8 (by decide) (hr 8 (by kernel_rfl)); exact h1.2.trans h1.1
         have d10 : a.tmps.getD 95 undef = (.int .i64 ((k : Int) - 1)) := by have h1 := hF 10 (by decide) (hr 10 (by kernel_rfl)); exact h1.2.trans h1.1
         have d6 : a.tmps.getD 91 undef = (.bool true) := by have h1 := hF 6 (by decide) (hr 6 (by kernel_rfl)); exact h1.2.trans h1.1
         exact .inl ⟨(fun k b h => by cases h; exact ⟨6, by decide, rfl, d6⟩), .inl ⟨11, by decide, rfl, (.pointer (some ⟨b, off + (k - 1) * 19, none⟩)), W, (by simp [go_sem, Act.eval, d8, d10, d6, hki1, htn, hk1n.out]), rfl, hJ⟩⟩
        ·replace ho := op_at ho (by rfl)
         subst ho
         have d11 : a.tmps.getD 96 undef = (.pointer (some ⟨b, off + (k - 1) * 19, none⟩)) := by have h1 := hF 11 (by decide) (hr 11 (by kernel_rfl)); exact h1.2.trans h1.1
         have d6 : a.tmps.getD 91 undef = (.bool true) := by have h1 := hF 6 (by decide) (hr 6 (by kernel_rfl)); exact h1.2.trans h1.1
         exact .inl ⟨(fun k b h => by cases h; exact ⟨6, by decide, rfl, d6⟩), .inl ⟨12, by decide, rfl, (.pointer (some ⟨b, off + (k - 1) * 19, none⟩)), W, (by simp [go_sem, Act.eval, d11, d6]), rfl, hJ⟩⟩
        ·replace ho := op_at ho (by rfl)
         subst ho
         have d12 : a.tmps.getD 97 undef = (.pointer (some ⟨b, off + (k - 1) * 19, none⟩)) := by have h1 := hF 12 (by decide) (hr 12 (by kernel_rfl)); exact h1.2.trans h1.1
         have d6 : a.tmps.getD 91 undef = (.bool true) := by have h1 := hF 6 (by decide) (hr 6 (by kernel_rfl)); exact h1.2.trans h1.1
         exact .inl ⟨(fun k b h => by cases h; exact ⟨6, by decide, rfl, d6⟩), .inl ⟨13, by decide, rfl, (.pointer (some ⟨b, off + (k - 1) * 19, none⟩)), W, (by simp [go_sem, Act.eval, d12, d6]), rfl, hJ⟩⟩
        ·replace ho := op_at ho (by rfl)
         subst ho
         have d13 : a.tmps.getD 98 undef = (.pointer (some ⟨b, off + (k - 1) * 19, none⟩)) := by have h1 := hF 13 (by decide) (hr 13 (by kernel_rfl)); exact h1.2.trans h1.1
         have d6 : a.tmps.getD 91 undef = (.bool true) := by have h1 := hF 6 (by decide) (hr 6 (by kernel_rfl)); exact h1.2.trans h1.1
         have cn := (hJ.cell (p := ⟨b, off + (k - 1) * 19, none⟩) hbW).trans hc1
         exact .inl ⟨(fun k b h => by cases h; exact ⟨6, by decide, rfl, d6⟩), .inl ⟨14, by decide, rfl, (.string ⟨y.name.toArray⟩), W, (by simp [go_sem, Act.eval, d13, d6, cn]), rfl, hJ⟩⟩
        ·replace ho := op_at ho (by rfl)
         subst ho
         have d6 : a.tmps.getD 91 undef = (.bool true) := by have h1 := hF 6 (by decide) (hr 6 (by kernel_rfl)); exact h1.2.trans h1.1
         have f4 : a.tmps.getD 4 undef = (.pointer (some ⟨Wp, 0, none⟩)) := hf 4 (by kernel_rfl)
         exact .inl ⟨(fun k b h => by cases h; exact ⟨6, by decide, rfl, d6⟩), .inl ⟨15, by decide, rfl, (.pointer (some ⟨Wp, 0, none⟩)), W, (by simp [go_sem, Act.eval, d6, f4]), rfl, hJ⟩⟩
        ·replace ho := op_at ho (by rfl)
         subst ho
         have d15 : a.tmps.getD 100 undef = (.pointer (some ⟨Wp, 0, none⟩)) := by have h1 := hF 15 (by decide) (hr 15 (by kernel_rfl)); exact h1.2.trans h1.1
         have d6 : a.tmps.getD 91 undef = (.bool true) := by have h1 := hF 6 (by decide) (hr 6 (by kernel_rfl)); exact h1.2.trans h1.1
         exact .inl ⟨(fun k b h => by cases h; exact ⟨6, by decide, rfl, d6⟩), .inl ⟨16, by decide, rfl, (.pointer (some ⟨Wp, 0, none⟩)), W, (by simp [go_sem, Act.eval, d15, d6]), rfl, hJ⟩⟩
        ·replace ho := op_at ho (by rfl)
         subst ho
         have d16 : a.tmps.getD 101 undef = (.pointer (some ⟨Wp, 0, none⟩)) := by have h1 := hF 16 (by decide) (hr 16 (by kernel_rfl)); exact h1.2.trans h1.1
         have d6 : a.tmps.getD 91 undef = (.bool true) := by have h1 := hF 6 (by decide) (hr 6 (by kernel_rfl)); exact h1.2.trans h1.1
         have cn := cell_of_row _ _ 0 _ _ _ (stays KX.out hJ)
         exact .inl ⟨(fun k b h => by cases h; exact ⟨6, by decide, rfl, d6⟩), .inl ⟨17, by decide, rfl, (.string ⟨x.name.toArray⟩), W, (by simp [go_sem, Act.eval, d16, d6, cn]), rfl, hJ⟩⟩
        ·replace ho := op_at ho (by rfl)
         subst ho
         have d14 : a.tmps.getD 99 undef = (.string ⟨y.name.toArray⟩) := by have h1 := hF 14 (by decide) (hr 14 (by kernel_rfl)); exact h1.2.trans h1.1
         have d17 : a.tmps.getD 102 undef = (.string ⟨x.name.toArray⟩) := by have h1 := hF 17 (by decide) (hr 17 (by kernel_rfl)); exact h1.2.trans h1.1
         have d6 : a.tmps.getD 91 undef = (.bool true) := by have h1 := hF 6 (by decide) (hr 6 (by kernel_rfl)); exact h1.2.trans h1.1
         exact .inl ⟨(fun k b h => by cases h; exact ⟨6, by decide, rfl, d6⟩), .inl ⟨18, by decide, rfl, (.bool (!true)), W, (exec_geq_str _ _ _ _ rfl _ _ (show a.eval (.tmp 99) = _ from d14) (show a.eval (.tmp 102) = _ from d17) _ HLT.out), rfl, hJ⟩⟩
        ·replace ho := op_at ho (by rfl)
         subst ho
         have d6 : a.tmps.getD 91 undef = (.bool true) := by have h1 := hF 6 (by decide) (hr 6 (by kernel_rfl)); exact h1.2.trans h1.1
         have d18 : a.tmps.getD 103 undef = (.bool (!true)) := by have h1 := hF 18 (by decide) (hr 18 (by kernel_rfl)); exact h1.2.trans h1.1
         have d3 : a.tmps.getD 88 undef = (.bool false) := by have h1 := hF 3 (by decide) (hr 3 (by kernel_rfl)); exact h1.2.trans h1.1
         exact .inl ⟨(fun k b h => by cases h; exact ⟨3, by decide, rfl, d3⟩), .inl ⟨19, by decide, rfl, (.bool false), W, (by simp [go_sem, Act.eval, d6, d18, d3]), rfl, hJ⟩⟩
        ·replace ho := op_at ho (by rfl)
         subst ho
         have d3 : a.tmps.getD 88 undef = (.bool false) := by have h1 := hF 3 (by decide) (hr 3 (by kernel_rfl)); exact h1.2.trans h1.1
         have d19 : a.tmps.getD 104 undef = (.bool false) := by have h1 := hF 19 (by decide) (hr 19 (by kernel_rfl)); exact h1.2.trans h1.1
         exact .inl ⟨(fun k b h => by cases h), .inl ⟨20, by decide, rfl, (.bool false), W, (by simp [go_sem, Act.eval, d3, d19]), rfl, hJ⟩⟩
       case finq3 =>
        intro d vs Wq3 hall hJ hF
        have h0 : vs 0 = (.agg x.cells.toArray) := hF 0 (by decide)
        have h1 : vs 1 = (.bool true) := hF 1 (by decide)
        have h2 : vs 2 = (.bool false) := hF 2 (by decide)
        have h3 : vs 3 = (.bool false) := hF 3 (by decide)
        have h4 : vs 4 = (.int .i64 (k : Int)) := hF 4 (by decide)
        have h5 : vs 5 = (.bool true) := hF 5 (by decide)
        have h6 : vs 6 = (.bool true) := hF 6 (by decide)
        have h7 : vs 7 = (.pointer (some ⟨w.heap.size, 7, none⟩)) := hF 7 (by decide)
        have h8 : vs 8 = (.slice (some ⟨b, off, none⟩) n cap) := hF 8 (by decide)
        have h9 : vs 9 = (.int .i64 (k : Int)) := hF 9 (by decide)
        have h10 : vs 10 = (.int .i64 ((k : Int) - 1)) := hF 10 (by decide)
        have h11 : vs 11 = (.pointer (some ⟨b, off + (k - 1) * 19, none⟩)) := hF 11 (by decide)
        have h12 : vs 12 = (.pointer (some ⟨b, off + (k - 1) * 19, none⟩)) := hF 12 (by decide)
        have h13 : vs 13 = (.pointer (some ⟨b, off + (k - 1) * 19, none⟩)) := hF 13 (by decide)
        have h14 : vs 14 = (.string ⟨y.name.toArray⟩) := hF 14 (by decide)
        have h15 : vs 15 = (.pointer (some ⟨Wp, 0, none⟩)) := hF 15 (by decide)
        have h16 : vs 16 = (.pointer (some ⟨Wp, 0, none⟩)) := hF 16 (by decide)
        have h17 : vs 17 = (.string ⟨x.name.toArray⟩) := hF 17 (by decide)
        have h18 : vs 18 = (.bool (!true)) := hF 18 (by decide)
        have h19 : vs 19 = (.bool false) := hF 19 (by decide)
        have h20 : vs 20 = (.bool false) := hF 20 (by decide)
        clear hF
        show (_ : Exit → Act → World → Prop) Exit.normal (puts _ vs 21 _) Wq3
        simp only [puts, h0, h1, h2, h3, h4, h5, h6, h7, h8, h9, h10, h11, h12, h13, h14, h15, h16, h17, h18, h19, h20, List.getD_cons_zero, List.getD_cons_succ]
        clear h0 h1 h2 h3 h4 h5 h6 h7 h8 h9 h10 h11 h12 h13 h14 h15 h16 h17 h18 h19 h20
        go_simp
        have hB9 : Below Wi.heap.size Wi Wq3 := hJ
        generalize Wq3 = W9 at *
        clear hJ hall
        have HG2 : Hid (∀ j, j < k + 1 → goodAt xs j = true) := fun j hj => by
         rcases Nat.lt_or_ge j k with h | h
         ·exact HG.out j h
         ·obtain rfl : j = k := by omega
          exact HGK.out
        have HB9 : Hid (Below W0.heap.size W0 W9) := HBi.out.trans (hB9.mono HBi.out.size)
        clear hB9 HG
        go_wp2
        go_roundw
        case rel => exact ⟨k + 1, by omega, by go_num, HG2, HB9⟩
        case measure => simp [intOf]; omega
     ·as_aux_lemma =>
      have hk0 : Hid (k = 0) := by show _ = _; omega
      clear hp
      have HGK : Hid (goodAt xs k = true) := by show _ = _; unfold goodAt; rw [← HX.out, ← HY.out]; rw [hfi, show (k == 0) = true by have := hk0.out; simp; omega]; rfl
      have hcon : ∀ W, Calls Tryd.prog 17 #[.agg x.cells.toArray] W fun e w' => e = .returned (.bool true) ∧ Below W.heap.size W w' := fun W => by
       have := item_any x W HNM.out
       rw [hfi] at this
       exact this
      clear hki1 htn hsub hc1 hfi
      go_upto_region 13 with (fail)
      refine wpIn_wide (n := 5).1 (wpIn_flowM (F0 := Fence.wide) (n0 := 5) (fun _ => trivial) (fun h => by cases h) (by kernel_rfl) (by kernel_rfl) 21 21 (by kernel_rfl) (fun j => ([0, 1, 2, 3, 4, 5, 6, 7, 8, 9, 10, 11, 12, 13, 14, 15, 16, 17, 18, 19, 20] : List Nat).getD j 0) (fun j => ([85, 86, 87, 88, 89, 90, 91, 92, 93, 94, 95, 96, 97, 98, 99, 100, 101, 102, 103, 104, 105] : List Nat).getD j 0) (by kernel_rfl) (by kernel_rfl) (by kernel_rfl) (by kernel_rfl) (by kernel_rfl) (by kernel_rfl) (by kernel_rfl) (fun j zv => ([(fun zv => zv = (.agg x.cells.toArray)), (fun zv => zv = (.bool true)), (fun zv => zv = (.bool false)), (fun zv => zv = (.bool false)), (fun zv => zv = (.int .i64 (k : Int))), (fun zv => zv = (.bool false)), (fun zv => zv = (.bool false)), (fun zv => zv = undef), (fun zv => zv = undef), (fun zv => zv = undef), (fun zv => zv = undef), (fun zv => zv = undef), (fun zv => zv = undef), (fun zv => zv = undef), (fun zv => zv = undef), (fun zv => zv = undef), (fun zv => zv = undef), (fun zv => zv = undef), (fun zv => zv = undef), (fun zv => zv = (.bool false)), (fun zv => zv = (.bool false))] : List (Value → Prop)).getD j (fun _ => True) zv) (fun _ _ W => Below Wi.heap.size Wi W) ?h0q4 ?stepq4 ?finq4)
      case h0q4 => exact fun _ => bdN Wi.heap.size Wi 1
      case stepq4 =>
       intro i o a W d vs hi ho hdi hJ hf hr hF
       replace hi : i < 21 := hi
       rcases (show i = 0 ∨ i = 1 ∨ i = 2 ∨ i = 3 ∨ i = 4 ∨ i = 5 ∨ i = 6 ∨ i = 7 ∨ i = 8 ∨ i = 9 ∨ i = 10 ∨ i = 11 ∨ i = 12 ∨ i = 13 ∨ i = 14 ∨ i = 15 ∨ i = 16 ∨ i = 17 ∨ i = 18 ∨ i = 19 ∨ i = 20 by omega) with rfl | rfl | rfl | rfl | rfl | rfl | rfl | rfl | rfl | rfl | rfl | rfl | rfl | rfl | rfl | rfl | rfl | rfl | rfl | rfl | rfl
       ·replace ho := op_at ho (by rfl)
        subst ho
        have f4 : a.tmps.getD 4 undef = (.pointer (some ⟨Wp, 0, none⟩)) := hf 4 (by kernel_rfl)
        exact .inl ⟨(fun k b h => by cases h), .inl ⟨0, by decide, rfl, (.agg x.cells.toArray), W, (exec_load_row 38 _ rfl Wp _ _ (.struct (Tryd.prog.fieldsOf 38)) (show a.eval (.tmp 4) = _ from f4) (stays KX.out hJ) (by kernel_rfl) rfl (by kernel_rfl)), rfl, hJ⟩⟩
       ·replace ho := op_at ho (by rfl)
        subst ho
        have d0 : a.tmps.getD 85 undef = (.agg x.cells.toArray) := by have h1 := hF 0 (by decide) (hr 0 (by kernel_rfl)); exact h1.2.trans h1.1
        refine .inl ⟨(fun k b h => by cases h), .inr (.inr ⟨1, by decide, rfl, 17, #[(.agg x.cells.toArray)], W, (by simp [go_sem, Act.eval, d0]), ?_⟩)⟩
        refine (callsIn_wide.2 (hcon W)).mono ?_
        rintro e W' ⟨rfl, hBe⟩
        exact ⟨_, rfl, rfl, hJ.trans (hBe.mono hJ.size)⟩
       ·replace ho := op_at ho (by rfl)
        subst ho
        have d1 : a.tmps.getD 86 undef = (.bool true) := by have h1 := hF 1 (by decide) (hr 1 (by kernel_rfl)); exact h1.2.trans h1.1
        exact .inl ⟨(fun k b h => by cases h), .inl ⟨2, by decide, rfl, (.bool false), W, (by simp [go_sem, Act.eval, d1]), rfl, hJ⟩⟩
       ·replace ho := op_at ho (by rfl)
        subst ho
        have d2 : a.tmps.getD 87 undef = (.bool false) := by have h1 := hF 2 (by decide) (hr 2 (by kernel_rfl)); exact h1.2.trans h1.1
        exact .inl ⟨(fun k b h => by cases h), .inl ⟨3, by decide, rfl, (.bool false), W, (by simp [go_sem, Act.eval, d2]), rfl, hJ⟩⟩
       ·replace ho := op_at ho (by rfl)
        subst ho
        have d3 : a.tmps.getD 88 undef = (.bool false) := by have h1 := hF 3 (by decide) (hr 3 (by kernel_rfl)); exact h1.2.trans h1.1
        have f3 : a.tmps.getD 3 undef = (.int .i64 (k : Int)) := hf 3 (by kernel_rfl)
        exact .inl ⟨(fun k b h => by cases h; exact ⟨3, by decide, rfl, d3⟩), .inl ⟨4, by decide, rfl, (.int .i64 (k : Int)), W, (by simp [go_sem, Act.eval, d3, f3]), rfl, hJ⟩⟩
       ·replace ho := op_at ho (by rfl)
        subst ho
        have d4 : a.tmps.getD 89 undef = (.int .i64 (k : Int)) := by have h1 := hF 4 (by decide) (hr 4 (by kernel_rfl)); exact h1.2.trans h1.1
        have d3 : a.tmps.getD 88 undef = (.bool false) := by have h1 := hF 3 (by decide) (hr 3 (by kernel_rfl)); exact h1.2.trans h1.1
        exact .inl ⟨(fun k b h => by cases h; exact ⟨3, by decide, rfl, d3⟩), .inl ⟨5, by decide, rfl, (.bool false), W, (by simp [go_sem, Act.eval, d4, d3, hk0.out]), rfl, hJ⟩⟩
       ·replace ho := op_at ho (by rfl)
        subst ho
        have d5 : a.tmps.getD 90 undef = (.bool false) := by have h1 := hF 5 (by decide) (hr 5 (by kernel_rfl)); exact h1.2.trans h1.1
        have d3 : a.tmps.getD 88 undef = (.bool false) := by have h1 := hF 3 (by decide) (hr 3 (by kernel_rfl)); exact h1.2.trans h1.1
        exact .inl ⟨(fun k b h => by cases h; exact ⟨3, by decide, rfl, d3⟩), .inl ⟨6, by decide, rfl, (.bool false), W, (by simp [go_sem, Act.eval, d5, d3]), rfl, hJ⟩⟩
       ·replace ho := op_at ho (by rfl)
        subst ho
        have d6 : a.tmps.getD 91 undef = (.bool false) := by have h1 := hF 6 (by decide) (hr 6 (by kernel_rfl)); exact h1.2.trans h1.1
        exact .inr ⟨6, true, 6, rfl, by decide, rfl, (fun hc => by have hc2 := d6.symm.trans hc; first | (cases hc2; done) | simp [undef] at hc2), .inl ⟨7, by decide, rfl, rfl, hJ⟩⟩
       ·replace ho := op_at ho (by rfl)
        subst ho
        have d6 : a.tmps.getD 91 undef = (.bool false) := by have h1 := hF 6 (by decide) (hr 6 (by kernel_rfl)); exact h1.2.trans h1.1
        exact .inr ⟨6, true, 6, rfl, by decide, rfl, (fun hc => by have hc2 := d6.symm.trans hc; first | (cases hc2; done) | simp [undef] at hc2), .inl ⟨8, by decide, rfl, rfl, hJ⟩⟩
       ·replace ho := op_at ho (by rfl)
        subst ho
        have d6 : a.tmps.getD 91 undef = (.bool false) := by have h1 := hF 6 (by decide) (hr 6 (by kernel_rfl)); exact h1.2.trans h1.1
        exact .inr ⟨6, true, 6, rfl, by decide, rfl, (fun hc => by have hc2 := d6.symm.trans hc; first | (cases hc2; done) | simp [undef] at hc2), .inl ⟨9, by decide, rfl, rfl, hJ⟩⟩
       ·replace ho := op_at ho (by rfl)
        subst ho
        have d6 : a.tmps.getD 91 undef = (.bool false) := by have h1 := hF 6 (by decide) (hr 6 (by kernel_rfl)); exact h1.2.trans h1.1
        exact .inr ⟨6, true, 6, rfl, by decide, rfl, (fun hc => by have hc2 := d6.symm.trans hc; first | (cases hc2; done) | simp [undef] at hc2), .inl ⟨10, by decide, rfl, rfl, hJ⟩⟩
       ·replace ho := op_at ho (by rfl)
        subst ho
        have d6 : a.tmps.getD 91 undef = (.bool false) := by have h1 := hF 6 (by decide) (hr 6 (by kernel_rfl)); exact h1.2.trans h1.1
        exact .inr ⟨6, true, 6, rfl, by decide, rfl, (fun hc => by have hc2 := d6.symm.trans hc; first | (cases hc2; done) | simp [undef] at hc2), .inl ⟨11, by decide, rfl, rfl, hJ⟩⟩
       ·replace ho := op_at ho (by rfl)
        subst ho
        have d6 : a.tmps.getD 91 undef = (.bool false) := by have h1 := hF 6 (by decide) (hr 6 (by kernel_rfl)); exact h1.2.trans h1.1
        exact .inr ⟨6, true, 6, rfl, by decide, rfl, (fun hc => by have hc2 := d6.symm.trans hc; first | (cases hc2; done) | simp [undef] at hc2), .inl ⟨12, by decide, rfl, rfl, hJ⟩⟩
       ·replace ho := op_at ho (by rfl)
        subst ho
        have d6 : a.tmps.getD 91 undef = (.bool false) := by have h1 := hF 6 (by decide) (hr 6 (by kernel_rfl)); exact h1.2.trans h1.1
        exact .inr ⟨6, true, 6, rfl, by decide, rfl, (fun hc => by have hc2 := d6.symm.trans hc; first | (cases hc2; done) | simp [undef] at hc2), .inl ⟨13, by decide, rfl, rfl, hJ⟩⟩
       ·replace ho := op_at ho (by rfl)
        subst ho
        have d6 : a.tmps.getD 91 undef = (.bool false) := by have h1 := hF 6 (by decide) (hr 6 (by kernel_rfl)); exact h1.2.trans h1.1
        exact .inr ⟨6, true, 6, rfl, by decide, rfl, (fun hc => by have hc2 := d6.symm.trans hc; first | (cases hc2; done) | simp [undef] at hc2), .inl ⟨14, by decide, rfl, rfl, hJ⟩⟩
       ·replace ho := op_at ho (by rfl)
        subst ho
        have d6 : a.tmps.getD 91 undef = (.bool false) := by have h1 := hF 6 (by decide) (hr 6 (by kernel_rfl)); exact h1.2.trans h1.1
        exact .inr ⟨6, true, 6, rfl, by decide, rfl, (fun hc => by have hc2 := d6.symm.trans hc; first | (cases hc2; done) | simp [undef] at hc2), .inl ⟨15, by decide, rfl, rfl, hJ⟩⟩
       ·replace ho := op_at ho (by rfl)
        subst ho
        have d6 : a.tmps.getD 91 undef = (.bool false) := by have h1 := hF 6 (by decide) (hr 6 (by kernel_rfl)); exact h1.2.trans h1.1
        exact .inr ⟨6, true, 6, rfl, by decide, rfl, (fun hc => by have hc2 := d6.symm.trans hc; first | (cases hc2; done) | simp [undef] at hc2), .inl ⟨16, by decide, rfl, rfl, hJ⟩⟩
       ·replace ho := op_at ho (by rfl)
        subst ho
        have d6 : a.tmps.getD 91 undef = (.bool false) := by have h1 := hF 6 (by decide) (hr 6 (by kernel_rfl)); exact h1.2.trans h1.1
        exact .inr ⟨6, true, 6, rfl, by decide, rfl, (fun hc => by have hc2 := d6.symm.trans hc; first | (cases hc2; done) | simp [undef] at hc2), .inl ⟨17, by decide, rfl, rfl, hJ⟩⟩
       ·replace ho := op_at ho (by rfl)
        subst ho
        have d6 : a.tmps.getD 91 undef = (.bool false) := by have h1 := hF 6 (by decide) (hr 6 (by kernel_rfl)); exact h1.2.trans h1.1
        exact .inr ⟨6, true, 6, rfl, by decide, rfl, (fun hc => by have hc2 := d6.symm.trans hc; first | (cases hc2; done) | simp [undef] at hc2), .inl ⟨18, by decide, rfl, rfl, hJ⟩⟩
       ·replace ho := op_at ho (by rfl)
        subst ho
        have d6 : a.tmps.getD 91 undef = (.bool false) := by have h1 := hF 6 (by decide) (hr 6 (by kernel_rfl)); exact h1.2.trans h1.1
        have d3 : a.tmps.getD 88 undef = (.bool false) := by have h1 := hF 3 (by decide) (hr 3 (by kernel_rfl)); exact h1.2.trans h1.1
        exact .inl ⟨(fun k b h => by cases h; exact ⟨3, by decide, rfl, d3⟩), .inl ⟨19, by decide, rfl, (.bool false), W, (by simp [go_sem, Act.eval, d6, d3]), rfl, hJ⟩⟩
       ·replace ho := op_at ho (by rfl)
        subst ho
        have d3 : a.tmps.getD 88 undef = (.bool false) := by have h1 := hF 3 (by decide) (hr 3 (by kernel_rfl)); exact h1.2.trans h1.1
        have d19 : a.tmps.getD 104 undef = (.bool false) := by have h1 := hF 19 (by decide) (hr 19 (by kernel_rfl)); exact h1.2.trans h1.1
        exact .inl ⟨(fun k b h => by cases h), .inl ⟨20, by decide, rfl, (.bool false), W, (by simp [go_sem, Act.eval, d3, d19]), rfl, hJ⟩⟩
      case finq4 =>
       intro d vs Wq4 hall hJ hF
       have h0 : vs 0 = (.agg x.cells.toArray) := hF 0 (by decide)
       have h1 : vs 1 = (.bool true) := hF 1 (by decide)
       have h2 : vs 2 = (.bool false) := hF 2 (by decide)
       have h3 : vs 3 = (.bool false) := hF 3 (by decide)
       have h4 : vs 4 = (.int .i64 (k : Int)) := hF 4 (by decide)
       have h5 : vs 5 = (.bool false) := hF 5 (by decide)
       have h6 : vs 6 = (.bool false) := hF 6 (by decide)
       have h7 : vs 7 = undef := hF 7 (by decide)
       have h8 : vs 8 = undef := hF 8 (by decide)
       have h9 : vs 9 = undef := hF 9 (by decide)
       have h10 : vs 10 = undef := hF 10 (by decide)
       have h11 : vs 11 = undef := hF 11 (by decide)
       have h12 : vs 12 = undef := hF 12 (by decide)
       have h13 : vs 13 = undef := hF 13 (by decide)
       have h14 : vs 14 = undef := hF 14 (by decide)
       have h15 : vs 15 = undef := hF 15 (by decide)
       have h16 : vs 16 = undef := hF 16 (by decide)
       have h17 : vs 17 = undef := hF 17 (by decide)
       have h18 : vs 18 = undef := hF 18 (by decide)
       have h19 : vs 19 = (.bool false) := hF 19 (by decide)
       have h20 : vs 20 = (.bool false) := hF 20 (by decide)
       clear hF
       show (_ : Exit → Act → World → Prop) Exit.normal (puts _ vs 21 _) Wq4
       simp only [puts, h0, h1, h2, h3, h4, h5, h6, h7, h8, h9, h10, h11, h12, h13, h14, h15, h16, h17, h18, h19, h20, List.getD_cons_zero, List.getD_cons_succ]
       clear h0 h1 h2 h3 h4 h5 h6 h7 h8 h9 h10 h11 h12 h13 h14 h15 h16 h17 h18 h19 h20
       go_simp
       have hB9 : Below Wi.heap.size Wi Wq4 := hJ
       generalize Wq4 = W9 at *
       clear hJ hall
       have HG2 : Hid (∀ j, j < k + 1 → goodAt xs j = true) := fun j hj => by
        rcases Nat.lt_or_ge j k with h | h
        ·exact HG.out j h
        ·obtain rfl : j = k := by omega
         exact HGK.out
       have HB9 : Hid (Below W0.heap.size W0 W9) := HBi.out.trans (hB9.mono HBi.out.size)
       clear hB9 HG
       go_wp2
       go_roundw
       case rel => exact ⟨k + 1, by omega, by go_num, HG2, HB9⟩
       case measure => simp [intOf]; omega
   ·have hr := HRB.out
    rw [itemsB_t (fun j hj => HG.out j (by have := HN.out; omega))] at hr
    simp at hr
    have LF := HL0.out.trans (HB.out.mono HL0.out.size)
    have c7 := cell_of_row _ _ 7 _ _ _ (stays KB1.out HB.out)
    clear HG HB
    by_cases h8 : n ≤ 8
    ·have q8 : decide ((n : Int) ≤ 8) = true := by simp; omega
     rw [show decide (n ≤ 8) = true by simp; omega] at hr
     subst hr
     go_wp2
     go_ret
     exact ⟨rfl, LF⟩
    ·have q8 : decide ((n : Int) ≤ 8) = false := by simp; omega
     rw [show decide (n ≤ 8) = false by simp; omega] at hr
     subst hr
     go_wp2
     go_ret
     exact ⟨rfl, LF⟩
 have hk3' : (kind != 3) = true := by simpa using hk3
 have hk4' : (kind != 4) = true := by simpa using hk4
 rw [if_neg (by omega)] at HRB
 clear hk1 hk3 hk4
 by_cases hn0 : n = 0
 ·have q0 : decide ((n : Int) = 0) = true := by simp; omega
  have q1 : ((n : Int) == 0) = true := by simp; omega
  rw [show (n == 0) = true by simp; omega] at HRB
  clear hn0
  as_aux_lemma =>
  go_enter Tryd.func11, Tryd.ntmps11
  go_wp2_with (first | (with_reducible refine (hf _).mono ?_; rintro e w' ⟨rfl, rfl⟩) | (with_reducible refine (ht _).mono ?_; rintro e w' ⟨rfl, rfl⟩) | (with_reducible refine (hb _).mono ?_; rintro e w' ⟨rfl, rfl⟩) | (with_reducible refine (hl _).mono ?_; rintro e w' ⟨rfl, rfl⟩) | (with_reducible refine (he1 _).mono ?_; rintro e w' ⟨rfl, rfl⟩) | (with_reducible refine (he2 _).mono ?_; rintro e w' ⟨rfl, rfl⟩))
  go_ret
  have hr := HRB.out
  try simp at hr
  subst hr
  exact ⟨by first | rfl | simp, (Below.refl _ _).alloc (Nat.le_refl _) _⟩
 ·have q0 : decide ((n : Int) = 0) = false := by simp; omega
  have q1 : ((n : Int) == 0) = false := by simp; omega
  rw [show (n == 0) = false by simp; omega] at HRB
  clear hn0
  as_aux_lemma =>
  go_enter Tryd.func11, Tryd.ntmps11
  go_wp2_with (first | (with_reducible refine (hf _).mono ?_; rintro e w' ⟨rfl, rfl⟩) | (with_reducible refine (ht _).mono ?_; rintro e w' ⟨rfl, rfl⟩) | (with_reducible refine (hb _).mono ?_; rintro e w' ⟨rfl, rfl⟩) | (with_reducible refine (hl _).mono ?_; rintro e w' ⟨rfl, rfl⟩) | (with_reducible refine (he1 _).mono ?_; rintro e w' ⟨rfl, rfl⟩) | (with_reducible refine (he2 _).mono ?_; rintro e w' ⟨rfl, rfl⟩))
  go_ret
  have hr := HRB.out
  try simp at hr
  subst hr
  exact ⟨by first | rfl | simp, (Below.refl _ _).alloc (Nat.le_refl _) _⟩

end Go.Proofs.YtgnpjenpehfjbaaDoor

