/- Wire: the document's Body, Encode (by program: wip/tools/gen_wire25.py). -/
import Derived.Test.YtgnpjenpehfjbaaDoorMJ
import Derived.Test.YtgnpjenpehfjbaaDoorMG
set_option linter.unusedSimpArgs false
set_option linter.unusedVariables false
namespace Go.Proofs.YtgnpjenpehfjbaaDoor
open Go.RowKit

def itemR (x : Itm) : List UInt8 := (vint x.name.length ++ x.name) ++ (vint (numW x.epoch) ++ (vint (numW x.maker) ++ (vint (flagN x.alive) ++ (vint (numW x.kind) ++ (vint (numW x.scale) ++ (vint (numW x.ver) ++ (vint (numW x.writer) ++ (vint (zig x.flow) ++ (vint (flagN x.hasRest) ++ (vint (zig x.rest) ++ (extR x.mn ++ extR x.mx)))))))))))
def headR (p : Pkt) : List Int := [p.kind, p.frm, p.to, p.boot, p.life, p.echo, p.elife]
def bodyR (p : Pkt) : List UInt8 := (headR p).flatMap (fun x => vint (numW x)) ++ (vint (numW p.items.length) ++ p.items.flatMap itemR)
def I64 (x : Int) : Prop := -9223372036854775808 ≤ x ∧ x < 9223372036854775808
structure Itm64 (x : Itm) : Prop where
  flow : I64 x.flow
  rest : I64 x.rest
  mn : I64 x.mn.val
  mx : I64 x.mx.val
theorem I64.len {x : Int} (h : I64 x) : (vint (zig x)).length ≤ 10 := zig_len h.1 h.2
theorem extR_len {e : Xt} (h : I64 e.val) : (extR e).length ≤ 40 := by
  unfold extR
  simp only [List.length_append]
  have := flag_len e.has
  have := h.len
  have := num_len e.org
  have := num_len e.age
  omega
theorem itemR_len {x : Itm} (h : Itm64 x) : (itemR x).length ≤ 200 + x.name.length := by
  unfold itemR
  simp only [List.length_append]
  have := num_len x.epoch
  have := num_len x.maker
  have := num_len x.kind
  have := num_len x.scale
  have := num_len x.ver
  have := num_len x.writer
  have := flag_len x.alive
  have := flag_len x.hasRest
  have := h.flow.len
  have := h.rest.len
  have := extR_len h.mn
  have := extR_len h.mx
  have h1 : (vint x.name.length).length ≤ 10 ∨ True := .inr trivial
  have h2 : (vint x.name.length).length ≤ 11 := (vintF_len 10 _).2
  omega
def bodyP (p : Pkt) (k : Nat) : List UInt8 := ((headR p).flatMap (fun x => vint (numW x)) ++ vint (numW p.items.length)) ++ (p.items.take k).flatMap itemR
theorem bodyP_zero (p : Pkt) : bodyP p 0 = (headR p).flatMap (fun x => vint (numW x)) ++ vint (numW p.items.length) := by simp [bodyP]
theorem bodyP_succ (p : Pkt) (k : Nat) (h : k < p.items.length) : bodyP p (k + 1) = bodyP p k ++ itemR (p.items.getD k nilI) := by
  have e : p.items.take (k + 1) = p.items.take k ++ [p.items.getD k nilI] := by
    rw [List.take_add_one, getD_some h]; rfl
  unfold bodyP
  rw [e, List.flatMap_append, List.append_assoc]
  simp
theorem bodyP_all (p : Pkt) : bodyP p p.items.length = bodyR p := by
  unfold bodyP bodyR
  rw [List.take_length, List.append_assoc]
theorem bodyP_le (p : Pkt) (k : Nat) (h : k < p.items.length) : (bodyP p k).length + (itemR (p.items.getD k nilI)).length ≤ (bodyR p).length := by
  rw [← bodyP_all, ← List.length_append, ← bodyP_succ p k h]
  unfold bodyP
  simp only [List.length_append]
  have : ((p.items.take (k + 1)).flatMap itemR).length ≤ ((p.items.take p.items.length).flatMap itemR).length := by
    rw [List.take_length]
    conv => rhs; rw [← List.take_append_drop (k + 1) p.items, List.flatMap_append, List.length_append]
    omega
  omega
theorem headR_len (p : Pkt) : ((headR p).flatMap (fun x => vint (numW x))).length ≤ 70 := by
  simp only [headR, List.flatMap_cons, List.flatMap_nil, List.length_append, List.length_nil]
  have := num_len p.kind
  have := num_len p.frm
  have := num_len p.to
  have := num_len p.boot
  have := num_len p.life
  have := num_len p.echo
  have := num_len p.elife
  omega
def hpre (p : Pkt) (k : Nat) : List UInt8 := ((headR p).take k).flatMap (fun x => vint (numW x))

set_option maxRecDepth 100000 in
set_option maxHeartbeats 8000000 in
theorem body_any (p : Pkt) (v : Value) (w : World) (hv : Ims w w.heap.size v p.items) (hok : ∀ x ∈ p.items, Itm64 x) (hlen : (bodyR p).length ≤ 999990000) :
    Calls Tryd.prog 37 #[.agg (p.cells v).toArray] w fun e w' => ∃ u, e = .returned u ∧ Own w' w.heap.size u (bodyR p) ∧ Below w.heap.size w w' := by
  obtain ⟨ao, cap, rfl, hcap, hmx⟩ := hv.slice
  have HV := Lib.hid hv
  obtain ⟨n, hn⟩ : ∃ n, n = p.items.length := ⟨_, rfl⟩
  have hmx' : n ≤ 9223372036854775807 := by rw [hn]; unfold maxLen at hmx; exact hmx
  rw [← hn] at HV ⊢
  have HN := Lib.hid hn
  have HOK := Lib.hid hok
  have HLEN := Lib.hid hlen
  obtain ⟨kind, hk1⟩ : ∃ x, x = p.kind := ⟨_, rfl⟩
  obtain ⟨frm, hk2⟩ : ∃ x, x = p.frm := ⟨_, rfl⟩
  obtain ⟨to, hk3⟩ : ∃ x, x = p.to := ⟨_, rfl⟩
  obtain ⟨boot, hk4⟩ : ∃ x, x = p.boot := ⟨_, rfl⟩
  obtain ⟨life, hk5⟩ : ∃ x, x = p.life := ⟨_, rfl⟩
  obtain ⟨echo, hk6⟩ : ∃ x, x = p.echo := ⟨_, rfl⟩
  obtain ⟨elife, hk7⟩ : ∃ x, x = p.elife := ⟨_, rfl⟩
  have hpc : (p.cells (.slice ao n cap)).toArray = #[.int .i64 kind, .int .i64 frm, .int .i64 to, .int .i64 boot, .int .i64 life, .int .i64 echo, .int .i64 elife, .slice ao n cap] := by rw [hk1, hk2, hk3, hk4, hk5, hk6, hk7]
  have HHR : Hid (headR p = [kind, frm, to, boot, life, echo, elife]) := by show _ = _; rw [hk1, hk2, hk3, hk4, hk5, hk6, hk7]; rfl
  obtain ⟨g0, kb⟩ := new_block w (.cells #[.int .i64 kind, .int .i64 frm, .int .i64 to, .int .i64 boot, .int .i64 life, .int .i64 echo, .int .i64 elife, .slice ao n cap] 24)
  rw [hpc]
  have LB := Lib.hid g0
  have KB := Lib.hid kb
  clear g0 kb hpc hv hn hmx hcap hk1 hk2 hk3 hk4 hk5 hk6 hk7 hok hlen
  obtain ⟨W0, hW0⟩ : ∃ W, W = w.alloc (.cells #[.int .i64 kind, .int .i64 frm, .int .i64 to, .int .i64 boot, .int .i64 life, .int .i64 echo, .int .i64 elife, .slice ao n cap] 24) := ⟨_, rfl⟩
  have a0 := cell_of_row _ _ 0 _ _ _ KB.out
  have a1 := cell_of_row _ _ 1 _ _ _ KB.out
  have a2 := cell_of_row _ _ 2 _ _ _ KB.out
  have a3 := cell_of_row _ _ 3 _ _ _ KB.out
  have a4 := cell_of_row _ _ 4 _ _ _ KB.out
  have a5 := cell_of_row _ _ 5 _ _ _ KB.out
  have a6 := cell_of_row _ _ 6 _ _ _ KB.out
  go_enter Tryd.func37, Tryd.ntmps37
  go_wp2_with (fail)
  clear a0 a1 a2 a3 a4 a5 a6
  go_loopw [3, 24] (fun b i wr => ∃ k : Nat, k ≤ 7 ∧ i = .int .i64 (k : Int) ∧ Hid (Own wr w.heap.size b (hpre p k)) ∧ Hid (Below w.heap.size w wr) ∧ Hid (wr.heap[w.heap.size]? = some (.cells #[.int .i64 kind, .int .i64 frm, .int .i64 to, .int .i64 boot, .int .i64 life, .int .i64 echo, .int .i64 elife, .slice ao n cap] 24))) (fun _ i _ => 7 - (intOf i).toNat)
  case atStart => exact ⟨0, by omega, rfl, Own.nil _ _, LB, KB⟩
  case round =>
    obtain ⟨k, hk, rfl, HO, LW, KW⟩ := hrel
    by_cases hlt : k < 7
    · have hstep : ∀ x, (headR p)[k]? = some x → ∀ u, Calls Tryd.prog 38 #[u3, .int .u64 (numW x : Int)] wr u → Calls Tryd.prog 38 #[u3, .int .u64 (numW x : Int)] wr u := fun _ _ _ h => h
      have hcon := fun x => ref_Number u3 _ (numW x) wr (numW_lt x) HO.out.bts (by
        have h1 := headR_len p
        have h2 : (hpre p k).length ≤ ((headR p).flatMap (fun x => vint (numW x))).length := by
          unfold hpre
          conv => rhs; rw [← List.take_append_drop k (headR p), List.flatMap_append, List.length_append]
          omega
        omega)
      have hnx : ∀ x, (headR p)[k]? = some x → hpre p (k + 1) = hpre p k ++ vint (numW x) := fun x hx => by
        unfold hpre
        rw [List.take_add_one, hx, List.flatMap_append]
        simp
      have HCON := Lib.hid hcon
      have HNX := Lib.hid hnx
      clear hcon hnx hstep hk
      rcases (show k = 0 ∨ k = 1 ∨ k = 2 ∨ k = 3 ∨ k = 4 ∨ k = 5 ∨ k = 6 by omega) with rfl | rfl | rfl | rfl | rfl | rfl | rfl
      · have w1 := numW_wrap kind
        have w2 := numW_mod kind
        have hc := Lib.hid (HCON.out kind)
        have hx := Lib.hid (HNX.out kind (by rw [HHR.out]; rfl))
        clear HCON HNX hlt
        go_upto_region 4 with (fail)
        refine wp_region_lit ?_
        refine wpList_run (v := .int .i64 kind) (w' := wr) rfl (by kernel_rfl) ?_
        go_wp2_with (fail)
        with_reducible refine hc.out.mono ?_
        rintro e w5 ⟨u, rfl, ho, hB⟩
        rw [← hx.out] at ho
        have HO2 := Lib.hid (ho.mono LW.out.size)
        have LW2 := Lib.hid (LW.out.trans (hB.mono LW.out.size))
        have KW2 := Lib.hid (stays KW.out hB)
        clear ho hB hc hx w1 w2
        go_wp2_with (fail)
        go_roundw
        case rel => exact ⟨1, by omega, by go_num, HO2, LW2, KW2⟩
        case measure => simp [intOf] <;> omega
      · have w1 := numW_wrap frm
        have w2 := numW_mod frm
        have hc := Lib.hid (HCON.out frm)
        have hx := Lib.hid (HNX.out frm (by rw [HHR.out]; rfl))
        clear HCON HNX hlt
        go_upto_region 4 with (fail)
        refine wp_region_lit ?_
        refine wpList_run (v := .int .i64 frm) (w' := wr) rfl (by kernel_rfl) ?_
        go_wp2_with (fail)
        with_reducible refine hc.out.mono ?_
        rintro e w5 ⟨u, rfl, ho, hB⟩
        rw [← hx.out] at ho
        have HO2 := Lib.hid (ho.mono LW.out.size)
        have LW2 := Lib.hid (LW.out.trans (hB.mono LW.out.size))
        have KW2 := Lib.hid (stays KW.out hB)
        clear ho hB hc hx w1 w2
        go_wp2_with (fail)
        go_roundw
        case rel => exact ⟨2, by omega, by go_num, HO2, LW2, KW2⟩
        case measure => simp [intOf] <;> omega
      · have w1 := numW_wrap to
        have w2 := numW_mod to
        have hc := Lib.hid (HCON.out to)
        have hx := Lib.hid (HNX.out to (by rw [HHR.out]; rfl))
        clear HCON HNX hlt
        go_upto_region 4 with (fail)
        refine wp_region_lit ?_
        refine wpList_run (v := .int .i64 to) (w' := wr) rfl (by kernel_rfl) ?_
        go_wp2_with (fail)
        with_reducible refine hc.out.mono ?_
        rintro e w5 ⟨u, rfl, ho, hB⟩
        rw [← hx.out] at ho
        have HO2 := Lib.hid (ho.mono LW.out.size)
        have LW2 := Lib.hid (LW.out.trans (hB.mono LW.out.size))
        have KW2 := Lib.hid (stays KW.out hB)
        clear ho hB hc hx w1 w2
        go_wp2_with (fail)
        go_roundw
        case rel => exact ⟨3, by omega, by go_num, HO2, LW2, KW2⟩
        case measure => simp [intOf] <;> omega
      · have w1 := numW_wrap boot
        have w2 := numW_mod boot
        have hc := Lib.hid (HCON.out boot)
        have hx := Lib.hid (HNX.out boot (by rw [HHR.out]; rfl))
        clear HCON HNX hlt
        go_upto_region 4 with (fail)
        refine wp_region_lit ?_
        refine wpList_run (v := .int .i64 boot) (w' := wr) rfl (by kernel_rfl) ?_
        go_wp2_with (fail)
        with_reducible refine hc.out.mono ?_
        rintro e w5 ⟨u, rfl, ho, hB⟩
        rw [← hx.out] at ho
        have HO2 := Lib.hid (ho.mono LW.out.size)
        have LW2 := Lib.hid (LW.out.trans (hB.mono LW.out.size))
        have KW2 := Lib.hid (stays KW.out hB)
        clear ho hB hc hx w1 w2
        go_wp2_with (fail)
        go_roundw
        case rel => exact ⟨4, by omega, by go_num, HO2, LW2, KW2⟩
        case measure => simp [intOf] <;> omega
      · have w1 := numW_wrap life
        have w2 := numW_mod life
        have hc := Lib.hid (HCON.out life)
        have hx := Lib.hid (HNX.out life (by rw [HHR.out]; rfl))
        clear HCON HNX hlt
        go_upto_region 4 with (fail)
        refine wp_region_lit ?_
        refine wpList_run (v := .int .i64 life) (w' := wr) rfl (by kernel_rfl) ?_
        go_wp2_with (fail)
        with_reducible refine hc.out.mono ?_
        rintro e w5 ⟨u, rfl, ho, hB⟩
        rw [← hx.out] at ho
        have HO2 := Lib.hid (ho.mono LW.out.size)
        have LW2 := Lib.hid (LW.out.trans (hB.mono LW.out.size))
        have KW2 := Lib.hid (stays KW.out hB)
        clear ho hB hc hx w1 w2
        go_wp2_with (fail)
        go_roundw
        case rel => exact ⟨5, by omega, by go_num, HO2, LW2, KW2⟩
        case measure => simp [intOf] <;> omega
      · have w1 := numW_wrap echo
        have w2 := numW_mod echo
        have hc := Lib.hid (HCON.out echo)
        have hx := Lib.hid (HNX.out echo (by rw [HHR.out]; rfl))
        clear HCON HNX hlt
        go_upto_region 4 with (fail)
        refine wp_region_lit ?_
        refine wpList_run (v := .int .i64 echo) (w' := wr) rfl (by kernel_rfl) ?_
        go_wp2_with (fail)
        with_reducible refine hc.out.mono ?_
        rintro e w5 ⟨u, rfl, ho, hB⟩
        rw [← hx.out] at ho
        have HO2 := Lib.hid (ho.mono LW.out.size)
        have LW2 := Lib.hid (LW.out.trans (hB.mono LW.out.size))
        have KW2 := Lib.hid (stays KW.out hB)
        clear ho hB hc hx w1 w2
        go_wp2_with (fail)
        go_roundw
        case rel => exact ⟨6, by omega, by go_num, HO2, LW2, KW2⟩
        case measure => simp [intOf] <;> omega
      · have w1 := numW_wrap elife
        have w2 := numW_mod elife
        have hc := Lib.hid (HCON.out elife)
        have hx := Lib.hid (HNX.out elife (by rw [HHR.out]; rfl))
        clear HCON HNX hlt
        go_upto_region 4 with (fail)
        refine wp_region_lit ?_
        refine wpList_run (v := .int .i64 elife) (w' := wr) rfl (by kernel_rfl) ?_
        go_wp2_with (fail)
        with_reducible refine hc.out.mono ?_
        rintro e w5 ⟨u, rfl, ho, hB⟩
        rw [← hx.out] at ho
        have HO2 := Lib.hid (ho.mono LW.out.size)
        have LW2 := Lib.hid (LW.out.trans (hB.mono LW.out.size))
        have KW2 := Lib.hid (stays KW.out hB)
        clear ho hB hc hx w1 w2
        go_wp2_with (fail)
        go_roundw
        case rel => exact ⟨7, by omega, by go_num, HO2, LW2, KW2⟩
        case measure => simp [intOf] <;> omega
    · have hk7 : k = 7 := by omega
      subst hk7
      have hh : hpre p 7 = (headR p).flatMap (fun x => vint (numW x)) := by unfold hpre; rw [HHR.out]; rfl
      have ho := HO.out
      rw [hh] at ho
      have c7 := cell_of_row _ _ 7 _ _ _ KW.out
      have hcon := ref_Number u3 _ (numW p.items.length) wr (numW_lt _) ho.bts (by have := headR_len p; omega)
      rw [← HN.out] at hcon
      have w1 := numW_wrap (n : Int)
      have w2 := numW_mod (n : Int)
      have HCON := Lib.hid hcon
      clear hcon ho hh hlt hk HO
      go_wp2_with (fail)
      with_reducible refine HCON.out.mono ?_
      rintro e w5 ⟨u, rfl, ho, hB⟩
      have hb0 := bodyP_zero p
      rw [← HN.out] at hb0
      rw [← hb0] at ho
      have HO2 := Lib.hid (ho.mono LW.out.size)
      have LW2 := Lib.hid (LW.out.trans (hB.mono LW.out.size))
      have KW2 := Lib.hid (stays KW.out hB)
      clear ho hB c7 w1 w2 hb0 HCON KW LW
      go_wp2_with (fail)
      go_loopw [3, 6] (fun b i wr => ∃ k : Nat, k ≤ n ∧ i = .int .i64 (k : Int) ∧ Hid (Own wr w.heap.size b (bodyP p k)) ∧ Hid (Below w.heap.size w wr) ∧ Hid (wr.heap[w.heap.size]? = some (.cells #[.int .i64 kind, .int .i64 frm, .int .i64 to, .int .i64 boot, .int .i64 life, .int .i64 echo, .int .i64 elife, .slice ao n cap] 24))) (fun _ i _ => n - (intOf i).toNat)
      case atStart => exact ⟨0, by omega, rfl, HO2, LW2, KW2⟩
      case round =>
        obtain ⟨k, hk, rfl, HO, LW, KW⟩ := hrel
        have c7 := cell_of_row _ _ 7 _ _ _ KW.out
        by_cases hlt : k < n
        · have hkx : k < p.items.length := by have := HN.out; omega
          obtain ⟨ib, off, hao, hib, hcc⟩ := (HV.out.below LW.out (Nat.le_refl _)).at k hkx
          subst hao
          obtain ⟨x, hx⟩ : ∃ x, x = p.items.getD k nilI := ⟨_, rfl⟩
          have hrk := hcc k x (by rw [hx]; exact getD_some hkx)
          have HX := Lib.hid hx
          have HXO : Hid (Itm64 x) := by show Itm64 x; rw [hx]; exact HOK.out _ (List.mem_of_getElem? (getD_some hkx))
          have HLN : Hid ((bodyP p k).length + (itemR x).length ≤ 999990000) := by show _ ≤ _; rw [hx]; exact Nat.le_trans (bodyP_le p k hkx) HLEN.out
          have hki : 0 ≤ (k : Int) ∧ (k : Int) < (n : Int) := by omega
          obtain ⟨g1, kx⟩ := new_block wr (.cells x.cells.toArray 38)
          obtain ⟨g2, kc⟩ := new_block (wr.alloc (.cells x.cells.toArray 38)) (.cells #[.string ⟨x.name.toArray⟩, .int .i64 x.epoch, .int .i64 x.maker, .bool x.alive, .int .i64 x.kind, .int .i64 x.scale] 32)
          have L6 := Lib.hid (g1.trans (g2.mono g1.size))
          have KX := Lib.hid (stays kx g2)
          have KC := Lib.hid kc
          have hr6 : (wr.alloc (.cells x.cells.toArray 38)).rangeAt wr.heap.size 0 [.string ⟨x.name.toArray⟩, .int .i64 x.epoch, .int .i64 x.maker, .bool x.alive, .int .i64 x.kind, .int .i64 x.scale] := fun j u hu => by
            rw [cell_of_row _ _ _ _ _ _ kx]
            have hj : j < 6 := (List.getElem?_eq_some_iff.1 hu).1
            rcases (show j = 0 ∨ j = 1 ∨ j = 2 ∨ j = 3 ∨ j = 4 ∨ j = 5 by omega) with rfl | rfl | rfl | rfl | rfl | rfl <;> exact hu
          clear hx hcc hkx g1 g2 kx kc
          go_upto_region 11 with (fail)
          refine wp_region_lit ?_
          refine wpList_run (v := .pointer (some ⟨w.heap.size, 7, none⟩)) (w' := wr) rfl (by simp [go_sem, Act.eval]) ?_
          refine wpList_run (v := .slice (some ⟨ib, off, none⟩) n cap) (w' := wr) rfl (by simp [go_sem, Act.eval, c7]) ?_
          refine wpList_run (v := .int .i64 (k : Int)) (w' := wr) rfl (by simp [go_sem, Act.eval]) ?_
          refine wpList_run (v := .pointer (some ⟨ib, off + k * 19, none⟩)) (w' := wr) rfl (by simp [go_sem, Act.eval, hki]) ?_
          refine wpList_run (w' := wr) rfl (exec_load_mid 38 _ rfl ib (off + k * 19) x.cells (.struct (Tryd.prog.fieldsOf 38)) (by kernel_rfl) hrk (by kernel_rfl) rfl (by kernel_rfl)) ?_
          refine wpList_run (v := .pointer (some ⟨wr.heap.size, 0, none⟩)) (w' := wr.alloc (.cells #[.string ⟨#[]⟩, .int .i64 0, .int .i64 0, .bool false, .int .i64 0, .int .i64 0, .int .i64 0, .int .i64 0, .int .i64 0, .bool false, .int .i64 0, .bool false, .int .i64 0, .int .i64 0, .int .i64 0, .bool false, .int .i64 0, .int .i64 0, .int .i64 0] 38)) rfl (by kernel_rfl) ?_
          refine wpList_store_new rfl rfl 38 _ _ rfl wr #[.string ⟨#[]⟩, .int .i64 0, .int .i64 0, .bool false, .int .i64 0, .int .i64 0, .int .i64 0, .int .i64 0, .int .i64 0, .bool false, .int .i64 0, .bool false, .int .i64 0, .int .i64 0, .int .i64 0, .bool false, .int .i64 0, .int .i64 0, .int .i64 0] x.cells.toArray (by kernel_rfl) (by kernel_rfl) (by kernel_rfl) rfl (by simp [Value.oneCell']) ?_
          refine wpList_nil ?_
          obtain ⟨W5, hW5⟩ : ∃ W, W = wr.alloc (.cells x.cells.toArray 38) := ⟨_, rfl⟩
          rw [← hW5] at L6 KX KC hr6 ⊢
          obtain ⟨xb, hxb⟩ : ∃ b, b = wr.heap.size := ⟨_, rfl⟩
          rw [← hxb] at KX hr6
          simp only [← hxb]
          clear hrk c7 hW5 hxb
          go_simp
          go_upto_region 12 with (fail)
          refine wp_region_lit ?_
          refine wpList_run (v := .pointer (some ⟨xb, 0, none⟩)) (w' := W5) rfl (by simp [go_sem, Act.eval]) ?_
          refine wpList_run (w' := W5) rfl (exec_load_mid 32 _ rfl xb 0 [.string ⟨x.name.toArray⟩, .int .i64 x.epoch, .int .i64 x.maker, .bool x.alive, .int .i64 x.kind, .int .i64 x.scale] (.struct (Tryd.prog.fieldsOf 32)) (by kernel_rfl) hr6 (by kernel_rfl) rfl (by kernel_rfl)) ?_
          refine wpList_run (v := .pointer (some ⟨W5.heap.size, 0, none⟩)) (w' := W5.alloc (.cells #[.string ⟨#[]⟩, .int .i64 0, .int .i64 0, .bool false, .int .i64 0, .int .i64 0] 32)) rfl (by kernel_rfl) ?_
          refine wpList_store_new rfl rfl 32 _ _ rfl W5 #[.string ⟨#[]⟩, .int .i64 0, .int .i64 0, .bool false, .int .i64 0, .int .i64 0] #[.string ⟨x.name.toArray⟩, .int .i64 x.epoch, .int .i64 x.maker, .bool x.alive, .int .i64 x.kind, .int .i64 x.scale] (by kernel_rfl) (by kernel_rfl) (by kernel_rfl) rfl (by simp [Value.oneCell']) ?_
          refine wpList_nil ?_
          obtain ⟨W6, hW6⟩ : ∃ W, W = W5.alloc (.cells #[.string ⟨x.name.toArray⟩, .int .i64 x.epoch, .int .i64 x.maker, .bool x.alive, .int .i64 x.kind, .int .i64 x.scale] 32) := ⟨_, rfl⟩
          rw [← hW6] at L6 KX KC ⊢
          obtain ⟨cb, hcb⟩ : ∃ b, b = W5.heap.size := ⟨_, rfl⟩
          rw [← hcb] at KC
          simp only [← hcb]
          have HO6 := Lib.hid (HO.out.below L6.out)
          have LW6 := Lib.hid (LW.out.trans (L6.out.mono LW.out.size))
          have KW6 := Lib.hid (stays KW.out L6.out)
          have HBW6 := Lib.hid LW6.out.size
          clear hr6 hW6 HO LW KW L6 hcb
          obtain ⟨bl, hbl⟩ : ∃ l, l = bodyP p k := ⟨_, rfl⟩
          rw [← hbl] at HO6 HLN
          have HBL := Lib.hid hbl
          clear hbl
          have HIL : Hid (bl.length + ((vint x.name.length).length + x.name.length + (vint (numW x.epoch)).length + (vint (numW x.maker)).length + (vint (flagN x.alive)).length + (vint (numW x.kind)).length + (vint (numW x.scale)).length + (vint (numW x.ver)).length + (vint (numW x.writer)).length + (vint (zig x.flow)).length + (vint (flagN x.hasRest)).length + (vint (zig x.rest)).length + (extR x.mn).length + (extR x.mx).length) ≤ 999990000) := by
            have h := HLN.out
            unfold itemR at h
            simp only [List.length_append] at h
            show _ ≤ _
            omega
          go_simp
          go_upto_region 13 with (fail)
          refine wpIn_wide (n := 5).1 (wpIn_flowM2 (F0 := Fence.wide) (n0 := 5) (fun _ => trivial) (fun h => by cases h) (by kernel_rfl) (by kernel_rfl) 13 13 (by kernel_rfl) (fun j => ([0, 1, 2, 3, 4, 5, 6, 7, 8, 9, 10, 11, 12] : List Nat).getD j 0) (fun j => ([52, 53, 54, 55, 56, 57, 58, 59, 60, 61, 62, 63, 3] : List Nat).getD j 0) (by kernel_rfl) (by kernel_rfl) (by kernel_rfl) (by kernel_rfl) (by kernel_rfl) (by kernel_rfl) (by kernel_rfl) (fun j zv => ([(fun zv => zv = u3), (fun zv => zv = (.pointer (some ⟨cb, 0, none⟩))), (fun zv => zv = (.string ⟨x.name.toArray⟩)), (fun _ => True), (fun zv => zv = (.pointer (some ⟨cb, 1, none⟩))), (fun zv => zv = (.int .i64 x.epoch)), (fun zv => zv = (.int .u64 (numW x.epoch : Int))), (fun _ => True), (fun zv => zv = (.pointer (some ⟨cb, 2, none⟩))), (fun zv => zv = (.int .i64 x.maker)), (fun zv => zv = (.int .u64 (numW x.maker : Int))), (fun _ => True), (fun _ => True)] : List (Value → Prop)).getD j (fun _ => True) zv) (fun d vs W => ChainJ w.heap.size W6 [(3, (bl ++ (vint x.name.length ++ x.name))), (7, ((bl ++ (vint x.name.length ++ x.name)) ++ vint (numW x.epoch))), (11, (((bl ++ (vint x.name.length ++ x.name)) ++ vint (numW x.epoch)) ++ vint (numW x.maker)))] 12 11 d vs W) ?h0ra ?stepra ?finra)
          case h0ra => exact fun vs => ChainJ.start vs
          case stepra =>
            intro i o a W d vs hi ho hdi hJ hf hr hF hz
            replace hi : i < 13 := hi
            rcases (show i = 0 ∨ i = 1 ∨ i = 2 ∨ i = 3 ∨ i = 4 ∨ i = 5 ∨ i = 6 ∨ i = 7 ∨ i = 8 ∨ i = 9 ∨ i = 10 ∨ i = 11 ∨ i = 12 by omega) with rfl | rfl | rfl | rfl | rfl | rfl | rfl | rfl | rfl | rfl | rfl | rfl | rfl
            · replace ho := op_at ho (by rfl)
              subst ho
              have f3 : a.tmps.getD 3 undef = u3 := hz 12 (by decide) (show d 12 = false from hJ.nolast _ (by rfl) hdi)
              exact .inl ⟨(fun k b h => by cases h), .inl ⟨0, by decide, rfl, u3, W, (by simp [go_sem, Act.eval, f3]), rfl, hJ.yield (by rfl) (by decide) (by decide)⟩⟩
            · replace ho := op_at ho (by rfl)
              subst ho
              have f8 : a.tmps.getD 8 undef = (.pointer (some ⟨cb, 0, none⟩)) := hf 8 (by kernel_rfl)
              exact .inl ⟨(fun k b h => by cases h), .inl ⟨1, by decide, rfl, (.pointer (some ⟨cb, 0, none⟩)), W, (by simp [go_sem, Act.eval, f8]), rfl, hJ.yield (by rfl) (by decide) (by decide)⟩⟩
            · replace ho := op_at ho (by rfl)
              subst ho
              have d1 : a.tmps.getD 53 undef = (.pointer (some ⟨cb, 0, none⟩)) := by have h1 := hF 1 (by decide) (hr 1 (by kernel_rfl)); exact h1.2.trans h1.1
              have c0 := cell_of_row _ _ 0 _ _ _ (stays KC.out hJ.1)
              exact .inl ⟨(fun k b h => by cases h), .inl ⟨2, by decide, rfl, (.string ⟨x.name.toArray⟩), W, (by simp [go_sem, Act.eval, d1, c0]), rfl, hJ.yield (by rfl) (by decide) (by decide)⟩⟩
            · replace ho := op_at ho (by rfl)
              subst ho
              have hbt := (HO6.out.below hJ.1).bts
              have d0b : d 0 = true := hr 0 (by kernel_rfl)
              have q0 : a.tmps.getD 52 undef = u3 := by have h1 := hF 0 (by decide) (hr 0 (by kernel_rfl)); exact h1.2.trans h1.1
              have q1 : a.tmps.getD 54 undef = (.string ⟨x.name.toArray⟩) := by have h1 := hF 2 (by decide) (hr 2 (by kernel_rfl)); exact h1.2.trans h1.1
              refine .inl ⟨(fun k b h => by cases h), .inr (.inr ⟨3, by decide, rfl, 65, #[u3, (.string ⟨x.name.toArray⟩)], W, (by simp [go_sem, Act.eval, q0, q1]), ?_⟩)⟩
              refine (callsIn_wide.2 (ref_Text _ _ _ W hbt (by (try simp only [List.length_append]); have := HIL.out; omega) (by have := HIL.out; omega))).mono ?_
              rintro e W' ⟨u, rfl, hO, hBe⟩
              exact ⟨u, rfl, trivial, hJ.call 3 _ (by rfl) (by decide) hBe (hO.mono (Nat.le_trans HBW6.out hJ.1.size)) d0b hdi⟩
            · replace ho := op_at ho (by rfl)
              subst ho
              have f8 : a.tmps.getD 8 undef = (.pointer (some ⟨cb, 0, none⟩)) := hf 8 (by kernel_rfl)
              exact .inl ⟨(fun k b h => by cases h), .inl ⟨4, by decide, rfl, (.pointer (some ⟨cb, 1, none⟩)), W, (by simp [go_sem, Act.eval, f8]), rfl, hJ.yield (by rfl) (by decide) (by decide)⟩⟩
            · replace ho := op_at ho (by rfl)
              subst ho
              have d4 : a.tmps.getD 56 undef = (.pointer (some ⟨cb, 1, none⟩)) := by have h1 := hF 4 (by decide) (hr 4 (by kernel_rfl)); exact h1.2.trans h1.1
              have c1 := cell_of_row _ _ 1 _ _ _ (stays KC.out hJ.1)
              exact .inl ⟨(fun k b h => by cases h), .inl ⟨5, by decide, rfl, (.int .i64 x.epoch), W, (by simp [go_sem, Act.eval, d4, c1]), rfl, hJ.yield (by rfl) (by decide) (by decide)⟩⟩
            · replace ho := op_at ho (by rfl)
              subst ho
              have d5 : a.tmps.getD 57 undef = (.int .i64 x.epoch) := by have h1 := hF 5 (by decide) (hr 5 (by kernel_rfl)); exact h1.2.trans h1.1
              exact .inl ⟨(fun k b h => by cases h), .inl ⟨6, by decide, rfl, (.int .u64 (numW x.epoch : Int)), W, (by simp [go_sem, Act.eval, d5, numW_wrap, numW_mod]), rfl, hJ.yield (by rfl) (by decide) (by decide)⟩⟩
            · replace ho := op_at ho (by rfl)
              subst ho
              have hbt := (hJ.own 3 _ (by rfl) (hr 3 (by kernel_rfl))).1.bts
              have d0b : d 0 = true := (hJ.own 3 _ (by rfl) (hr 3 (by kernel_rfl))).2
              have q0 : a.tmps.getD 55 undef = vs 3 := (hF 3 (by decide) (hr 3 (by kernel_rfl))).2
              have q1 : a.tmps.getD 58 undef = (.int .u64 (numW x.epoch : Int)) := by have h1 := hF 6 (by decide) (hr 6 (by kernel_rfl)); exact h1.2.trans h1.1
              refine .inl ⟨(fun k b h => by cases h), .inr (.inr ⟨7, by decide, rfl, 38, #[(vs 3), (.int .u64 (numW x.epoch : Int))], W, (by simp [go_sem, Act.eval, q0, q1]), ?_⟩)⟩
              refine (callsIn_wide.2 (ref_Number _ _ _ W (numW_lt _) hbt (by (try simp only [List.length_append]); have := HIL.out; omega))).mono ?_
              rintro e W' ⟨u, rfl, hO, hBe⟩
              exact ⟨u, rfl, trivial, hJ.call 7 _ (by rfl) (by decide) hBe (hO.mono (Nat.le_trans HBW6.out hJ.1.size)) d0b hdi⟩
            · replace ho := op_at ho (by rfl)
              subst ho
              have f8 : a.tmps.getD 8 undef = (.pointer (some ⟨cb, 0, none⟩)) := hf 8 (by kernel_rfl)
              exact .inl ⟨(fun k b h => by cases h), .inl ⟨8, by decide, rfl, (.pointer (some ⟨cb, 2, none⟩)), W, (by simp [go_sem, Act.eval, f8]), rfl, hJ.yield (by rfl) (by decide) (by decide)⟩⟩
            · replace ho := op_at ho (by rfl)
              subst ho
              have d8 : a.tmps.getD 60 undef = (.pointer (some ⟨cb, 2, none⟩)) := by have h1 := hF 8 (by decide) (hr 8 (by kernel_rfl)); exact h1.2.trans h1.1
              have c2 := cell_of_row _ _ 2 _ _ _ (stays KC.out hJ.1)
              exact .inl ⟨(fun k b h => by cases h), .inl ⟨9, by decide, rfl, (.int .i64 x.maker), W, (by simp [go_sem, Act.eval, d8, c2]), rfl, hJ.yield (by rfl) (by decide) (by decide)⟩⟩
            · replace ho := op_at ho (by rfl)
              subst ho
              have d9 : a.tmps.getD 61 undef = (.int .i64 x.maker) := by have h1 := hF 9 (by decide) (hr 9 (by kernel_rfl)); exact h1.2.trans h1.1
              exact .inl ⟨(fun k b h => by cases h), .inl ⟨10, by decide, rfl, (.int .u64 (numW x.maker : Int)), W, (by simp [go_sem, Act.eval, d9, numW_wrap, numW_mod]), rfl, hJ.yield (by rfl) (by decide) (by decide)⟩⟩
            · replace ho := op_at ho (by rfl)
              subst ho
              have hbt := (hJ.own 7 _ (by rfl) (hr 7 (by kernel_rfl))).1.bts
              have d0b : d 0 = true := (hJ.own 7 _ (by rfl) (hr 7 (by kernel_rfl))).2
              have q0 : a.tmps.getD 59 undef = vs 7 := (hF 7 (by decide) (hr 7 (by kernel_rfl))).2
              have q1 : a.tmps.getD 62 undef = (.int .u64 (numW x.maker : Int)) := by have h1 := hF 10 (by decide) (hr 10 (by kernel_rfl)); exact h1.2.trans h1.1
              refine .inl ⟨(fun k b h => by cases h), .inr (.inr ⟨11, by decide, rfl, 38, #[(vs 7), (.int .u64 (numW x.maker : Int))], W, (by simp [go_sem, Act.eval, q0, q1]), ?_⟩)⟩
              refine (callsIn_wide.2 (ref_Number _ _ _ W (numW_lt _) hbt (by (try simp only [List.length_append]); have := HIL.out; omega))).mono ?_
              rintro e W' ⟨u, rfl, hO, hBe⟩
              exact ⟨u, rfl, trivial, hJ.call 11 _ (by rfl) (by decide) hBe (hO.mono (Nat.le_trans HBW6.out hJ.1.size)) d0b hdi⟩
            · replace ho := op_at ho (by rfl)
              subst ho
              have q0 : a.tmps.getD 63 undef = vs 11 := (hF 11 (by decide) (hr 11 (by kernel_rfl))).2
              exact .inl ⟨(fun k b h => by cases h), .inl ⟨12, by decide, rfl, vs 11, W, (by simp [go_sem, Act.eval, q0]), trivial, hJ.last (by rfl) (by decide) (hr 11 (by kernel_rfl))⟩⟩
          case finra =>
            intro d vs Wra hall hJ hF
            have h0 : vs 0 = u3 := hF 0 (by decide)
            have h1 : vs 1 = (.pointer (some ⟨cb, 0, none⟩)) := hF 1 (by decide)
            have h2 : vs 2 = (.string ⟨x.name.toArray⟩) := hF 2 (by decide)
            have h3 : (fun _ => True) (vs 3) := hF 3 (by decide)
            have h4 : vs 4 = (.pointer (some ⟨cb, 1, none⟩)) := hF 4 (by decide)
            have h5 : vs 5 = (.int .i64 x.epoch) := hF 5 (by decide)
            have h6 : vs 6 = (.int .u64 (numW x.epoch : Int)) := hF 6 (by decide)
            have h7 : (fun _ => True) (vs 7) := hF 7 (by decide)
            have h8 : vs 8 = (.pointer (some ⟨cb, 2, none⟩)) := hF 8 (by decide)
            have h9 : vs 9 = (.int .i64 x.maker) := hF 9 (by decide)
            have h10 : vs 10 = (.int .u64 (numW x.maker : Int)) := hF 10 (by decide)
            have h11 : (fun _ => True) (vs 11) := hF 11 (by decide)
            have h12 : (fun _ => True) (vs 12) := hF 12 (by decide)
            clear hF
            have hans := (hJ.2.2 (hall 12 (by decide))).2
            have hown := (hJ.own 11 _ (by rfl) (hall 11 (by decide))).1
            have hLB := hJ.1
            clear hJ hall h3 h7 h11 h12
            show (_ : Exit → Act → World → Prop) Exit.normal (puts _ vs 13 _) Wra
            simp only [puts, h0, h1, h2, h4, h5, h6, h8, h9, h10, List.getD_cons_zero, List.getD_cons_succ]
            clear h0 h1 h2 h4 h5 h6 h8 h9 h10
            simp only [hans]
            generalize vs 11 = v7 at *
            clear hans
            have HO7 := Lib.hid hown
            have LW7 := Lib.hid (LW6.out.trans (hLB.mono LW6.out.size))
            have KX7 := Lib.hid (stays KX.out hLB)
            have KC7 := Lib.hid (stays KC.out hLB)
            have KW7 := Lib.hid (stays KW6.out hLB)
            have HBW7 := Lib.hid LW7.out.size
            clear hown hLB HO6 LW6 KX KC KW6 HBW6
            go_simp
            have c3 := cell_of_row _ _ 3 _ _ _ KC7.out
            have hcon := Lib.hid (ref_Flag v7 _ x.alive Wra HO7.out.bts (by (try simp only [List.length_append]); have := HIL.out; omega))
            go_wp2_with (fail)
            with_reducible refine hcon.out.mono ?_
            rintro e w14 ⟨v8, rfl, hown, hLB⟩
            replace hown := hown.mono HBW7.out
            clear hcon c3
            have HO8 := Lib.hid hown
            have LW8 := Lib.hid (LW7.out.trans (hLB.mono LW7.out.size))
            have KX8 := Lib.hid (stays KX7.out hLB)
            have KC8 := Lib.hid (stays KC7.out hLB)
            have KW8 := Lib.hid (stays KW7.out hLB)
            have HBW8 := Lib.hid LW8.out.size
            clear hown hLB HO7 LW7 KX7 KC7 KW7 HBW7
            go_upto_region 15 with (fail)
            refine wpIn_wide (n := 5).1 (wpIn_flowM2 (F0 := Fence.wide) (n0 := 5) (fun _ => trivial) (fun h => by cases h) (by kernel_rfl) (by kernel_rfl) 10 10 (by kernel_rfl) (fun j => ([0, 1, 2, 3, 4, 5, 6, 7, 8, 9] : List Nat).getD j 0) (fun j => ([68, 69, 70, 71, 72, 73, 74, 75, 76, 3] : List Nat).getD j 0) (by kernel_rfl) (by kernel_rfl) (by kernel_rfl) (by kernel_rfl) (by kernel_rfl) (by kernel_rfl) (by kernel_rfl) (fun j zv => ([(fun zv => zv = v8), (fun zv => zv = (.pointer (some ⟨cb, 4, none⟩))), (fun zv => zv = (.int .i64 x.kind)), (fun zv => zv = (.int .u64 (numW x.kind : Int))), (fun _ => True), (fun zv => zv = (.pointer (some ⟨cb, 5, none⟩))), (fun zv => zv = (.int .i64 x.scale)), (fun zv => zv = (.int .u64 (numW x.scale : Int))), (fun _ => True), (fun _ => True)] : List (Value → Prop)).getD j (fun _ => True) zv) (fun d vs W => ChainJ w.heap.size w14 [(4, (((((bl ++ (vint x.name.length ++ x.name)) ++ vint (numW x.epoch)) ++ vint (numW x.maker)) ++ vint (flagN x.alive)) ++ vint (numW x.kind))), (8, ((((((bl ++ (vint x.name.length ++ x.name)) ++ vint (numW x.epoch)) ++ vint (numW x.maker)) ++ vint (flagN x.alive)) ++ vint (numW x.kind)) ++ vint (numW x.scale)))] 9 8 d vs W) ?h0rb ?steprb ?finrb)
            case h0rb => exact fun vs => ChainJ.start vs
            case steprb =>
              intro i o a W d vs hi ho hdi hJ hf hr hF hz
              replace hi : i < 10 := hi
              rcases (show i = 0 ∨ i = 1 ∨ i = 2 ∨ i = 3 ∨ i = 4 ∨ i = 5 ∨ i = 6 ∨ i = 7 ∨ i = 8 ∨ i = 9 by omega) with rfl | rfl | rfl | rfl | rfl | rfl | rfl | rfl | rfl | rfl
              · replace ho := op_at ho (by rfl)
                subst ho
                have f3 : a.tmps.getD 3 undef = v8 := hz 9 (by decide) (show d 9 = false from hJ.nolast _ (by rfl) hdi)
                exact .inl ⟨(fun k b h => by cases h), .inl ⟨0, by decide, rfl, v8, W, (by simp [go_sem, Act.eval, f3]), rfl, hJ.yield (by rfl) (by decide) (by decide)⟩⟩
              · replace ho := op_at ho (by rfl)
                subst ho
                have f8 : a.tmps.getD 8 undef = (.pointer (some ⟨cb, 0, none⟩)) := hf 8 (by kernel_rfl)
                exact .inl ⟨(fun k b h => by cases h), .inl ⟨1, by decide, rfl, (.pointer (some ⟨cb, 4, none⟩)), W, (by simp [go_sem, Act.eval, f8]), rfl, hJ.yield (by rfl) (by decide) (by decide)⟩⟩
              · replace ho := op_at ho (by rfl)
                subst ho
                have d1 : a.tmps.getD 69 undef = (.pointer (some ⟨cb, 4, none⟩)) := by have h1 := hF 1 (by decide) (hr 1 (by kernel_rfl)); exact h1.2.trans h1.1
                have c4 := cell_of_row _ _ 4 _ _ _ (stays KC8.out hJ.1)
                exact .inl ⟨(fun k b h => by cases h), .inl ⟨2, by decide, rfl, (.int .i64 x.kind), W, (by simp [go_sem, Act.eval, d1, c4]), rfl, hJ.yield (by rfl) (by decide) (by decide)⟩⟩
              · replace ho := op_at ho (by rfl)
                subst ho
                have d2 : a.tmps.getD 70 undef = (.int .i64 x.kind) := by have h1 := hF 2 (by decide) (hr 2 (by kernel_rfl)); exact h1.2.trans h1.1
                exact .inl ⟨(fun k b h => by cases h), .inl ⟨3, by decide, rfl, (.int .u64 (numW x.kind : Int)), W, (by simp [go_sem, Act.eval, d2, numW_wrap, numW_mod]), rfl, hJ.yield (by rfl) (by decide) (by decide)⟩⟩
              · replace ho := op_at ho (by rfl)
                subst ho
                have hbt := (HO8.out.below hJ.1).bts
                have d0b : d 0 = true := hr 0 (by kernel_rfl)
                have q0 : a.tmps.getD 68 undef = v8 := by have h1 := hF 0 (by decide) (hr 0 (by kernel_rfl)); exact h1.2.trans h1.1
                have q1 : a.tmps.getD 71 undef = (.int .u64 (numW x.kind : Int)) := by have h1 := hF 3 (by decide) (hr 3 (by kernel_rfl)); exact h1.2.trans h1.1
                refine .inl ⟨(fun k b h => by cases h), .inr (.inr ⟨4, by decide, rfl, 38, #[v8, (.int .u64 (numW x.kind : Int))], W, (by simp [go_sem, Act.eval, q0, q1]), ?_⟩)⟩
                refine (callsIn_wide.2 (ref_Number _ _ _ W (numW_lt _) hbt (by (try simp only [List.length_append]); have := HIL.out; omega))).mono ?_
                rintro e W' ⟨u, rfl, hO, hBe⟩
                exact ⟨u, rfl, trivial, hJ.call 4 _ (by rfl) (by decide) hBe (hO.mono (Nat.le_trans HBW8.out hJ.1.size)) d0b hdi⟩
              · replace ho := op_at ho (by rfl)
                subst ho
                have f8 : a.tmps.getD 8 undef = (.pointer (some ⟨cb, 0, none⟩)) := hf 8 (by kernel_rfl)
                exact .inl ⟨(fun k b h => by cases h), .inl ⟨5, by decide, rfl, (.pointer (some ⟨cb, 5, none⟩)), W, (by simp [go_sem, Act.eval, f8]), rfl, hJ.yield (by rfl) (by decide) (by decide)⟩⟩
              · replace ho := op_at ho (by rfl)
                subst ho
                have d5 : a.tmps.getD 73 undef = (.pointer (some ⟨cb, 5, none⟩)) := by have h1 := hF 5 (by decide) (hr 5 (by kernel_rfl)); exact h1.2.trans h1.1
                have c5 := cell_of_row _ _ 5 _ _ _ (stays KC8.out hJ.1)
                exact .inl ⟨(fun k b h => by cases h), .inl ⟨6, by decide, rfl, (.int .i64 x.scale), W, (by simp [go_sem, Act.eval, d5, c5]), rfl, hJ.yield (by rfl) (by decide) (by decide)⟩⟩
              · replace ho := op_at ho (by rfl)
                subst ho
                have d6 : a.tmps.getD 74 undef = (.int .i64 x.scale) := by have h1 := hF 6 (by decide) (hr 6 (by kernel_rfl)); exact h1.2.trans h1.1
                exact .inl ⟨(fun k b h => by cases h), .inl ⟨7, by decide, rfl, (.int .u64 (numW x.scale : Int)), W, (by simp [go_sem, Act.eval, d6, numW_wrap, numW_mod]), rfl, hJ.yield (by rfl) (by decide) (by decide)⟩⟩
              · replace ho := op_at ho (by rfl)
                subst ho
                have hbt := (hJ.own 4 _ (by rfl) (hr 4 (by kernel_rfl))).1.bts
                have d0b : d 0 = true := (hJ.own 4 _ (by rfl) (hr 4 (by kernel_rfl))).2
                have q0 : a.tmps.getD 72 undef = vs 4 := (hF 4 (by decide) (hr 4 (by kernel_rfl))).2
                have q1 : a.tmps.getD 75 undef = (.int .u64 (numW x.scale : Int)) := by have h1 := hF 7 (by decide) (hr 7 (by kernel_rfl)); exact h1.2.trans h1.1
                refine .inl ⟨(fun k b h => by cases h), .inr (.inr ⟨8, by decide, rfl, 38, #[(vs 4), (.int .u64 (numW x.scale : Int))], W, (by simp [go_sem, Act.eval, q0, q1]), ?_⟩)⟩
                refine (callsIn_wide.2 (ref_Number _ _ _ W (numW_lt _) hbt (by (try simp only [List.length_append]); have := HIL.out; omega))).mono ?_
                rintro e W' ⟨u, rfl, hO, hBe⟩
                exact ⟨u, rfl, trivial, hJ.call 8 _ (by rfl) (by decide) hBe (hO.mono (Nat.le_trans HBW8.out hJ.1.size)) d0b hdi⟩
              · replace ho := op_at ho (by rfl)
                subst ho
                have q0 : a.tmps.getD 76 undef = vs 8 := (hF 8 (by decide) (hr 8 (by kernel_rfl))).2
                exact .inl ⟨(fun k b h => by cases h), .inl ⟨9, by decide, rfl, vs 8, W, (by simp [go_sem, Act.eval, q0]), trivial, hJ.last (by rfl) (by decide) (hr 8 (by kernel_rfl))⟩⟩
            case finrb =>
              intro d vs Wrb hall hJ hF
              have h0 : vs 0 = v8 := hF 0 (by decide)
              have h1 : vs 1 = (.pointer (some ⟨cb, 4, none⟩)) := hF 1 (by decide)
              have h2 : vs 2 = (.int .i64 x.kind) := hF 2 (by decide)
              have h3 : vs 3 = (.int .u64 (numW x.kind : Int)) := hF 3 (by decide)
              have h4 : (fun _ => True) (vs 4) := hF 4 (by decide)
              have h5 : vs 5 = (.pointer (some ⟨cb, 5, none⟩)) := hF 5 (by decide)
              have h6 : vs 6 = (.int .i64 x.scale) := hF 6 (by decide)
              have h7 : vs 7 = (.int .u64 (numW x.scale : Int)) := hF 7 (by decide)
              have h8 : (fun _ => True) (vs 8) := hF 8 (by decide)
              have h9 : (fun _ => True) (vs 9) := hF 9 (by decide)
              clear hF
              have hans := (hJ.2.2 (hall 9 (by decide))).2
              have hown := (hJ.own 8 _ (by rfl) (hall 8 (by decide))).1
              have hLB := hJ.1
              clear hJ hall h4 h8 h9
              show (_ : Exit → Act → World → Prop) Exit.normal (puts _ vs 10 _) Wrb
              simp only [puts, h0, h1, h2, h3, h5, h6, h7, List.getD_cons_zero, List.getD_cons_succ]
              clear h0 h1 h2 h3 h5 h6 h7
              simp only [hans]
              generalize vs 8 = v9 at *
              clear hans
              have HO9 := Lib.hid hown
              have LW9 := Lib.hid (LW8.out.trans (hLB.mono LW8.out.size))
              have KX9 := Lib.hid (stays KX8.out hLB)
              have KC9 := Lib.hid (stays KC8.out hLB)
              have KW9 := Lib.hid (stays KW8.out hLB)
              have HBW9 := Lib.hid LW9.out.size
              clear hown hLB HO8 LW8 KX8 KC8 KW8 HBW8
              go_simp
              go_upto_region 16 with (fail)
              refine wpIn_wide (n := 5).1 (wpIn_flowM2 (F0 := Fence.wide) (n0 := 5) (fun _ => trivial) (fun h => by cases h) (by kernel_rfl) (by kernel_rfl) 12 12 (by kernel_rfl) (fun j => ([0, 1, 2, 3, 4, 5, 6, 7, 8, 9, 10, 11] : List Nat).getD j 0) (fun j => ([77, 78, 79, 80, 81, 82, 83, 84, 85, 86, 87, 3] : List Nat).getD j 0) (by kernel_rfl) (by kernel_rfl) (by kernel_rfl) (by kernel_rfl) (by kernel_rfl) (by kernel_rfl) (by kernel_rfl) (fun j zv => ([(fun zv => zv = v9), (fun zv => zv = (.pointer (some ⟨xb, 6, none⟩))), (fun zv => zv = (.pointer (some ⟨xb, 6, none⟩))), (fun zv => zv = (.int .i64 x.ver)), (fun zv => zv = (.int .u64 (numW x.ver : Int))), (fun _ => True), (fun zv => zv = (.pointer (some ⟨xb, 6, none⟩))), (fun zv => zv = (.pointer (some ⟨xb, 7, none⟩))), (fun zv => zv = (.int .i64 x.writer)), (fun zv => zv = (.int .u64 (numW x.writer : Int))), (fun _ => True), (fun _ => True)] : List (Value → Prop)).getD j (fun _ => True) zv) (fun d vs W => ChainJ w.heap.size Wrb [(5, (((((((bl ++ (vint x.name.length ++ x.name)) ++ vint (numW x.epoch)) ++ vint (numW x.maker)) ++ vint (flagN x.alive)) ++ vint (numW x.kind)) ++ vint (numW x.scale)) ++ vint (numW x.ver))), (10, ((((((((bl ++ (vint x.name.length ++ x.name)) ++ vint (numW x.epoch)) ++ vint (numW x.maker)) ++ vint (flagN x.alive)) ++ vint (numW x.kind)) ++ vint (numW x.scale)) ++ vint (numW x.ver)) ++ vint (numW x.writer)))] 11 10 d vs W) ?h0rc ?steprc ?finrc)
              case h0rc => exact fun vs => ChainJ.start vs
              case steprc =>
                intro i o a W d vs hi ho hdi hJ hf hr hF hz
                replace hi : i < 12 := hi
                rcases (show i = 0 ∨ i = 1 ∨ i = 2 ∨ i = 3 ∨ i = 4 ∨ i = 5 ∨ i = 6 ∨ i = 7 ∨ i = 8 ∨ i = 9 ∨ i = 10 ∨ i = 11 by omega) with rfl | rfl | rfl | rfl | rfl | rfl | rfl | rfl | rfl | rfl | rfl | rfl
                · replace ho := op_at ho (by rfl)
                  subst ho
                  have f3 : a.tmps.getD 3 undef = v9 := hz 11 (by decide) (show d 11 = false from hJ.nolast _ (by rfl) hdi)
                  exact .inl ⟨(fun k b h => by cases h), .inl ⟨0, by decide, rfl, v9, W, (by simp [go_sem, Act.eval, f3]), rfl, hJ.yield (by rfl) (by decide) (by decide)⟩⟩
                · replace ho := op_at ho (by rfl)
                  subst ho
                  have f7 : a.tmps.getD 7 undef = (.pointer (some ⟨xb, 0, none⟩)) := hf 7 (by kernel_rfl)
                  exact .inl ⟨(fun k b h => by cases h), .inl ⟨1, by decide, rfl, (.pointer (some ⟨xb, 6, none⟩)), W, (by simp [go_sem, Act.eval, f7]), rfl, hJ.yield (by rfl) (by decide) (by decide)⟩⟩
                · replace ho := op_at ho (by rfl)
                  subst ho
                  have d1 : a.tmps.getD 78 undef = (.pointer (some ⟨xb, 6, none⟩)) := by have h1 := hF 1 (by decide) (hr 1 (by kernel_rfl)); exact h1.2.trans h1.1
                  exact .inl ⟨(fun k b h => by cases h), .inl ⟨2, by decide, rfl, (.pointer (some ⟨xb, 6, none⟩)), W, (by simp [go_sem, Act.eval, d1]), rfl, hJ.yield (by rfl) (by decide) (by decide)⟩⟩
                · replace ho := op_at ho (by rfl)
                  subst ho
                  have d2 : a.tmps.getD 79 undef = (.pointer (some ⟨xb, 6, none⟩)) := by have h1 := hF 2 (by decide) (hr 2 (by kernel_rfl)); exact h1.2.trans h1.1
                  have c6 := cell_of_row _ _ 6 _ _ _ (stays KX9.out hJ.1)
                  exact .inl ⟨(fun k b h => by cases h), .inl ⟨3, by decide, rfl, (.int .i64 x.ver), W, (by simp [go_sem, Act.eval, d2, c6]), rfl, hJ.yield (by rfl) (by decide) (by decide)⟩⟩
                · replace ho := op_at ho (by rfl)
                  subst ho
                  have d3 : a.tmps.getD 80 undef = (.int .i64 x.ver) := by have h1 := hF 3 (by decide) (hr 3 (by kernel_rfl)); exact h1.2.trans h1.1
                  exact .inl ⟨(fun k b h => by cases h), .inl ⟨4, by decide, rfl, (.int .u64 (numW x.ver : Int)), W, (by simp [go_sem, Act.eval, d3, numW_wrap, numW_mod]), rfl, hJ.yield (by rfl) (by decide) (by decide)⟩⟩
                · replace ho := op_at ho (by rfl)
                  subst ho
                  have hbt := (HO9.out.below hJ.1).bts
                  have d0b : d 0 = true := hr 0 (by kernel_rfl)
                  have q0 : a.tmps.getD 77 undef = v9 := by have h1 := hF 0 (by decide) (hr 0 (by kernel_rfl)); exact h1.2.trans h1.1
                  have q1 : a.tmps.getD 81 undef = (.int .u64 (numW x.ver : Int)) := by have h1 := hF 4 (by decide) (hr 4 (by kernel_rfl)); exact h1.2.trans h1.1
                  refine .inl ⟨(fun k b h => by cases h), .inr (.inr ⟨5, by decide, rfl, 38, #[v9, (.int .u64 (numW x.ver : Int))], W, (by simp [go_sem, Act.eval, q0, q1]), ?_⟩)⟩
                  refine (callsIn_wide.2 (ref_Number _ _ _ W (numW_lt _) hbt (by (try simp only [List.length_append]); have := HIL.out; omega))).mono ?_
                  rintro e W' ⟨u, rfl, hO, hBe⟩
                  exact ⟨u, rfl, trivial, hJ.call 5 _ (by rfl) (by decide) hBe (hO.mono (Nat.le_trans HBW9.out hJ.1.size)) d0b hdi⟩
                · replace ho := op_at ho (by rfl)
                  subst ho
                  have f7 : a.tmps.getD 7 undef = (.pointer (some ⟨xb, 0, none⟩)) := hf 7 (by kernel_rfl)
                  exact .inl ⟨(fun k b h => by cases h), .inl ⟨6, by decide, rfl, (.pointer (some ⟨xb, 6, none⟩)), W, (by simp [go_sem, Act.eval, f7]), rfl, hJ.yield (by rfl) (by decide) (by decide)⟩⟩
                · replace ho := op_at ho (by rfl)
                  subst ho
                  have d6 : a.tmps.getD 83 undef = (.pointer (some ⟨xb, 6, none⟩)) := by have h1 := hF 6 (by decide) (hr 6 (by kernel_rfl)); exact h1.2.trans h1.1
                  exact .inl ⟨(fun k b h => by cases h), .inl ⟨7, by decide, rfl, (.pointer (some ⟨xb, 7, none⟩)), W, (by simp [go_sem, Act.eval, d6]), rfl, hJ.yield (by rfl) (by decide) (by decide)⟩⟩
                · replace ho := op_at ho (by rfl)
                  subst ho
                  have d7 : a.tmps.getD 84 undef = (.pointer (some ⟨xb, 7, none⟩)) := by have h1 := hF 7 (by decide) (hr 7 (by kernel_rfl)); exact h1.2.trans h1.1
                  have c7 := cell_of_row _ _ 7 _ _ _ (stays KX9.out hJ.1)
                  exact .inl ⟨(fun k b h => by cases h), .inl ⟨8, by decide, rfl, (.int .i64 x.writer), W, (by simp [go_sem, Act.eval, d7, c7]), rfl, hJ.yield (by rfl) (by decide) (by decide)⟩⟩
                · replace ho := op_at ho (by rfl)
                  subst ho
                  have d8 : a.tmps.getD 85 undef = (.int .i64 x.writer) := by have h1 := hF 8 (by decide) (hr 8 (by kernel_rfl)); exact h1.2.trans h1.1
                  exact .inl ⟨(fun k b h => by cases h), .inl ⟨9, by decide, rfl, (.int .u64 (numW x.writer : Int)), W, (by simp [go_sem, Act.eval, d8, numW_wrap, numW_mod]), rfl, hJ.yield (by rfl) (by decide) (by decide)⟩⟩
                · replace ho := op_at ho (by rfl)
                  subst ho
                  have hbt := (hJ.own 5 _ (by rfl) (hr 5 (by kernel_rfl))).1.bts
                  have d0b : d 0 = true := (hJ.own 5 _ (by rfl) (hr 5 (by kernel_rfl))).2
                  have q0 : a.tmps.getD 82 undef = vs 5 := (hF 5 (by decide) (hr 5 (by kernel_rfl))).2
                  have q1 : a.tmps.getD 86 undef = (.int .u64 (numW x.writer : Int)) := by have h1 := hF 9 (by decide) (hr 9 (by kernel_rfl)); exact h1.2.trans h1.1
                  refine .inl ⟨(fun k b h => by cases h), .inr (.inr ⟨10, by decide, rfl, 38, #[(vs 5), (.int .u64 (numW x.writer : Int))], W, (by simp [go_sem, Act.eval, q0, q1]), ?_⟩)⟩
                  refine (callsIn_wide.2 (ref_Number _ _ _ W (numW_lt _) hbt (by (try simp only [List.length_append]); have := HIL.out; omega))).mono ?_
                  rintro e W' ⟨u, rfl, hO, hBe⟩
                  exact ⟨u, rfl, trivial, hJ.call 10 _ (by rfl) (by decide) hBe (hO.mono (Nat.le_trans HBW9.out hJ.1.size)) d0b hdi⟩
                · replace ho := op_at ho (by rfl)
                  subst ho
                  have q0 : a.tmps.getD 87 undef = vs 10 := (hF 10 (by decide) (hr 10 (by kernel_rfl))).2
                  exact .inl ⟨(fun k b h => by cases h), .inl ⟨11, by decide, rfl, vs 10, W, (by simp [go_sem, Act.eval, q0]), trivial, hJ.last (by rfl) (by decide) (hr 10 (by kernel_rfl))⟩⟩
              case finrc =>
                intro d vs Wrc hall hJ hF
                have h0 : vs 0 = v9 := hF 0 (by decide)
                have h1 : vs 1 = (.pointer (some ⟨xb, 6, none⟩)) := hF 1 (by decide)
                have h2 : vs 2 = (.pointer (some ⟨xb, 6, none⟩)) := hF 2 (by decide)
                have h3 : vs 3 = (.int .i64 x.ver) := hF 3 (by decide)
                have h4 : vs 4 = (.int .u64 (numW x.ver : Int)) := hF 4 (by decide)
                have h5 : (fun _ => True) (vs 5) := hF 5 (by decide)
                have h6 : vs 6 = (.pointer (some ⟨xb, 6, none⟩)) := hF 6 (by decide)
                have h7 : vs 7 = (.pointer (some ⟨xb, 7, none⟩)) := hF 7 (by decide)
                have h8 : vs 8 = (.int .i64 x.writer) := hF 8 (by decide)
                have h9 : vs 9 = (.int .u64 (numW x.writer : Int)) := hF 9 (by decide)
                have h10 : (fun _ => True) (vs 10) := hF 10 (by decide)
                have h11 : (fun _ => True) (vs 11) := hF 11 (by decide)
                clear hF
                have hans := (hJ.2.2 (hall 11 (by decide))).2
                have hown := (hJ.own 10 _ (by rfl) (hall 10 (by decide))).1
                have hLB := hJ.1
                clear hJ hall h5 h10 h11
                show (_ : Exit → Act → World → Prop) Exit.normal (puts _ vs 12 _) Wrc
                simp only [puts, h0, h1, h2, h3, h4, h6, h7, h8, h9, List.getD_cons_zero, List.getD_cons_succ]
                clear h0 h1 h2 h3 h4 h6 h7 h8 h9
                simp only [hans]
                generalize vs 10 = v10 at *
                clear hans
                have HO10 := Lib.hid hown
                have LW10 := Lib.hid (LW9.out.trans (hLB.mono LW9.out.size))
                have KX10 := Lib.hid (stays KX9.out hLB)
                have KC10 := Lib.hid (stays KC9.out hLB)
                have KW10 := Lib.hid (stays KW9.out hLB)
                have HBW10 := Lib.hid LW10.out.size
                clear hown hLB HO9 LW9 KX9 KC9 KW9 HBW9
                go_simp
                go_upto_region 17 with (fail)
                refine wpIn_wide (n := 5).1 (wpIn_flowM2 (F0 := Fence.wide) (n0 := 5) (fun _ => trivial) (fun h => by cases h) (by kernel_rfl) (by kernel_rfl) 12 12 (by kernel_rfl) (fun j => ([0, 1, 2, 3, 4, 5, 6, 7, 8, 9, 10, 11] : List Nat).getD j 0) (fun j => ([88, 89, 90, 91, 92, 93, 94, 95, 96, 97, 98, 3] : List Nat).getD j 0) (by kernel_rfl) (by kernel_rfl) (by kernel_rfl) (by kernel_rfl) (by kernel_rfl) (by kernel_rfl) (by kernel_rfl) (fun j zv => ([(fun zv => zv = v10), (fun zv => zv = (.pointer (some ⟨xb, 6, none⟩))), (fun zv => zv = (.pointer (some ⟨xb, 8, none⟩))), (fun zv => zv = (.int .i64 x.flow)), (fun _ => True), (fun zv => zv = (.pointer (some ⟨xb, 9, none⟩))), (fun zv => zv = (.bool x.hasRest)), (fun _ => True), (fun zv => zv = (.pointer (some ⟨xb, 10, none⟩))), (fun zv => zv = (.int .i64 x.rest)), (fun _ => True), (fun _ => True)] : List (Value → Prop)).getD j (fun _ => True) zv) (fun d vs W => ChainJ w.heap.size Wrc [(4, (((((((((bl ++ (vint x.name.length ++ x.name)) ++ vint (numW x.epoch)) ++ vint (numW x.maker)) ++ vint (flagN x.alive)) ++ vint (numW x.kind)) ++ vint (numW x.scale)) ++ vint (numW x.ver)) ++ vint (numW x.writer)) ++ vint (zig x.flow))), (7, ((((((((((bl ++ (vint x.name.length ++ x.name)) ++ vint (numW x.epoch)) ++ vint (numW x.maker)) ++ vint (flagN x.alive)) ++ vint (numW x.kind)) ++ vint (numW x.scale)) ++ vint (numW x.ver)) ++ vint (numW x.writer)) ++ vint (zig x.flow)) ++ vint (flagN x.hasRest))), (10, (((((((((((bl ++ (vint x.name.length ++ x.name)) ++ vint (numW x.epoch)) ++ vint (numW x.maker)) ++ vint (flagN x.alive)) ++ vint (numW x.kind)) ++ vint (numW x.scale)) ++ vint (numW x.ver)) ++ vint (numW x.writer)) ++ vint (zig x.flow)) ++ vint (flagN x.hasRest)) ++ vint (zig x.rest)))] 11 10 d vs W) ?h0rd ?steprd ?finrd)
                case h0rd => exact fun vs => ChainJ.start vs
                case steprd =>
                  intro i o a W d vs hi ho hdi hJ hf hr hF hz
                  replace hi : i < 12 := hi
                  rcases (show i = 0 ∨ i = 1 ∨ i = 2 ∨ i = 3 ∨ i = 4 ∨ i = 5 ∨ i = 6 ∨ i = 7 ∨ i = 8 ∨ i = 9 ∨ i = 10 ∨ i = 11 by omega) with rfl | rfl | rfl | rfl | rfl | rfl | rfl | rfl | rfl | rfl | rfl | rfl
                  · replace ho := op_at ho (by rfl)
                    subst ho
                    have f3 : a.tmps.getD 3 undef = v10 := hz 11 (by decide) (show d 11 = false from hJ.nolast _ (by rfl) hdi)
                    exact .inl ⟨(fun k b h => by cases h), .inl ⟨0, by decide, rfl, v10, W, (by simp [go_sem, Act.eval, f3]), rfl, hJ.yield (by rfl) (by decide) (by decide)⟩⟩
                  · replace ho := op_at ho (by rfl)
                    subst ho
                    have f7 : a.tmps.getD 7 undef = (.pointer (some ⟨xb, 0, none⟩)) := hf 7 (by kernel_rfl)
                    exact .inl ⟨(fun k b h => by cases h), .inl ⟨1, by decide, rfl, (.pointer (some ⟨xb, 6, none⟩)), W, (by simp [go_sem, Act.eval, f7]), rfl, hJ.yield (by rfl) (by decide) (by decide)⟩⟩
                  · replace ho := op_at ho (by rfl)
                    subst ho
                    have d1 : a.tmps.getD 89 undef = (.pointer (some ⟨xb, 6, none⟩)) := by have h1 := hF 1 (by decide) (hr 1 (by kernel_rfl)); exact h1.2.trans h1.1
                    exact .inl ⟨(fun k b h => by cases h), .inl ⟨2, by decide, rfl, (.pointer (some ⟨xb, 8, none⟩)), W, (by simp [go_sem, Act.eval, d1]), rfl, hJ.yield (by rfl) (by decide) (by decide)⟩⟩
                  · replace ho := op_at ho (by rfl)
                    subst ho
                    have d2 : a.tmps.getD 90 undef = (.pointer (some ⟨xb, 8, none⟩)) := by have h1 := hF 2 (by decide) (hr 2 (by kernel_rfl)); exact h1.2.trans h1.1
                    have c8 := cell_of_row _ _ 8 _ _ _ (stays KX10.out hJ.1)
                    exact .inl ⟨(fun k b h => by cases h), .inl ⟨3, by decide, rfl, (.int .i64 x.flow), W, (by simp [go_sem, Act.eval, d2, c8]), rfl, hJ.yield (by rfl) (by decide) (by decide)⟩⟩
                  · replace ho := op_at ho (by rfl)
                    subst ho
                    have hbt := (HO10.out.below hJ.1).bts
                    have d0b : d 0 = true := hr 0 (by kernel_rfl)
                    have q0 : a.tmps.getD 88 undef = v10 := by have h1 := hF 0 (by decide) (hr 0 (by kernel_rfl)); exact h1.2.trans h1.1
                    have q1 : a.tmps.getD 91 undef = (.int .i64 x.flow) := by have h1 := hF 3 (by decide) (hr 3 (by kernel_rfl)); exact h1.2.trans h1.1
                    refine .inl ⟨(fun k b h => by cases h), .inr (.inr ⟨4, by decide, rfl, 67, #[v10, (.int .i64 x.flow)], W, (by simp [go_sem, Act.eval, q0, q1]), ?_⟩)⟩
                    refine (callsIn_wide.2 (ref_Signed _ _ _ W HXO.out.flow.1 HXO.out.flow.2 hbt (by (try simp only [List.length_append]); have := HIL.out; omega))).mono ?_
                    rintro e W' ⟨u, rfl, hO, hBe⟩
                    exact ⟨u, rfl, trivial, hJ.call 4 _ (by rfl) (by decide) hBe (hO.mono (Nat.le_trans HBW10.out hJ.1.size)) d0b hdi⟩
                  · replace ho := op_at ho (by rfl)
                    subst ho
                    have f7 : a.tmps.getD 7 undef = (.pointer (some ⟨xb, 0, none⟩)) := hf 7 (by kernel_rfl)
                    exact .inl ⟨(fun k b h => by cases h), .inl ⟨5, by decide, rfl, (.pointer (some ⟨xb, 9, none⟩)), W, (by simp [go_sem, Act.eval, f7]), rfl, hJ.yield (by rfl) (by decide) (by decide)⟩⟩
                  · replace ho := op_at ho (by rfl)
                    subst ho
                    have d5 : a.tmps.getD 93 undef = (.pointer (some ⟨xb, 9, none⟩)) := by have h1 := hF 5 (by decide) (hr 5 (by kernel_rfl)); exact h1.2.trans h1.1
                    have c9 := cell_of_row _ _ 9 _ _ _ (stays KX10.out hJ.1)
                    exact .inl ⟨(fun k b h => by cases h), .inl ⟨6, by decide, rfl, (.bool x.hasRest), W, (by simp [go_sem, Act.eval, d5, c9]), rfl, hJ.yield (by rfl) (by decide) (by decide)⟩⟩
                  · replace ho := op_at ho (by rfl)
                    subst ho
                    have hbt := (hJ.own 4 _ (by rfl) (hr 4 (by kernel_rfl))).1.bts
                    have d0b : d 0 = true := (hJ.own 4 _ (by rfl) (hr 4 (by kernel_rfl))).2
                    have q0 : a.tmps.getD 92 undef = vs 4 := (hF 4 (by decide) (hr 4 (by kernel_rfl))).2
                    have q1 : a.tmps.getD 94 undef = (.bool x.hasRest) := by have h1 := hF 6 (by decide) (hr 6 (by kernel_rfl)); exact h1.2.trans h1.1
                    refine .inl ⟨(fun k b h => by cases h), .inr (.inr ⟨7, by decide, rfl, 66, #[(vs 4), (.bool x.hasRest)], W, (by simp [go_sem, Act.eval, q0, q1]), ?_⟩)⟩
                    refine (callsIn_wide.2 (ref_Flag _ _ _ W hbt (by (try simp only [List.length_append]); have := HIL.out; omega))).mono ?_
                    rintro e W' ⟨u, rfl, hO, hBe⟩
                    exact ⟨u, rfl, trivial, hJ.call 7 _ (by rfl) (by decide) hBe (hO.mono (Nat.le_trans HBW10.out hJ.1.size)) d0b hdi⟩
                  · replace ho := op_at ho (by rfl)
                    subst ho
                    have f7 : a.tmps.getD 7 undef = (.pointer (some ⟨xb, 0, none⟩)) := hf 7 (by kernel_rfl)
                    exact .inl ⟨(fun k b h => by cases h), .inl ⟨8, by decide, rfl, (.pointer (some ⟨xb, 10, none⟩)), W, (by simp [go_sem, Act.eval, f7]), rfl, hJ.yield (by rfl) (by decide) (by decide)⟩⟩
                  · replace ho := op_at ho (by rfl)
                    subst ho
                    have d8 : a.tmps.getD 96 undef = (.pointer (some ⟨xb, 10, none⟩)) := by have h1 := hF 8 (by decide) (hr 8 (by kernel_rfl)); exact h1.2.trans h1.1
                    have c10 := cell_of_row _ _ 10 _ _ _ (stays KX10.out hJ.1)
                    exact .inl ⟨(fun k b h => by cases h), .inl ⟨9, by decide, rfl, (.int .i64 x.rest), W, (by simp [go_sem, Act.eval, d8, c10]), rfl, hJ.yield (by rfl) (by decide) (by decide)⟩⟩
                  · replace ho := op_at ho (by rfl)
                    subst ho
                    have hbt := (hJ.own 7 _ (by rfl) (hr 7 (by kernel_rfl))).1.bts
                    have d0b : d 0 = true := (hJ.own 7 _ (by rfl) (hr 7 (by kernel_rfl))).2
                    have q0 : a.tmps.getD 95 undef = vs 7 := (hF 7 (by decide) (hr 7 (by kernel_rfl))).2
                    have q1 : a.tmps.getD 97 undef = (.int .i64 x.rest) := by have h1 := hF 9 (by decide) (hr 9 (by kernel_rfl)); exact h1.2.trans h1.1
                    refine .inl ⟨(fun k b h => by cases h), .inr (.inr ⟨10, by decide, rfl, 67, #[(vs 7), (.int .i64 x.rest)], W, (by simp [go_sem, Act.eval, q0, q1]), ?_⟩)⟩
                    refine (callsIn_wide.2 (ref_Signed _ _ _ W HXO.out.rest.1 HXO.out.rest.2 hbt (by (try simp only [List.length_append]); have := HIL.out; omega))).mono ?_
                    rintro e W' ⟨u, rfl, hO, hBe⟩
                    exact ⟨u, rfl, trivial, hJ.call 10 _ (by rfl) (by decide) hBe (hO.mono (Nat.le_trans HBW10.out hJ.1.size)) d0b hdi⟩
                  · replace ho := op_at ho (by rfl)
                    subst ho
                    have q0 : a.tmps.getD 98 undef = vs 10 := (hF 10 (by decide) (hr 10 (by kernel_rfl))).2
                    exact .inl ⟨(fun k b h => by cases h), .inl ⟨11, by decide, rfl, vs 10, W, (by simp [go_sem, Act.eval, q0]), trivial, hJ.last (by rfl) (by decide) (hr 10 (by kernel_rfl))⟩⟩
                case finrd =>
                  intro d vs Wrd hall hJ hF
                  have h0 : vs 0 = v10 := hF 0 (by decide)
                  have h1 : vs 1 = (.pointer (some ⟨xb, 6, none⟩)) := hF 1 (by decide)
                  have h2 : vs 2 = (.pointer (some ⟨xb, 8, none⟩)) := hF 2 (by decide)
                  have h3 : vs 3 = (.int .i64 x.flow) := hF 3 (by decide)
                  have h4 : (fun _ => True) (vs 4) := hF 4 (by decide)
                  have h5 : vs 5 = (.pointer (some ⟨xb, 9, none⟩)) := hF 5 (by decide)
                  have h6 : vs 6 = (.bool x.hasRest) := hF 6 (by decide)
                  have h7 : (fun _ => True) (vs 7) := hF 7 (by decide)
                  have h8 : vs 8 = (.pointer (some ⟨xb, 10, none⟩)) := hF 8 (by decide)
                  have h9 : vs 9 = (.int .i64 x.rest) := hF 9 (by decide)
                  have h10 : (fun _ => True) (vs 10) := hF 10 (by decide)
                  have h11 : (fun _ => True) (vs 11) := hF 11 (by decide)
                  clear hF
                  have hans := (hJ.2.2 (hall 11 (by decide))).2
                  have hown := (hJ.own 10 _ (by rfl) (hall 10 (by decide))).1
                  have hLB := hJ.1
                  clear hJ hall h4 h7 h10 h11
                  show (_ : Exit → Act → World → Prop) Exit.normal (puts _ vs 12 _) Wrd
                  simp only [puts, h0, h1, h2, h3, h5, h6, h8, h9, List.getD_cons_zero, List.getD_cons_succ]
                  clear h0 h1 h2 h3 h5 h6 h8 h9
                  simp only [hans]
                  generalize vs 10 = v11 at *
                  clear hans
                  have HO11 := Lib.hid hown
                  have LW11 := Lib.hid (LW10.out.trans (hLB.mono LW10.out.size))
                  have KX11 := Lib.hid (stays KX10.out hLB)
                  have KC11 := Lib.hid (stays KC10.out hLB)
                  have KW11 := Lib.hid (stays KW10.out hLB)
                  have HBW11 := Lib.hid LW11.out.size
                  clear hown hLB HO10 LW10 KX10 KC10 KW10 HBW10
                  go_simp
                  go_upto_region 18 with (fail)
                  refine wpIn_wide (n := 5).1 (wpIn_flowM2 (F0 := Fence.wide) (n0 := 5) (fun _ => trivial) (fun h => by cases h) (by kernel_rfl) (by kernel_rfl) 8 8 (by kernel_rfl) (fun j => ([0, 1, 2, 3, 4, 5, 6, 7] : List Nat).getD j 0) (fun j => ([99, 100, 101, 102, 103, 104, 105, 3] : List Nat).getD j 0) (by kernel_rfl) (by kernel_rfl) (by kernel_rfl) (by kernel_rfl) (by kernel_rfl) (by kernel_rfl) (by kernel_rfl) (fun j zv => ([(fun zv => zv = v11), (fun zv => zv = (.pointer (some ⟨xb, 11, none⟩))), (fun zv => zv = (.agg #[.bool x.mn.has, .int .i64 x.mn.val, .int .i64 x.mn.org, .int .i64 x.mn.age])), (fun _ => True), (fun zv => zv = (.pointer (some ⟨xb, 15, none⟩))), (fun zv => zv = (.agg #[.bool x.mx.has, .int .i64 x.mx.val, .int .i64 x.mx.org, .int .i64 x.mx.age])), (fun _ => True), (fun _ => True)] : List (Value → Prop)).getD j (fun _ => True) zv) (fun d vs W => ChainJ w.heap.size Wrd [(3, ((((((((((((bl ++ (vint x.name.length ++ x.name)) ++ vint (numW x.epoch)) ++ vint (numW x.maker)) ++ vint (flagN x.alive)) ++ vint (numW x.kind)) ++ vint (numW x.scale)) ++ vint (numW x.ver)) ++ vint (numW x.writer)) ++ vint (zig x.flow)) ++ vint (flagN x.hasRest)) ++ vint (zig x.rest)) ++ extR x.mn)), (6, (((((((((((((bl ++ (vint x.name.length ++ x.name)) ++ vint (numW x.epoch)) ++ vint (numW x.maker)) ++ vint (flagN x.alive)) ++ vint (numW x.kind)) ++ vint (numW x.scale)) ++ vint (numW x.ver)) ++ vint (numW x.writer)) ++ vint (zig x.flow)) ++ vint (flagN x.hasRest)) ++ vint (zig x.rest)) ++ extR x.mn) ++ extR x.mx))] 7 6 d vs W) ?h0re ?stepre ?finre)
                  case h0re => exact fun vs => ChainJ.start vs
                  case stepre =>
                    intro i o a W d vs hi ho hdi hJ hf hr hF hz
                    replace hi : i < 8 := hi
                    rcases (show i = 0 ∨ i = 1 ∨ i = 2 ∨ i = 3 ∨ i = 4 ∨ i = 5 ∨ i = 6 ∨ i = 7 by omega) with rfl | rfl | rfl | rfl | rfl | rfl | rfl | rfl
                    · replace ho := op_at ho (by rfl)
                      subst ho
                      have f3 : a.tmps.getD 3 undef = v11 := hz 7 (by decide) (show d 7 = false from hJ.nolast _ (by rfl) hdi)
                      exact .inl ⟨(fun k b h => by cases h), .inl ⟨0, by decide, rfl, v11, W, (by simp [go_sem, Act.eval, f3]), rfl, hJ.yield (by rfl) (by decide) (by decide)⟩⟩
                    · replace ho := op_at ho (by rfl)
                      subst ho
                      have f7 : a.tmps.getD 7 undef = (.pointer (some ⟨xb, 0, none⟩)) := hf 7 (by kernel_rfl)
                      exact .inl ⟨(fun k b h => by cases h), .inl ⟨1, by decide, rfl, (.pointer (some ⟨xb, 11, none⟩)), W, (by simp [go_sem, Act.eval, f7]), rfl, hJ.yield (by rfl) (by decide) (by decide)⟩⟩
                    · replace ho := op_at ho (by rfl)
                      subst ho
                      have d1 : a.tmps.getD 100 undef = (.pointer (some ⟨xb, 11, none⟩)) := by have h1 := hF 1 (by decide) (hr 1 (by kernel_rfl)); exact h1.2.trans h1.1
                      have c11 := cell_of_row _ _ 11 _ _ _ (stays KX11.out hJ.1)
                      have c12 := cell_of_row _ _ 12 _ _ _ (stays KX11.out hJ.1)
                      have c13 := cell_of_row _ _ 13 _ _ _ (stays KX11.out hJ.1)
                      have c14 := cell_of_row _ _ 14 _ _ _ (stays KX11.out hJ.1)
                      exact .inl ⟨(fun k b h => by cases h), .inl ⟨2, by decide, rfl, (.agg #[.bool x.mn.has, .int .i64 x.mn.val, .int .i64 x.mn.org, .int .i64 x.mn.age]), W, (by simp [go_sem, Act.eval, d1, c11, c12, c13, c14]), rfl, hJ.yield (by rfl) (by decide) (by decide)⟩⟩
                    · replace ho := op_at ho (by rfl)
                      subst ho
                      have hbt := (HO11.out.below hJ.1).bts
                      have d0b : d 0 = true := hr 0 (by kernel_rfl)
                      have q0 : a.tmps.getD 99 undef = v11 := by have h1 := hF 0 (by decide) (hr 0 (by kernel_rfl)); exact h1.2.trans h1.1
                      have q1 : a.tmps.getD 101 undef = (.agg #[.bool x.mn.has, .int .i64 x.mn.val, .int .i64 x.mn.org, .int .i64 x.mn.age]) := by have h1 := hF 2 (by decide) (hr 2 (by kernel_rfl)); exact h1.2.trans h1.1
                      refine .inl ⟨(fun k b h => by cases h), .inr (.inr ⟨3, by decide, rfl, 68, #[v11, (.agg #[.bool x.mn.has, .int .i64 x.mn.val, .int .i64 x.mn.org, .int .i64 x.mn.age])], W, (by simp [go_sem, Act.eval, q0, q1]), ?_⟩)⟩
                      refine (callsIn_wide.2 (xext_any _ _ _ _ _ _ W HXO.out.mn.1 HXO.out.mn.2 hbt (by (try simp only [List.length_append]); have := HIL.out; omega))).mono ?_
                      rintro e W' ⟨u, rfl, hO, hBe⟩
                      exact ⟨u, rfl, trivial, hJ.call 3 _ (by rfl) (by decide) hBe (hO.mono (Nat.le_trans HBW11.out hJ.1.size)) d0b hdi⟩
                    · replace ho := op_at ho (by rfl)
                      subst ho
                      have f7 : a.tmps.getD 7 undef = (.pointer (some ⟨xb, 0, none⟩)) := hf 7 (by kernel_rfl)
                      exact .inl ⟨(fun k b h => by cases h), .inl ⟨4, by decide, rfl, (.pointer (some ⟨xb, 15, none⟩)), W, (by simp [go_sem, Act.eval, f7]), rfl, hJ.yield (by rfl) (by decide) (by decide)⟩⟩
                    · replace ho := op_at ho (by rfl)
                      subst ho
                      have d4 : a.tmps.getD 103 undef = (.pointer (some ⟨xb, 15, none⟩)) := by have h1 := hF 4 (by decide) (hr 4 (by kernel_rfl)); exact h1.2.trans h1.1
                      have c15 := cell_of_row _ _ 15 _ _ _ (stays KX11.out hJ.1)
                      have c16 := cell_of_row _ _ 16 _ _ _ (stays KX11.out hJ.1)
                      have c17 := cell_of_row _ _ 17 _ _ _ (stays KX11.out hJ.1)
                      have c18 := cell_of_row _ _ 18 _ _ _ (stays KX11.out hJ.1)
                      exact .inl ⟨(fun k b h => by cases h), .inl ⟨5, by decide, rfl, (.agg #[.bool x.mx.has, .int .i64 x.mx.val, .int .i64 x.mx.org, .int .i64 x.mx.age]), W, (by simp [go_sem, Act.eval, d4, c15, c16, c17, c18]), rfl, hJ.yield (by rfl) (by decide) (by decide)⟩⟩
                    · replace ho := op_at ho (by rfl)
                      subst ho
                      have hbt := (hJ.own 3 _ (by rfl) (hr 3 (by kernel_rfl))).1.bts
                      have d0b : d 0 = true := (hJ.own 3 _ (by rfl) (hr 3 (by kernel_rfl))).2
                      have q0 : a.tmps.getD 102 undef = vs 3 := (hF 3 (by decide) (hr 3 (by kernel_rfl))).2
                      have q1 : a.tmps.getD 104 undef = (.agg #[.bool x.mx.has, .int .i64 x.mx.val, .int .i64 x.mx.org, .int .i64 x.mx.age]) := by have h1 := hF 5 (by decide) (hr 5 (by kernel_rfl)); exact h1.2.trans h1.1
                      refine .inl ⟨(fun k b h => by cases h), .inr (.inr ⟨6, by decide, rfl, 68, #[(vs 3), (.agg #[.bool x.mx.has, .int .i64 x.mx.val, .int .i64 x.mx.org, .int .i64 x.mx.age])], W, (by simp [go_sem, Act.eval, q0, q1]), ?_⟩)⟩
                      refine (callsIn_wide.2 (xext_any _ _ _ _ _ _ W HXO.out.mx.1 HXO.out.mx.2 hbt (by (try simp only [List.length_append]); have := HIL.out; omega))).mono ?_
                      rintro e W' ⟨u, rfl, hO, hBe⟩
                      exact ⟨u, rfl, trivial, hJ.call 6 _ (by rfl) (by decide) hBe (hO.mono (Nat.le_trans HBW11.out hJ.1.size)) d0b hdi⟩
                    · replace ho := op_at ho (by rfl)
                      subst ho
                      have q0 : a.tmps.getD 105 undef = vs 6 := (hF 6 (by decide) (hr 6 (by kernel_rfl))).2
                      exact .inl ⟨(fun k b h => by cases h), .inl ⟨7, by decide, rfl, vs 6, W, (by simp [go_sem, Act.eval, q0]), trivial, hJ.last (by rfl) (by decide) (hr 6 (by kernel_rfl))⟩⟩
                  case finre =>
                    intro d vs Wre hall hJ hF
                    have h0 : vs 0 = v11 := hF 0 (by decide)
                    have h1 : vs 1 = (.pointer (some ⟨xb, 11, none⟩)) := hF 1 (by decide)
                    have h2 : vs 2 = (.agg #[.bool x.mn.has, .int .i64 x.mn.val, .int .i64 x.mn.org, .int .i64 x.mn.age]) := hF 2 (by decide)
                    have h3 : (fun _ => True) (vs 3) := hF 3 (by decide)
                    have h4 : vs 4 = (.pointer (some ⟨xb, 15, none⟩)) := hF 4 (by decide)
                    have h5 : vs 5 = (.agg #[.bool x.mx.has, .int .i64 x.mx.val, .int .i64 x.mx.org, .int .i64 x.mx.age]) := hF 5 (by decide)
                    have h6 : (fun _ => True) (vs 6) := hF 6 (by decide)
                    have h7 : (fun _ => True) (vs 7) := hF 7 (by decide)
                    clear hF
                    have hans := (hJ.2.2 (hall 7 (by decide))).2
                    have hown := (hJ.own 6 _ (by rfl) (hall 6 (by decide))).1
                    have hLB := hJ.1
                    clear hJ hall h3 h6 h7
                    show (_ : Exit → Act → World → Prop) Exit.normal (puts _ vs 8 _) Wre
                    simp only [puts, h0, h1, h2, h4, h5, List.getD_cons_zero, List.getD_cons_succ]
                    clear h0 h1 h2 h4 h5
                    simp only [hans]
                    generalize vs 6 = v12 at *
                    clear hans
                    have HO12 := Lib.hid hown
                    have LW12 := Lib.hid (LW11.out.trans (hLB.mono LW11.out.size))
                    have KX12 := Lib.hid (stays KX11.out hLB)
                    have KC12 := Lib.hid (stays KC11.out hLB)
                    have KW12 := Lib.hid (stays KW11.out hLB)
                    have HBW12 := Lib.hid LW12.out.size
                    clear hown hLB HO11 LW11 KX11 KC11 KW11 HBW11
                    go_simp
                    have hpn : bodyP p (k + 1) = (((((((((((((bl ++ (vint x.name.length ++ x.name)) ++ vint (numW x.epoch)) ++ vint (numW x.maker)) ++ vint (flagN x.alive)) ++ vint (numW x.kind)) ++ vint (numW x.scale)) ++ vint (numW x.ver)) ++ vint (numW x.writer)) ++ vint (zig x.flow)) ++ vint (flagN x.hasRest)) ++ vint (zig x.rest)) ++ extR x.mn) ++ extR x.mx) := by
                      rw [bodyP_succ p k (by have := HN.out; omega), ← HX.out, ← HBL.out]
                      simp only [itemR, List.append_assoc]
                    have ho := HO12.out
                    rw [← hpn] at ho
                    have HO13 := Lib.hid ho
                    clear hpn ho HO12
                    go_wp2_with (fail)
                    go_roundw
                    case rel => exact ⟨k + 1, by omega, by go_num, HO13, LW12, KW12⟩
                    case measure => simp [intOf] <;> omega
        · have hkn : ¬ ((k : Int) < (n : Int)) := by omega
          have hke : k = p.items.length := by have := HN.out; omega
          have ho := HO.out
          rw [hke, bodyP_all] at ho
          have HOE := Lib.hid ho
          clear hlt hke ho HO
          go_wp2
          go_ret
          exact ⟨_, rfl, HOE.out, LW.out⟩
theorem Itm64.of {x : Itm} (h : ItmOk x) : Itm64 x := by
  obtain ⟨h1, h2, h3, h4, h5, h6, h7, h8, h9⟩ := h
  exact ⟨⟨by omega, by omega⟩, ⟨by omega, by omega⟩, ⟨by omega, by omega⟩, ⟨by omega, by omega⟩⟩
theorem getD_mem {xs : List Itm} {x : Itm} (h : x ∈ xs) : ∃ k, k < xs.length ∧ x = xs.getD k nilI := by
  obtain ⟨k, hk, rfl⟩ := List.mem_iff_getElem.1 h
  exact ⟨k, hk, by simp [List.getD, hk]⟩
theorem fit_mem {p : Pkt} (h : fitP p = true) : ∀ x ∈ p.items, ItmOk x := fun x hx => by
  obtain ⟨k, hk, rfl⟩ := getD_mem hx
  exact fit_items h k hk
end Go.Proofs.YtgnpjenpehfjbaaDoor

