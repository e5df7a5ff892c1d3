/- Wire: copied (by program: wip/tools/gen_wire26.py).
Wire: equality of items and packets; slices.Equal, the document's Same (by program: wip/tools/gen_wire27.py).
Wire: the document's Encode (by program: wip/tools/gen_wire28.py). -/
import Derived.Test.YtgnpjenpehfjbaaDoorMK
import Derived.Test.YtgnpjenpehfjbaaDoorMJ
set_option linter.unusedSimpArgs false
set_option linter.unusedVariables false
namespace Go.Proofs.YtgnpjenpehfjbaaDoor
open Go.RowKit

/-- a slice as it comes: nil, or it has an address -/
def Sl (v : Value) : Prop := v = .slice none 0 0 ∨ ∃ a n c, v = .slice (some a) n c
theorem info_item : (Tryd.prog.info? 38).map (fun i => (i.zero, i.size, i.bytes)) = some (some (.agg #[.string ⟨#[]⟩, .int .i64 0, .int .i64 0, .bool false, .int .i64 0, .int .i64 0, .int .i64 0, .int .i64 0, .int .i64 0, .bool false, .int .i64 0, .bool false, .int .i64 0, .int .i64 0, .int .i64 0, .bool false, .int .i64 0, .int .i64 0, .int .i64 0]), 19, 160) := by kernel_rfl
abbrev OwnX (w : World) (B : Nat) (v : Value) (xs : List Itm) : Prop := w.ownsRow B 38 19 v xs.length (xs.flatMap Itm.cells)
theorem itm_cells (x : Itm) : ∀ u ∈ x.cells, u.oneCell' = true := by
  intro u hu
  simp only [Itm.cells, List.mem_cons, List.not_mem_nil, or_false] at hu
  rcases hu with rfl | rfl | rfl | rfl | rfl | rfl | rfl | rfl | rfl | rfl | rfl | rfl | rfl | rfl | rfl | rfl | rfl | rfl | rfl <;> rfl
theorem flat_itm (xs : List Itm) (i : Nat) (x : Itm) (h : xs[i]? = some x) (j : Nat) (hj : j < 19) : (xs.flatMap Itm.cells)[i * 19 + j]? = x.cells[j]? := by
  induction xs generalizing i with
  | nil => simp at h
  | cons a t ih =>
    have ha : a.cells.length = 19 := rfl
    cases i with
    | zero => simp at h; subst h; rw [List.flatMap_cons, List.getElem?_append_left (by omega)]; simp
    | succ i =>
      rw [List.flatMap_cons, List.getElem?_append_right (by omega), ha, show (i + 1) * 19 + j - 19 = i * 19 + j by omega]
      exact ih i (by simpa using h)
theorem flat_len (xs : List Itm) : (xs.flatMap Itm.cells).length = xs.length * 19 := by
  induction xs with
  | nil => rfl
  | cons a t ih => rw [List.flatMap_cons, List.length_append, ih]; simp; omega
theorem OwnX.ims {w : World} {B : Nat} {v : Value} {xs : List Itm} (h : OwnX w B v xs) : Ims w w.heap.size v xs ∧ Sl v := by
  rcases h.2 with ⟨h1, h2⟩ | ⟨g, cap, cur, rfl, hg, hh, hc, hm, hs, ht⟩
  · obtain rfl : xs = [] := List.eq_nil_of_length_eq_zero (by omega)
    subst h1
    exact ⟨Ims.nil _ _, .inl rfl⟩
  · refine ⟨⟨_, cap, rfl, hc, by omega, fun hne => ⟨g, 0, rfl, (Array.getElem?_eq_some_iff.1 hh).1, fun i x hx j u hu => ?_⟩⟩, .inr ⟨_, _, _, rfl⟩⟩
    have hj : j < 19 := (List.getElem?_eq_some_iff.1 hu).1
    have hi := (List.getElem?_eq_some_iff.1 hx).1
    rw [Nat.zero_add, World.ownsRow.cellAt h _ (by omega), flat_itm xs i x hx j hj]
    exact hu

theorem OwnX.sets {w : World} {B b : Nat} {v : Value} {xs : List Itm} (h : OwnX w B v xs) (vs : List Value) (o : Nat) (hb : b < B := by omega) : OwnX (w.setCells b o vs) B v xs := by
  induction vs generalizing o w with
  | nil => exact h
  | cons a r ih =>
    rw [World.setCells]
    exact ih (ownsRow_setCell_below (a := ⟨b, o, none⟩) h hb a) (o + 1)
theorem results_cell1 {fn : Func} {p : Tmp} {ty : TypeId} (h : fn.results = #[.cell p ty]) (tmps : Array Value) (P : Program) (w : World) :
    (results fn tmps).run P w = ((asAddr (tmps.getD p undef)).run P w).andThen fun a w₁ => (loadVar ty a).run P w₁ := by
  simp only [results, h]
  simp [Sem.run_bind, Result.andThen]

set_option maxRecDepth 100000 in
set_option maxHeartbeats 4000000 in
theorem copied_any (p : Pkt) (v : Value) (w : World) (hv : Ims w w.heap.size v p.items) (hsl : Sl v) (hbulk : p.items.length * 160 ≤ 140737488355328) :
    Calls Tryd.prog 10 #[.agg (p.cells v).toArray] w fun e w' => ∃ u, e = .returned (.agg (p.cells u).toArray) ∧ Ims w' w'.heap.size u p.items ∧ Sl u ∧ Below w.heap.size w w' := by
  have HV := Lib.hid hv
  have HBK := Lib.hid hbulk
  have HSL := Lib.hid hsl
  obtain ⟨kind, hk1⟩ : ∃ x, x = p.kind := ⟨_, rfl⟩
  obtain ⟨frm, hk2⟩ : ∃ x, x = p.frm := ⟨_, rfl⟩
  obtain ⟨to, hk3⟩ : ∃ x, x = p.to := ⟨_, rfl⟩
  obtain ⟨boot, hk4⟩ : ∃ x, x = p.boot := ⟨_, rfl⟩
  obtain ⟨life, hk5⟩ : ∃ x, x = p.life := ⟨_, rfl⟩
  obtain ⟨echo, hk6⟩ : ∃ x, x = p.echo := ⟨_, rfl⟩
  obtain ⟨elife, hk7⟩ : ∃ x, x = p.elife := ⟨_, rfl⟩
  have hpc : ∀ u, (p.cells u).toArray = #[.int .i64 kind, .int .i64 frm, .int .i64 to, .int .i64 boot, .int .i64 life, .int .i64 echo, .int .i64 elife, u] := fun u => by rw [hk1, hk2, hk3, hk4, hk5, hk6, hk7]
  have HPC := Lib.hid hpc
  rw [hpc]
  clear hv hbulk hsl hpc hk1 hk2 hk3 hk4 hk5 hk6 hk7
  obtain ⟨g1, k1⟩ := new_block w (.cells #[.int .i64 kind, .int .i64 frm, .int .i64 to, .int .i64 boot, .int .i64 life, .int .i64 echo, .int .i64 elife, v] 24)
  obtain ⟨g2, k2⟩ := new_block (w.alloc (.cells #[.int .i64 kind, .int .i64 frm, .int .i64 to, .int .i64 boot, .int .i64 life, .int .i64 echo, .int .i64 elife, v] 24)) (.cells #[.int .i64 0, .int .i64 0, .int .i64 0, .int .i64 0, .int .i64 0, .int .i64 0, .int .i64 0, .slice none 0 0] 24)
  obtain ⟨g3, k3⟩ := new_block ((w.alloc (.cells #[.int .i64 kind, .int .i64 frm, .int .i64 to, .int .i64 boot, .int .i64 life, .int .i64 echo, .int .i64 elife, v] 24)).alloc (.cells #[.int .i64 0, .int .i64 0, .int .i64 0, .int .i64 0, .int .i64 0, .int .i64 0, .int .i64 0, .slice none 0 0] 24)) (.cells #[.int .i64 kind, .int .i64 frm, .int .i64 to, .int .i64 boot, .int .i64 life, .int .i64 echo, .int .i64 elife, .slice none 0 0] 24)
  have G12 := g2.trans (g3.mono g2.size)
  have LB := Lib.hid (g1.trans (G12.mono g1.size))
  have KV := Lib.hid (stays k1 G12)
  have K2 := Lib.hid (stays k2 g3)
  have K3 := Lib.hid k3
  simp only [World.size_alloc] at K2 K3
  clear g1 g2 g3 k1 k2 k3 G12
  have hend : ∀ (u : Value) (w1 : World), OwnX w1 (w.heap.size + 1 + 1 + 1) u p.items → Below w.heap.size w w1 → w1.heap[w.heap.size + 1]? = some (.cells #[.int .i64 0, .int .i64 0, .int .i64 0, .int .i64 0, .int .i64 0, .int .i64 0, .int .i64 0, .slice none 0 0] 24) → w1.heap[w.heap.size + 1 + 1]? = some (.cells #[.int .i64 kind, .int .i64 frm, .int .i64 to, .int .i64 boot, .int .i64 life, .int .i64 echo, .int .i64 elife, .slice none 0 0] 24) → u.oneCell' = true →
      ∃ W4 : World, (w1.setCell ⟨w.heap.size + 1 + 1, 7, none⟩ u).setCells (w.heap.size + 1) 0 [.int .i64 kind, .int .i64 frm, .int .i64 to, .int .i64 boot, .int .i64 life, .int .i64 echo, .int .i64 elife, u] = W4 ∧ (w1.setCell ⟨w.heap.size + 1 + 1, 7, none⟩ u).heap[w.heap.size + 1 + 1]? = some (.cells #[.int .i64 kind, .int .i64 frm, .int .i64 to, .int .i64 boot, .int .i64 life, .int .i64 echo, .int .i64 elife, u] 24) ∧ (w1.setCell ⟨w.heap.size + 1 + 1, 7, none⟩ u).heap[w.heap.size + 1]? = some (.cells #[.int .i64 0, .int .i64 0, .int .i64 0, .int .i64 0, .int .i64 0, .int .i64 0, .int .i64 0, .slice none 0 0] 24) ∧ W4.heap[w.heap.size + 1]? = some (.cells #[.int .i64 kind, .int .i64 frm, .int .i64 to, .int .i64 boot, .int .i64 life, .int .i64 echo, .int .i64 elife, u] 24) ∧ OwnX W4 (w.heap.size + 1 + 1 + 1) u p.items ∧ Below w.heap.size w W4 := by
    intro u w1 ho hb h2 h3 hu
    have e3 := set_block w1 (w.heap.size + 1 + 1) 7 _ _ u h3
    have e2 := (set_other w1 (w.heap.size + 1 + 1) 7 (w.heap.size + 1) u (by omega)).trans h2
    have e4 := setCells_block 24 (w.heap.size + 1) [.int .i64 kind, .int .i64 frm, .int .i64 to, .int .i64 boot, .int .i64 life, .int .i64 echo, .int .i64 elife, u] 0 _ _ e2
    refine ⟨_, rfl, e3, e2, e4, ?_, setCells_below (by omega) _ _ _ _ (bel_set (by omega) hb)⟩
    exact OwnX.sets (ownsRow_setCell_below (a := ⟨w.heap.size + 1 + 1, 7, none⟩) ho (Nat.lt_succ_self _) u) _ _
  have HEND := Lib.hid hend
  clear hend
  obtain ⟨i0, hi, hz0, hz1, hz2⟩ := info_parts info_item
  have HI := Lib.hid (And.intro hi (And.intro hz0 (And.intro hz1 hz2)))
  clear hi hz0 hz1 hz2
  rcases HSL.out with hv0 | ⟨ad, n, c, hv1⟩
  · have hnil : p.items = [] := by
      obtain ⟨ao, cap, h1, -⟩ := HV.out
      rw [hv0] at h1
      injection h1 with _ h1 _
      exact List.eq_nil_of_length_eq_zero h1.symm
    have HNIL := Lib.hid hnil
    clear hnil HBK HV KV HSL
    subst hv0
    go_enter Tryd.func10, Tryd.ntmps10
    go_wp2_with (at_builtin; (refine wpList_append_own_none rfl _ _ 22 rfl (w.heap.size + 1 + 1 + 1) 38 i0 19 Tryd.underlying22 HI.out.1 _ 0 [] rfl (World.ownsRow_nil _ _ _ _) rfl ?_))
    refine bodyPost_ret (v := .agg #[.int .i64 kind, .int .i64 frm, .int .i64 to, .int .i64 boot, .int .i64 life, .int .i64 echo, .int .i64 elife, .slice none 0 0]) (by simp [results, Tryd.results10, go_sem]) rfl ⟨.slice none 0 0, by rw [HPC.out], by rw [HNIL.out]; exact Ims.nil _ _, .inl rfl, (((Below.refl _ _).alloc (Nat.le_refl _) _).alloc (by simp) _).alloc (by simp; omega) _⟩
  · obtain ⟨ao, cap, h1, hcap, hmx, hcc⟩ := HV.out
    rw [hv1] at h1
    injection h1 with h1 h2 h3
    subst h1 h2 h3 hv1
    have hbk := HBK.out
    have hnews : ∀ j u, (p.items.flatMap Itm.cells)[j]? = some u → (((w.alloc (.cells #[.int .i64 kind, .int .i64 frm, .int .i64 to, .int .i64 boot, .int .i64 life, .int .i64 echo, .int .i64 elife, .slice (some ad) p.items.length c] 24)).alloc (.cells #[.int .i64 0, .int .i64 0, .int .i64 0, .int .i64 0, .int .i64 0, .int .i64 0, .int .i64 0, .slice none 0 0] 24)).alloc (.cells #[.int .i64 kind, .int .i64 frm, .int .i64 to, .int .i64 boot, .int .i64 life, .int .i64 echo, .int .i64 elife, .slice none 0 0] 24)).cell? (ad.add j) = some u := by
      intro j u hj
      have hjl := (List.getElem?_eq_some_iff.1 hj).1
      rw [flat_len] at hjl
      obtain ⟨b, off, hao, hbl, hcell⟩ := hcc (by intro e; rw [e] at hjl; simp at hjl)
      injection hao with hao
      subst hao
      have hd : j / 19 < p.items.length := by omega
      have h19 := flat_itm p.items (j / 19) _ (getD_some hd) (j % 19) (by omega)
      rw [show j / 19 * 19 + j % 19 = j by omega, hj] at h19
      have := hcell (j / 19) _ (getD_some hd) (j % 19) u h19.symm
      rw [Addr.add_lit, LB.out.cell (p := ⟨b, off + j, none⟩) hbl]
      rw [show off + j = off + j / 19 * 19 + j % 19 by omega]
      exact this
    have HNEWS := Lib.hid hnews
    have HMX := Lib.hid hmx
    obtain ⟨n, hn⟩ : ∃ n, n = p.items.length := ⟨_, rfl⟩
    rw [← hn] at KV HNEWS LB K2 K3 ⊢
    have HN := Lib.hid hn
    clear hnews hbk hcc hcap HV HSL hmx hn
    go_enter Tryd.func10, Tryd.ntmps10
    go_upto_region 3 with (fail)
    have c7 := cell_of_row _ _ 7 _ _ _ K3.out
    have b7 := cell_of_row _ _ 7 _ _ _ KV.out
    refine wp_region_lit ?_
    refine wpList_run (v := .pointer (some ⟨w.heap.size + 1 + 1, 7, none⟩)) rfl (by simp [go_sem, Act.eval]; rfl) ?_
    refine wpList_run (v := .slice none 0 0) rfl (by simp [go_sem, Act.eval, c7]; rfl) ?_
    refine wpList_run (v := .pointer (some ⟨w.heap.size, 7, none⟩)) rfl (by simp [go_sem, Act.eval]; rfl) ?_
    refine wpList_run (v := .slice (some ad) n c) rfl (by simp [go_sem, Act.eval, b7]; rfl) ?_
    clear c7 b7
    (refine wpList_append_own _ rfl _ _ 22 rfl (w.heap.size + 1 + 1 + 1) 38 i0 _ 19 160 Tryd.underlying22 HI.out.1 HI.out.2.1 HI.out.2.2.1 HI.out.2.2.2 rfl (by decide) _ 0 [] rfl (World.ownsRow_nil _ _ _ _) ad n c (p.items.flatMap Itm.cells) rfl (by rw [flat_len, HN.out]) HNEWS.out (by intro u hu; obtain ⟨x, -, hx⟩ := List.mem_flatMap.1 hu; exact itm_cells x u hx) (by have := HMX.out; have := HN.out; omega) (by have := HBK.out; have := HN.out; omega) (by simp) ?_)
    intro v1 w1 hown hg _
    obtain ⟨W3, hW3⟩ : ∃ W, W = ((w.alloc (.cells #[.int .i64 kind, .int .i64 frm, .int .i64 to, .int .i64 boot, .int .i64 life, .int .i64 echo, .int .i64 elife, .slice (some ad) n c] 24)).alloc (.cells #[.int .i64 0, .int .i64 0, .int .i64 0, .int .i64 0, .int .i64 0, .int .i64 0, .int .i64 0, .slice none 0 0] 24)).alloc (.cells #[.int .i64 kind, .int .i64 frm, .int .i64 to, .int .i64 boot, .int .i64 life, .int .i64 echo, .int .i64 elife, .slice none 0 0] 24) := ⟨_, rfl⟩
    rw [← hW3] at LB K2 K3 hg
    have hown' : OwnX w1 (w.heap.size + 1 + 1 + 1) v1 p.items := by
      have h := hown
      rw [Nat.zero_add, List.nil_append, HN.out] at h
      exact h
    have hb1 : Below W3.heap.size W3 w1 := (Below.refl _ _).grown hg (Nat.le_refl _) (fun k e => by cases e)
    obtain ⟨a1, n1, c1, rfl⟩ : ∃ a n c, v1 = .slice a n c := by
      rcases hown'.2 with ⟨h, -⟩ | ⟨g, cap, cur, h, -⟩ <;> exact ⟨_, _, _, h⟩
    have hon : (Value.slice a1 n1 c1).oneCell' = true := rfl
    obtain ⟨W4, h4, K3', K2', K4, ho4, hb4⟩ := HEND.out (.slice a1 n1 c1) w1 hown' (LB.out.trans (hb1.mono LB.out.size)) (stays K2.out hb1) (stays K3.out hb1) hon
    have K2y := Lib.hid (stays K2.out hb1)
    have K2x := Lib.hid (stays K3.out hb1)
    clear hown hg hW3
    have c7 := cell_of_row _ _ 7 _ _ _ K2x.out
    have z7 := frozen_of_row _ _ 7 _ _ K2x.out

    refine wpList_run (v := .pointer (some ⟨w.heap.size + 1 + 1, 7, none⟩)) (w' := w1) rfl (by simp [go_sem, Act.eval]) ?_
    refine wpList_skip (w' := w1.setCell ⟨w.heap.size + 1 + 1, 7, none⟩ (.slice a1 n1 c1)) rfl rfl (exec_store 22 _ _ rfl _ _ rfl rfl (by simp [go_sem, c7, z7])) ?_
    refine wpList_nil ?_
    go_simp
    go_upto_region 4 with (fail)
    refine wp_region_lit ?_
    refine wpList_run (w' := w1.setCell ⟨w.heap.size + 1 + 1, 7, none⟩ (.slice a1 n1 c1)) rfl (exec_load_row 24 _ rfl (w.heap.size + 1 + 1) _ _ (.struct (Tryd.prog.fieldsOf 24)) rfl K3' (by kernel_rfl) rfl (by kernel_rfl)) ?_
    refine wpList_skip (w' := (w1.setCell ⟨w.heap.size + 1 + 1, 7, none⟩ (.slice a1 n1 c1)).setCells (w.heap.size + 1) 0 [.int .i64 kind, .int .i64 frm, .int .i64 to, .int .i64 boot, .int .i64 life, .int .i64 echo, .int .i64 elife, (.slice a1 n1 c1)]) rfl rfl (exec_store 24 _ _ rfl _ _ rfl rfl (run_store_row _ (w.heap.size + 1) 0 _ _ 24 #[.int .i64 kind, .int .i64 frm, .int .i64 to, .int .i64 boot, .int .i64 life, .int .i64 echo, .int .i64 elife, (.slice a1 n1 c1)] K2' (by simp) (by kernel_rfl) (by simp [Value.oneCell']))) ?_
    refine wpList_nil ?_
    go_simp

    go_wp2_with (fail)
    refine bodyPost_ret (v := .agg #[.int .i64 kind, .int .i64 frm, .int .i64 to, .int .i64 boot, .int .i64 life, .int .i64 echo, .int .i64 elife, .slice a1 n1 c1]) ?_ rfl ⟨.slice a1 n1 c1, by rw [HPC.out], ho4.ims.1, ho4.ims.2, hb4⟩
    rw [results_cell1 (p := 2) (ty := 24) Tryd.results10]
    have hl := run_loadVar_row (P := Tryd.prog) W4 (w.heap.size + 1) 24 24 #[.int .i64 kind, .int .i64 frm, .int .i64 to, .int .i64 boot, .int .i64 life, .int .i64 echo, .int .i64 elife, .slice a1 n1 c1] (0, 0) (.struct (Tryd.prog.fieldsOf 24)) K4 (by kernel_rfl) rfl (by kernel_rfl)

    exact hl

end Go.Proofs.YtgnpjenpehfjbaaDoor

namespace Go.Proofs.YtgnpjenpehfjbaaDoor
open Go.RowKit

def sameI (x y : Itm) : Bool := ((x.name == y.name) && ((x.epoch == y.epoch) && ((x.maker == y.maker) && ((x.alive == y.alive) && ((x.kind == y.kind) && ((x.scale == y.scale) && ((x.ver == y.ver) && ((x.writer == y.writer) && ((x.flow == y.flow) && ((x.hasRest == y.hasRest) && ((x.rest == y.rest) && ((x.mn.has == y.mn.has) && ((x.mn.val == y.mn.val) && ((x.mn.org == y.mn.org) && ((x.mn.age == y.mn.age) && ((x.mx.has == y.mx.has) && ((x.mx.val == y.mx.val) && ((x.mx.org == y.mx.org) && (x.mx.age == y.mx.age)))))))))))))))))))
theorem sameI_iff {x y : Itm} : sameI x y = true ↔ x = y := by
  obtain ⟨a0, a1, a2, a3, a4, a5, a6, a7, a8, a9, a10, ⟨a11, a12, a13, a14⟩, ⟨a15, a16, a17, a18⟩⟩ := x
  obtain ⟨b0, b1, b2, b3, b4, b5, b6, b7, b8, b9, b10, ⟨b11, b12, b13, b14⟩, ⟨b15, b16, b17, b18⟩⟩ := y
  simp [sameI, and_assoc]
def sameL (xs ys : List Itm) : Bool := decide (xs.length = ys.length) && (List.range xs.length).all fun k => sameI (xs.getD k nilI) (ys.getD k nilI)
theorem sameL_iff {xs ys : List Itm} : sameL xs ys = true ↔ xs = ys := by
  unfold sameL
  simp only [Bool.and_eq_true, decide_eq_true_eq, List.all_eq_true, List.mem_range, sameI_iff]
  constructor
  · rintro ⟨h1, h2⟩
    refine List.ext_getElem h1 fun k hk hk2 => ?_
    have := h2 k hk
    simpa [List.getD, hk, hk2] using this
  · rintro rfl
    exact ⟨rfl, fun _ _ => rfl⟩
def sameH (p q : Pkt) : Bool := ((p.kind == q.kind) && ((p.frm == q.frm) && ((p.to == q.to) && ((p.boot == q.boot) && ((p.life == q.life) && ((p.echo == q.echo) && (p.elife == q.elife)))))))
def sameP (p q : Pkt) : Bool := sameH p q && sameL p.items q.items
theorem sameP_iff {p q : Pkt} : sameP p q = true ↔ p = q := by
  obtain ⟨a0, a1, a2, a3, a4, a5, a6, a7⟩ := p
  obtain ⟨b0, b1, b2, b3, b4, b5, b6, b7⟩ := q
  unfold sameP sameH
  simp [sameL_iff, and_assoc]
theorem str_eq {a b : List UInt8} : ((⟨a.toArray⟩ : ByteArray) = ⟨b.toArray⟩) ↔ a = b := by
  constructor
  · intro h
    have := congrArg (fun (x : ByteArray) => x.data.toList) h
    simpa using this
  · rintro rfl; rfl
theorem beqD {α : Type} [BEq α] [LawfulBEq α] [DecidableEq α] (a b : α) : (a == b) = decide (a = b) := by rw [Bool.eq_iff_iff]; simp
theorem bool_eqI (a b : Int) (W : World) : (if a = b then Result.ok (Value.bool true) W else Result.ok (Value.bool false) W) = .ok (.bool (a == b)) W := by
  by_cases h : a = b <;> simp [h]
theorem bool_neI (a b : Int) (W : World) : (if a = b then Result.ok (Value.bool false) W else Result.ok (Value.bool true) W) = .ok (.bool (!(a == b))) W := by
  by_cases h : a = b <;> simp [h]
theorem bool_chainN {c : Prop} [Decidable c] {r : Bool} {W : World} {b : Bool} {x : Result Value} (h1 : b = decide c) (h2 : c → x = .ok (.bool (!r)) W) : (if c then x else .ok (.bool true) W) = .ok (.bool (!(b && r))) W := by
  subst h1
  by_cases h : c
  · rw [if_pos h, h2 h]; simp [h]
  · rw [if_neg h]; simp [h]
set_option maxHeartbeats 2000000 in
theorem eq_I (x y : Itm) (W : World) : (binOp .eql 38 (.agg #[.string ⟨x.name.toArray⟩, .int .i64 x.epoch, .int .i64 x.maker, .bool x.alive, .int .i64 x.kind, .int .i64 x.scale, .int .i64 x.ver, .int .i64 x.writer, .int .i64 x.flow, .bool x.hasRest, .int .i64 x.rest, .bool x.mn.has, .int .i64 x.mn.val, .int .i64 x.mn.org, .int .i64 x.mn.age, .bool x.mx.has, .int .i64 x.mx.val, .int .i64 x.mx.org, .int .i64 x.mx.age]) (.agg #[.string ⟨y.name.toArray⟩, .int .i64 y.epoch, .int .i64 y.maker, .bool y.alive, .int .i64 y.kind, .int .i64 y.scale, .int .i64 y.ver, .int .i64 y.writer, .int .i64 y.flow, .bool y.hasRest, .int .i64 y.rest, .bool y.mn.has, .int .i64 y.mn.val, .int .i64 y.mn.org, .int .i64 y.mn.age, .bool y.mx.has, .int .i64 y.mx.val, .int .i64 y.mx.org, .int .i64 y.mx.age])).run Tryd.prog W = .ok (.bool (sameI x y)) W := by
  rw [run_eql_struct]
  simp [go_sem]
  unfold sameI
  repeat (first | exact bool_eqI _ _ _ | refine bool_chain (beqD _ _) fun _ => ?_)
set_option maxHeartbeats 2000000 in
theorem ne_I (x y : Itm) (W : World) : (binOp .neq 38 (.agg #[.string ⟨x.name.toArray⟩, .int .i64 x.epoch, .int .i64 x.maker, .bool x.alive, .int .i64 x.kind, .int .i64 x.scale, .int .i64 x.ver, .int .i64 x.writer, .int .i64 x.flow, .bool x.hasRest, .int .i64 x.rest, .bool x.mn.has, .int .i64 x.mn.val, .int .i64 x.mn.org, .int .i64 x.mn.age, .bool x.mx.has, .int .i64 x.mx.val, .int .i64 x.mx.org, .int .i64 x.mx.age]) (.agg #[.string ⟨y.name.toArray⟩, .int .i64 y.epoch, .int .i64 y.maker, .bool y.alive, .int .i64 y.kind, .int .i64 y.scale, .int .i64 y.ver, .int .i64 y.writer, .int .i64 y.flow, .bool y.hasRest, .int .i64 y.rest, .bool y.mn.has, .int .i64 y.mn.val, .int .i64 y.mn.org, .int .i64 y.mn.age, .bool y.mx.has, .int .i64 y.mx.val, .int .i64 y.mx.org, .int .i64 y.mx.age])).run Tryd.prog W = .ok (.bool (!sameI x y)) W := by
  rw [run_neq_struct]
  simp [go_sem]
  unfold sameI
  repeat (first | exact bool_neI _ _ _ | refine bool_chainN (beqD _ _) fun _ => ?_)
theorem exec_neq_agg {P : Program} {o : Oper} {a : Act} {W : World} (ty : TypeId) (x y : Operand) (ty' : TypeId) (ho : o.op = .binOp .neq ty x y ty') (vx vy : Array Value) (b : Bool) (hx : a.eval x = .agg vx) (hy : a.eval y = .agg vy) (hm : P.eqGuardType P.depth ty = false) (hr : (binOp .neq ty (.agg vx) (.agg vy)).run P W = .ok (.bool b) W) :
    (execOp a.eval o).run P W = .ok (.value (.bool b)) W := by
  unfold execOp
  simp only [ho, hx, hy, Sem.run_bind, run_eqGuard_agg W .neq ty x y vx vy hm, hr, Result.andThen_ok]
  rfl
theorem sameL_bad {xs ys : List Itm} (k : Nat) (hk : k < xs.length) (h : ¬ sameI (xs.getD k nilI) (ys.getD k nilI) = true) : sameL xs ys = false := by
  cases hs : sameL xs ys with
  | false => rfl
  | true =>
    unfold sameL at hs
    simp only [Bool.and_eq_true, List.all_eq_true, List.mem_range] at hs
    exact absurd (hs.2 k hk) h
theorem sameL_len {xs ys : List Itm} (h : ¬ xs.length = ys.length) : sameL xs ys = false := by
  unfold sameL
  simp [h]
theorem sameL_good {xs ys : List Itm} (h : xs.length = ys.length) (ha : ∀ j, j < xs.length → sameI (xs.getD j nilI) (ys.getD j nilI) = true) : sameL xs ys = true := by
  unfold sameL
  simp only [Bool.and_eq_true, decide_eq_true_eq, List.all_eq_true, List.mem_range]
  exact ⟨h, ha⟩

set_option maxRecDepth 100000 in
set_option maxHeartbeats 4000000 in
theorem equal_any (v u : Value) (xs ys : List Itm) (w : World) (hv : Ims w w.heap.size v xs) (hu : Ims w w.heap.size u ys) :
    Calls Tryd.prog 48 #[v, u] w fun e w' => e = .returned (.bool (sameL xs ys)) ∧ Below w.heap.size w w' := by
  obtain ⟨a1, c1, rfl, h1, h2⟩ := hv.slice
  obtain ⟨a2, c2, rfl, h3, h4⟩ := hu.slice
  have HV := Lib.hid hv
  have HU := Lib.hid hu
  clear hv hu h1 h3 h4
  obtain ⟨R, hR⟩ : ∃ R, R = sameL xs ys := ⟨_, rfl⟩
  rw [← hR]
  have HR := Lib.hid hR
  obtain ⟨n, hn⟩ : ∃ n, n = xs.length := ⟨_, rfl⟩
  have hmx' : n ≤ 9223372036854775807 := by rw [hn]; unfold maxLen at h2; exact h2
  clear h2
  obtain ⟨m, hm⟩ : ∃ n, n = ys.length := ⟨_, rfl⟩
  rw [← hn] at HV ⊢
  rw [← hm] at HU ⊢
  have HN := Lib.hid hn
  have HM := Lib.hid hm
  by_cases hnm : n = m
  case neg =>
    have hr : R = false := by rw [hR]; exact sameL_len (by omega)
    have e1 : ¬ ((n : Int) = (m : Int)) := by omega
    clear HR hR hn hm
    subst hr
    go_enter Tryd.func48, Tryd.ntmps48
    go_wp2
    go_ret
    exact ⟨rfl, Below.refl _ _⟩
  subst hnm
  clear hR hn hm
  go_enter Tryd.func48, Tryd.ntmps48
  go_wp2_with (fail)
  go_loopw [13] (fun i wr => ∃ k : Nat, k ≤ n ∧ i = .int .i64 (k : Int) ∧ Hid (∀ j, j < k → sameI (xs.getD j nilI) (ys.getD j nilI) = true) ∧ Hid (Below w.heap.size w wr)) (fun i _ => n - (intOf i).toNat)
  case atStart => exact ⟨0, by omega, rfl, (fun j hj => absurd hj (Nat.not_lt_zero j)), Below.refl _ _⟩
  case round =>
    obtain ⟨k, hk, rfl, HG, LW⟩ := hrel
    by_cases hlt : k < n
    · have hkx : k < xs.length := by have := HN.out; omega
      have hky : k < ys.length := by have := HM.out; omega
      obtain ⟨b1, o1, ha1, hb1, hcx⟩ := (HV.out.below LW.out (Nat.le_refl _)).at k hkx
      obtain ⟨b2, o2, ha2, hb2, hcy⟩ := (HU.out.below LW.out (Nat.le_refl _)).at k hky
      subst ha1 ha2
      obtain ⟨x, hx⟩ : ∃ x, x = xs.getD k nilI := ⟨_, rfl⟩
      obtain ⟨y, hy⟩ : ∃ x, x = ys.getD k nilI := ⟨_, rfl⟩
      have hrx0 := hcx k x (by rw [hx]; exact getD_some hkx)
      have hry0 := hcy k y (by rw [hy]; exact getD_some hky)
      have hrx : ∀ W, Below wr.heap.size wr W → W.rangeAt b1 (o1 + k * 19) x.cells := fun W hb j u hu => (hb.cell (p := ⟨b1, o1 + k * 19 + j, none⟩) (Nat.lt_of_lt_of_le hb1 LW.out.size)).trans (hrx0 j u hu)
      have hry : ∀ W, Below wr.heap.size wr W → W.rangeAt b2 (o2 + k * 19) y.cells := fun W hb j u hu => (hb.cell (p := ⟨b2, o2 + k * 19 + j, none⟩) (Nat.lt_of_lt_of_le hb2 LW.out.size)).trans (hry0 j u hu)
      have HX := Lib.hid hx
      have HY := Lib.hid hy
      have hki : 0 ≤ (k : Int) ∧ (k : Int) < (n : Int) := by omega
      clear hx hy hcx hcy hkx hky hrx0 hry0 hb1 hb2
      by_cases hsm : sameI x y = true
      · have hne : ∀ W, (binOp .neq 38 (.agg x.cells.toArray) (.agg y.cells.toArray)).run Tryd.prog W = .ok (.bool false) W := fun W => by have h := ne_I x y W; rw [hsm] at h; exact h
        go_wp2_with (fail)
        refine wpIn_wide (n := 5).1 (wpIn_flowM (F0 := Fence.wide) (n0 := 5) (fun _ => trivial) (fun h => by cases h) (by kernel_rfl) (by kernel_rfl) 9 9 (by kernel_rfl) (fun j => ([0, 1, 2, 3, 4, 5, 6, 7, 8] : List Nat).getD j 0) (fun j => ([16, 17, 18, 19, 20, 21, 22, 23, 24] : List Nat).getD j 0) (by kernel_rfl) (by kernel_rfl) (by kernel_rfl) (by kernel_rfl) (by kernel_rfl) (by kernel_rfl) (by kernel_rfl) (fun j zv => ([(fun zv => zv = (.slice (some ⟨b1, o1, none⟩) n c1)), (fun zv => zv = (.int .i64 (k : Int))), (fun zv => zv = (.pointer (some ⟨b1, o1 + k * 19, none⟩))), (fun zv => zv = (.agg x.cells.toArray)), (fun zv => zv = (.slice (some ⟨b2, o2, none⟩) n c2)), (fun zv => zv = (.int .i64 (k : Int))), (fun zv => zv = (.pointer (some ⟨b2, o2 + k * 19, none⟩))), (fun zv => zv = (.agg y.cells.toArray)), (fun zv => zv = (.bool false))] : List (Value → Prop)).getD j (fun _ => True) zv) (fun d vs W => Below wr.heap.size wr W) ?h0a ?stepa ?fina)
        case h0a => exact fun vs => (Below.refl _ _).drew
        case stepa =>
          intro i o a W d vs hi ho hdi hJ hf hr hF
          replace hi : i < 9 := hi
          rcases (show i = 0 ∨ i = 1 ∨ i = 2 ∨ i = 3 ∨ i = 4 ∨ i = 5 ∨ i = 6 ∨ i = 7 ∨ i = 8 by omega) with rfl | rfl | rfl | rfl | rfl | rfl | rfl | rfl | rfl
          · replace ho := op_at ho (by rfl)
            subst ho
            have f0 : a.tmps.getD 0 undef = (.slice (some ⟨b1, o1, none⟩) n c1) := hf 0 (by kernel_rfl)
            exact .inl ⟨(fun k b h => by cases h), .inl ⟨0, by decide, rfl, (.slice (some ⟨b1, o1, none⟩) n c1), W, (by simp [go_sem, Act.eval, f0]), rfl, hJ⟩⟩
          · replace ho := op_at ho (by rfl)
            subst ho
            have f5 : a.tmps.getD 5 undef = (.int .i64 (k : Int)) := hf 5 (by kernel_rfl)
            exact .inl ⟨(fun k b h => by cases h), .inl ⟨1, by decide, rfl, (.int .i64 (k : Int)), W, (by simp [go_sem, Act.eval, f5]), rfl, hJ⟩⟩
          · replace ho := op_at ho (by rfl)
            subst ho
            have d0 : a.tmps.getD 16 undef = (.slice (some ⟨b1, o1, none⟩) n c1) := by have h1 := hF 0 (by decide) (hr 0 (by kernel_rfl)); exact h1.2.trans h1.1
            have d1 : a.tmps.getD 17 undef = (.int .i64 (k : Int)) := by have h1 := hF 1 (by decide) (hr 1 (by kernel_rfl)); exact h1.2.trans h1.1
            exact .inl ⟨(fun k b h => by cases h), .inl ⟨2, by decide, rfl, (.pointer (some ⟨b1, o1 + k * 19, none⟩)), W, (by simp [go_sem, Act.eval, d0, d1, hki]), rfl, hJ⟩⟩
          · replace ho := op_at ho (by rfl)
            subst ho
            have d2 : a.tmps.getD 18 undef = (.pointer (some ⟨b1, o1 + k * 19, none⟩)) := by have h1 := hF 2 (by decide) (hr 2 (by kernel_rfl)); exact h1.2.trans h1.1
            exact .inl ⟨(fun k b h => by cases h), .inl ⟨3, by decide, rfl, (.agg x.cells.toArray), W, (exec_load_mid 38 _ rfl b1 (o1 + k * 19) x.cells (.struct (Tryd.prog.fieldsOf 38)) (by simp only [Act.eval, d2]) (hrx W hJ) (by kernel_rfl) rfl (by kernel_rfl)), rfl, hJ⟩⟩
          · replace ho := op_at ho (by rfl)
            subst ho
            have f1 : a.tmps.getD 1 undef = (.slice (some ⟨b2, o2, none⟩) n c2) := hf 1 (by kernel_rfl)
            exact .inl ⟨(fun k b h => by cases h), .inl ⟨4, by decide, rfl, (.slice (some ⟨b2, o2, none⟩) n c2), W, (by simp [go_sem, Act.eval, f1]), rfl, hJ⟩⟩
          · replace ho := op_at ho (by rfl)
            subst ho
            have f5 : a.tmps.getD 5 undef = (.int .i64 (k : Int)) := hf 5 (by kernel_rfl)
            exact .inl ⟨(fun k b h => by cases h), .inl ⟨5, by decide, rfl, (.int .i64 (k : Int)), W, (by simp [go_sem, Act.eval, f5]), rfl, hJ⟩⟩
          · replace ho := op_at ho (by rfl)
            subst ho
            have d4 : a.tmps.getD 20 undef = (.slice (some ⟨b2, o2, none⟩) n c2) := by have h1 := hF 4 (by decide) (hr 4 (by kernel_rfl)); exact h1.2.trans h1.1
            have d5 : a.tmps.getD 21 undef = (.int .i64 (k : Int)) := by have h1 := hF 5 (by decide) (hr 5 (by kernel_rfl)); exact h1.2.trans h1.1
            exact .inl ⟨(fun k b h => by cases h), .inl ⟨6, by decide, rfl, (.pointer (some ⟨b2, o2 + k * 19, none⟩)), W, (by simp [go_sem, Act.eval, d4, d5, hki]), rfl, hJ⟩⟩
          · replace ho := op_at ho (by rfl)
            subst ho
            have d6 : a.tmps.getD 22 undef = (.pointer (some ⟨b2, o2 + k * 19, none⟩)) := by have h1 := hF 6 (by decide) (hr 6 (by kernel_rfl)); exact h1.2.trans h1.1
            exact .inl ⟨(fun k b h => by cases h), .inl ⟨7, by decide, rfl, (.agg y.cells.toArray), W, (exec_load_mid 38 _ rfl b2 (o2 + k * 19) y.cells (.struct (Tryd.prog.fieldsOf 38)) (by simp only [Act.eval, d6]) (hry W hJ) (by kernel_rfl) rfl (by kernel_rfl)), rfl, hJ⟩⟩
          · replace ho := op_at ho (by rfl)
            subst ho
            have d3 : a.tmps.getD 19 undef = (.agg x.cells.toArray) := by have h1 := hF 3 (by decide) (hr 3 (by kernel_rfl)); exact h1.2.trans h1.1
            have d7 : a.tmps.getD 23 undef = (.agg y.cells.toArray) := by have h1 := hF 7 (by decide) (hr 7 (by kernel_rfl)); exact h1.2.trans h1.1
            exact .inl ⟨(fun k b h => by cases h), .inl ⟨8, by decide, rfl, (.bool false), W, (exec_neq_agg 38 _ _ _ rfl _ _ _ (by simp only [Act.eval, d3]) (by simp only [Act.eval, d7]) (by kernel_rfl) (hne W)), rfl, hJ⟩⟩
        case fina =>
          intro d vs Wa hall hJ hF
          have h0 : vs 0 = (.slice (some ⟨b1, o1, none⟩) n c1) := hF 0 (by decide)
          have h1 : vs 1 = (.int .i64 (k : Int)) := hF 1 (by decide)
          have h2 : vs 2 = (.pointer (some ⟨b1, o1 + k * 19, none⟩)) := hF 2 (by decide)
          have h3 : vs 3 = (.agg x.cells.toArray) := hF 3 (by decide)
          have h4 : vs 4 = (.slice (some ⟨b2, o2, none⟩) n c2) := hF 4 (by decide)
          have h5 : vs 5 = (.int .i64 (k : Int)) := hF 5 (by decide)
          have h6 : vs 6 = (.pointer (some ⟨b2, o2 + k * 19, none⟩)) := hF 6 (by decide)
          have h7 : vs 7 = (.agg y.cells.toArray) := hF 7 (by decide)
          have h8 : vs 8 = (.bool false) := hF 8 (by decide)
          clear hF
          have hB := hJ
          clear hJ hall
          show (_ : Exit → Act → World → Prop) Exit.normal (puts _ vs 9 _) Wa
          simp only [puts, h0, h1, h2, h3, h4, h5, h6, h7, h8, List.getD_cons_zero, List.getD_cons_succ]
          clear h0 h1 h2 h3 h4 h5 h6 h7 h8
          have LW2 := Lib.hid (LW.out.trans (hB.mono LW.out.size))
          have HG2 : Hid (∀ j, j < k + 1 → sameI (xs.getD j nilI) (ys.getD j nilI) = true) := fun j hj => by
            by_cases e : j = k
            · subst e; rw [← HX.out, ← HY.out]; exact hsm
            · exact HG.out j (by omega)
          clear hB hrx hry hne hsm
          go_simp
          go_wp2_with (fail)
          go_roundw
          case rel => exact ⟨k + 1, by omega, by go_num, HG2, LW2⟩
          case measure => simp [intOf] <;> omega
      · have hne : ∀ W, (binOp .neq 38 (.agg x.cells.toArray) (.agg y.cells.toArray)).run Tryd.prog W = .ok (.bool true) W := fun W => by have h := ne_I x y W; rw [Bool.eq_false_iff.2 hsm] at h; exact h
        have hr : R = false := by rw [HR.out]; exact sameL_bad k (by have := HN.out; omega) (by rw [← HX.out, ← HY.out]; exact hsm)
        have HRF := Lib.hid hr
        clear hr
        go_wp2_with (fail)
        refine wpIn_wide (n := 5).1 (wpIn_flowM (F0 := Fence.wide) (n0 := 5) (fun _ => trivial) (fun h => by cases h) (by kernel_rfl) (by kernel_rfl) 9 9 (by kernel_rfl) (fun j => ([0, 1, 2, 3, 4, 5, 6, 7, 8] : List Nat).getD j 0) (fun j => ([16, 17, 18, 19, 20, 21, 22, 23, 24] : List Nat).getD j 0) (by kernel_rfl) (by kernel_rfl) (by kernel_rfl) (by kernel_rfl) (by kernel_rfl) (by kernel_rfl) (by kernel_rfl) (fun j zv => ([(fun zv => zv = (.slice (some ⟨b1, o1, none⟩) n c1)), (fun zv => zv = (.int .i64 (k : Int))), (fun zv => zv = (.pointer (some ⟨b1, o1 + k * 19, none⟩))), (fun zv => zv = (.agg x.cells.toArray)), (fun zv => zv = (.slice (some ⟨b2, o2, none⟩) n c2)), (fun zv => zv = (.int .i64 (k : Int))), (fun zv => zv = (.pointer (some ⟨b2, o2 + k * 19, none⟩))), (fun zv => zv = (.agg y.cells.toArray)), (fun zv => zv = (.bool true))] : List (Value → Prop)).getD j (fun _ => True) zv) (fun d vs W => Below wr.heap.size wr W) ?h0b ?stepb ?finb)
        case h0b => exact fun vs => (Below.refl _ _).drew
        case stepb =>
          intro i o a W d vs hi ho hdi hJ hf hr hF
          replace hi : i < 9 := hi
          rcases (show i = 0 ∨ i = 1 ∨ i = 2 ∨ i = 3 ∨ i = 4 ∨ i = 5 ∨ i = 6 ∨ i = 7 ∨ i = 8 by omega) with rfl | rfl | rfl | rfl | rfl | rfl | rfl | rfl | rfl
          · replace ho := op_at ho (by rfl)
            subst ho
            have f0 : a.tmps.getD 0 undef = (.slice (some ⟨b1, o1, none⟩) n c1) := hf 0 (by kernel_rfl)
            exact .inl ⟨(fun k b h => by cases h), .inl ⟨0, by decide, rfl, (.slice (some ⟨b1, o1, none⟩) n c1), W, (by simp [go_sem, Act.eval, f0]), rfl, hJ⟩⟩
          · replace ho := op_at ho (by rfl)
            subst ho
            have f5 : a.tmps.getD 5 undef = (.int .i64 (k : Int)) := hf 5 (by kernel_rfl)
            exact .inl ⟨(fun k b h => by cases h), .inl ⟨1, by decide, rfl, (.int .i64 (k : Int)), W, (by simp [go_sem, Act.eval, f5]), rfl, hJ⟩⟩
          · replace ho := op_at ho (by rfl)
            subst ho
            have d0 : a.tmps.getD 16 undef = (.slice (some ⟨b1, o1, none⟩) n c1) := by have h1 := hF 0 (by decide) (hr 0 (by kernel_rfl)); exact h1.2.trans h1.1
            have d1 : a.tmps.getD 17 undef = (.int .i64 (k : Int)) := by have h1 := hF 1 (by decide) (hr 1 (by kernel_rfl)); exact h1.2.trans h1.1
            exact .inl ⟨(fun k b h => by cases h), .inl ⟨2, by decide, rfl, (.pointer (some ⟨b1, o1 + k * 19, none⟩)), W, (by simp [go_sem, Act.eval, d0, d1, hki]), rfl, hJ⟩⟩
          · replace ho := op_at ho (by rfl)
            subst ho
            have d2 : a.tmps.getD 18 undef = (.pointer (some ⟨b1, o1 + k * 19, none⟩)) := by have h1 := hF 2 (by decide) (hr 2 (by kernel_rfl)); exact h1.2.trans h1.1
            exact .inl ⟨(fun k b h => by cases h), .inl ⟨3, by decide, rfl, (.agg x.cells.toArray), W, (exec_load_mid 38 _ rfl b1 (o1 + k * 19) x.cells (.struct (Tryd.prog.fieldsOf 38)) (by simp only [Act.eval, d2]) (hrx W hJ) (by kernel_rfl) rfl (by kernel_rfl)), rfl, hJ⟩⟩
          · replace ho := op_at ho (by rfl)
            subst ho
            have f1 : a.tmps.getD 1 undef = (.slice (some ⟨b2, o2, none⟩) n c2) := hf 1 (by kernel_rfl)
            exact .inl ⟨(fun k b h => by cases h), .inl ⟨4, by decide, rfl, (.slice (some ⟨b2, o2, none⟩) n c2), W, (by simp [go_sem, Act.eval, f1]), rfl, hJ⟩⟩
          · replace ho := op_at ho (by rfl)
            subst ho
            have f5 : a.tmps.getD 5 undef = (.int .i64 (k : Int)) := hf 5 (by kernel_rfl)
            exact .inl ⟨(fun k b h => by cases h), .inl ⟨5, by decide, rfl, (.int .i64 (k : Int)), W, (by simp [go_sem, Act.eval, f5]), rfl, hJ⟩⟩
          · replace ho := op_at ho (by rfl)
            subst ho
            have d4 : a.tmps.getD 20 undef = (.slice (some ⟨b2, o2, none⟩) n c2) := by have h1 := hF 4 (by decide) (hr 4 (by kernel_rfl)); exact h1.2.trans h1.1
            have d5 : a.tmps.getD 21 undef = (.int .i64 (k : Int)) := by have h1 := hF 5 (by decide) (hr 5 (by kernel_rfl)); exact h1.2.trans h1.1
            exact .inl ⟨(fun k b h => by cases h), .inl ⟨6, by decide, rfl, (.pointer (some ⟨b2, o2 + k * 19, none⟩)), W, (by simp [go_sem, Act.eval, d4, d5, hki]), rfl, hJ⟩⟩
          · replace ho := op_at ho (by rfl)
            subst ho
            have d6 : a.tmps.getD 22 undef = (.pointer (some ⟨b2, o2 + k * 19, none⟩)) := by have h1 := hF 6 (by decide) (hr 6 (by kernel_rfl)); exact h1.2.trans h1.1
            exact .inl ⟨(fun k b h => by cases h), .inl ⟨7, by decide, rfl, (.agg y.cells.toArray), W, (exec_load_mid 38 _ rfl b2 (o2 + k * 19) y.cells (.struct (Tryd.prog.fieldsOf 38)) (by simp only [Act.eval, d6]) (hry W hJ) (by kernel_rfl) rfl (by kernel_rfl)), rfl, hJ⟩⟩
          · replace ho := op_at ho (by rfl)
            subst ho
            have d3 : a.tmps.getD 19 undef = (.agg x.cells.toArray) := by have h1 := hF 3 (by decide) (hr 3 (by kernel_rfl)); exact h1.2.trans h1.1
            have d7 : a.tmps.getD 23 undef = (.agg y.cells.toArray) := by have h1 := hF 7 (by decide) (hr 7 (by kernel_rfl)); exact h1.2.trans h1.1
            exact .inl ⟨(fun k b h => by cases h), .inl ⟨8, by decide, rfl, (.bool true), W, (exec_neq_agg 38 _ _ _ rfl _ _ _ (by simp only [Act.eval, d3]) (by simp only [Act.eval, d7]) (by kernel_rfl) (hne W)), rfl, hJ⟩⟩
        case finb =>
          intro d vs Wb hall hJ hF
          have h0 : vs 0 = (.slice (some ⟨b1, o1, none⟩) n c1) := hF 0 (by decide)
          have h1 : vs 1 = (.int .i64 (k : Int)) := hF 1 (by decide)
          have h2 : vs 2 = (.pointer (some ⟨b1, o1 + k * 19, none⟩)) := hF 2 (by decide)
          have h3 : vs 3 = (.agg x.cells.toArray) := hF 3 (by decide)
          have h4 : vs 4 = (.slice (some ⟨b2, o2, none⟩) n c2) := hF 4 (by decide)
          have h5 : vs 5 = (.int .i64 (k : Int)) := hF 5 (by decide)
          have h6 : vs 6 = (.pointer (some ⟨b2, o2 + k * 19, none⟩)) := hF 6 (by decide)
          have h7 : vs 7 = (.agg y.cells.toArray) := hF 7 (by decide)
          have h8 : vs 8 = (.bool true) := hF 8 (by decide)
          clear hF
          have hB := hJ
          clear hJ hall
          show (_ : Exit → Act → World → Prop) Exit.normal (puts _ vs 9 _) Wb
          simp only [puts, h0, h1, h2, h3, h4, h5, h6, h7, h8, List.getD_cons_zero, List.getD_cons_succ]
          clear h0 h1 h2 h3 h4 h5 h6 h7 h8
          have LW2 := LW.out.trans (hB.mono LW.out.size)
          clear hB hrx hry hne hsm
          go_simp
          go_wp2_with (fail)
          go_ret
          exact ⟨by rw [HRF.out]; first | rfl | kernel_rfl, LW2⟩
    · have hkn : ¬ ((k : Int) < (n : Int)) := by omega
      have hr : R = true := by rw [HR.out]; exact sameL_good (by have := HN.out; have := HM.out; omega) (fun j hj => HG.out j (by have := HN.out; omega))
      have HRT := Lib.hid hr
      clear hr hlt hk
      go_wp2_with (fail)
      go_ret
      exact ⟨by rw [HRT.out]; first | rfl | kernel_rfl, LW.out⟩

set_option maxRecDepth 100000 in
set_option maxHeartbeats 8000000 in
theorem rsame_any (p q : Pkt) (v u : Value) (w : World) (hv : Ims w w.heap.size v p.items) (hu : Ims w w.heap.size u q.items) :
    Calls Tryd.prog 15 #[.agg (p.cells v).toArray, .agg (q.cells u).toArray] w fun e w' => e = .returned (.bool (sameP p q)) ∧ Below w.heap.size w w' := by
  obtain ⟨v1, c1, rfl, h1, h2⟩ := hv.slice
  obtain ⟨v2, c2, rfl, h3, h4⟩ := hu.slice
  have HV := Lib.hid hv
  have HU := Lib.hid hu
  clear hv hu h1 h3 h4
  obtain ⟨R, hR⟩ : ∃ R, R = sameP p q := ⟨_, rfl⟩
  rw [← hR]
  obtain ⟨a0, a1, a2, a3, a4, a5, a6, xs⟩ := p
  obtain ⟨b0x, b1x, b2x, b3x, b4x, b5x, b6x, ys⟩ := q
  simp only at HV HU
  obtain ⟨n, hn⟩ : ∃ n, n = xs.length := ⟨_, rfl⟩
  have hmx' : n ≤ 9223372036854775807 := by rw [hn]; unfold maxLen at h2; exact h2
  clear h2
  obtain ⟨m, hm⟩ : ∃ n, n = ys.length := ⟨_, rfl⟩
  show Calls _ _ #[.agg #[.int .i64 a0, .int .i64 a1, .int .i64 a2, .int .i64 a3, .int .i64 a4, .int .i64 a5, .int .i64 a6, .slice v1 xs.length c1], .agg #[.int .i64 b0x, .int .i64 b1x, .int .i64 b2x, .int .i64 b3x, .int .i64 b4x, .int .i64 b5x, .int .i64 b6x, .slice v2 ys.length c2]] w _
  rw [← hn] at HV ⊢
  rw [← hm] at HU ⊢
  have HN := Lib.hid hn
  have HM := Lib.hid hm
  by_cases h0 : a0 = b0x
  case neg =>
    clear hn hm HN HM HV HU
    have hr : R = false := by rw [hR]; simp [sameP, sameH, h0]
    clear hR
    subst hr
    go_enter Tryd.func15, Tryd.ntmps15
    go_wp2
    go_ret
    exact ⟨rfl, ((Below.refl _ _).alloc (Nat.le_refl _) _).alloc (by simp) _⟩
  subst h0
  by_cases h1 : a1 = b1x
  case neg =>
    clear hn hm HN HM HV HU
    have hr : R = false := by rw [hR]; simp [sameP, sameH, h1]
    clear hR
    subst hr
    go_enter Tryd.func15, Tryd.ntmps15
    go_wp2
    go_ret
    exact ⟨rfl, ((Below.refl _ _).alloc (Nat.le_refl _) _).alloc (by simp) _⟩
  subst h1
  by_cases h2 : a2 = b2x
  case neg =>
    clear hn hm HN HM HV HU
    have hr : R = false := by rw [hR]; simp [sameP, sameH, h2]
    clear hR
    subst hr
    go_enter Tryd.func15, Tryd.ntmps15
    go_wp2
    go_ret
    exact ⟨rfl, ((Below.refl _ _).alloc (Nat.le_refl _) _).alloc (by simp) _⟩
  subst h2
  by_cases h3 : a3 = b3x
  case neg =>
    clear hn hm HN HM HV HU
    have hr : R = false := by rw [hR]; simp [sameP, sameH, h3]
    clear hR
    subst hr
    go_enter Tryd.func15, Tryd.ntmps15
    go_wp2
    go_ret
    exact ⟨rfl, ((Below.refl _ _).alloc (Nat.le_refl _) _).alloc (by simp) _⟩
  subst h3
  by_cases h4 : a4 = b4x
  case neg =>
    clear hn hm HN HM HV HU
    have hr : R = false := by rw [hR]; simp [sameP, sameH, h4]
    clear hR
    subst hr
    go_enter Tryd.func15, Tryd.ntmps15
    go_wp2
    go_ret
    exact ⟨rfl, ((Below.refl _ _).alloc (Nat.le_refl _) _).alloc (by simp) _⟩
  subst h4
  by_cases h5 : a5 = b5x
  case neg =>
    clear hn hm HN HM HV HU
    have hr : R = false := by rw [hR]; simp [sameP, sameH, h5]
    clear hR
    subst hr
    go_enter Tryd.func15, Tryd.ntmps15
    go_wp2
    go_ret
    exact ⟨rfl, ((Below.refl _ _).alloc (Nat.le_refl _) _).alloc (by simp) _⟩
  subst h5
  by_cases h6 : a6 = b6x
  case neg =>
    clear hn hm HN HM HV HU
    have hr : R = false := by rw [hR]; simp [sameP, sameH, h6]
    clear hR
    subst hr
    go_enter Tryd.func15, Tryd.ntmps15
    go_wp2
    go_ret
    exact ⟨rfl, ((Below.refl _ _).alloc (Nat.le_refl _) _).alloc (by simp) _⟩
  subst h6
  by_cases hnm : n = m
  case neg =>
    have hr : R = false := by rw [hR]; simp only [sameP, sameL_len (xs := xs) (ys := ys) (by omega), Bool.and_false]
    have e1 : ¬ ((n : Int) = (m : Int)) := by omega
    clear hR hn hm HN HM HV HU
    subst hr
    go_enter Tryd.func15, Tryd.ntmps15
    go_wp2
    go_ret
    exact ⟨rfl, ((Below.refl _ _).alloc (Nat.le_refl _) _).alloc (by simp) _⟩
  subst hnm
  have HR : Hid (R = sameL xs ys) := by show _ = _; rw [hR]; simp [sameP, sameH]
  clear hR hn hm
  obtain ⟨g1, k1⟩ := new_block w (.cells #[.int .i64 a0, .int .i64 a1, .int .i64 a2, .int .i64 a3, .int .i64 a4, .int .i64 a5, .int .i64 a6, .slice v1 n c1] 24)
  obtain ⟨g2, k2⟩ := new_block (w.alloc (.cells #[.int .i64 a0, .int .i64 a1, .int .i64 a2, .int .i64 a3, .int .i64 a4, .int .i64 a5, .int .i64 a6, .slice v1 n c1] 24)) (.cells #[.int .i64 a0, .int .i64 a1, .int .i64 a2, .int .i64 a3, .int .i64 a4, .int .i64 a5, .int .i64 a6, .slice v2 n c2] 24)
  have LB := Lib.hid (g1.trans (g2.mono g1.size))
  have K1 := Lib.hid (stays k1 g2)
  have K2 := Lib.hid k2
  simp only [World.size_alloc] at K2
  clear g1 g2 k1 k2
  go_enter Tryd.func15, Tryd.ntmps15
  go_wp2_with (fail)
  go_loopw [5] (fun i wr => ∃ k : Nat, k ≤ n ∧ i = .int .i64 (k : Int) ∧ Hid (∀ j, j < k → sameI (xs.getD j nilI) (ys.getD j nilI) = true) ∧ Hid (Below w.heap.size w wr) ∧ Hid (wr.heap[w.heap.size]? = some (.cells #[.int .i64 a0, .int .i64 a1, .int .i64 a2, .int .i64 a3, .int .i64 a4, .int .i64 a5, .int .i64 a6, .slice v1 n c1] 24 (0, 0))) ∧ Hid (wr.heap[w.heap.size + 1]? = some (.cells #[.int .i64 a0, .int .i64 a1, .int .i64 a2, .int .i64 a3, .int .i64 a4, .int .i64 a5, .int .i64 a6, .slice v2 n c2] 24 (0, 0)))) (fun i _ => n - (intOf i).toNat)
  case atStart => exact ⟨0, by omega, rfl, (fun j hj => absurd hj (Nat.not_lt_zero j)), LB, K1, K2⟩
  case round =>
    obtain ⟨k, hk, rfl, HG, LW, KP, KQ⟩ := hrel
    have c7 := cell_of_row _ _ 7 _ _ _ KP.out
    by_cases hlt : k < n
    · have hkx : k < xs.length := by have := HN.out; omega
      have hky : k < ys.length := by have := HM.out; omega
      obtain ⟨b1, o1, ha1, hb1, hcx⟩ := (HV.out.below LW.out (Nat.le_refl _)).at k hkx
      obtain ⟨b2, o2, ha2, hb2, hcy⟩ := (HU.out.below LW.out (Nat.le_refl _)).at k hky
      subst ha1 ha2
      obtain ⟨x, hx⟩ : ∃ x, x = xs.getD k nilI := ⟨_, rfl⟩
      obtain ⟨y, hy⟩ : ∃ x, x = ys.getD k nilI := ⟨_, rfl⟩
      have hrx0 := hcx k x (by rw [hx]; exact getD_some hkx)
      have hry0 := hcy k y (by rw [hy]; exact getD_some hky)
      have hrx : ∀ W, Below wr.heap.size wr W → W.rangeAt b1 (o1 + k * 19) x.cells := fun W hb j u hu => (hb.cell (p := ⟨b1, o1 + k * 19 + j, none⟩) (Nat.lt_of_lt_of_le hb1 LW.out.size)).trans (hrx0 j u hu)
      have hry : ∀ W, Below wr.heap.size wr W → W.rangeAt b2 (o2 + k * 19) y.cells := fun W hb j u hu => (hb.cell (p := ⟨b2, o2 + k * 19 + j, none⟩) (Nat.lt_of_lt_of_le hb2 LW.out.size)).trans (hry0 j u hu)
      have HX := Lib.hid hx
      have HY := Lib.hid hy
      have hki : 0 ≤ (k : Int) ∧ (k : Int) < (n : Int) := by omega
      clear hx hy hcx hcy hkx hky hrx0 hry0 hb1 hb2
      have hrxc : ∀ W, Below wr.heap.size wr W → W.cell? ⟨w.heap.size, 7, none⟩ = some (.slice (some ⟨b1, o1, none⟩) n c1) := fun W hb => cell_of_row _ _ 7 _ _ _ (stays KP.out hb)
      have hryc : ∀ W, Below wr.heap.size wr W → W.cell? ⟨w.heap.size + 1, 7, none⟩ = some (.slice (some ⟨b2, o2, none⟩) n c2) := fun W hb => cell_of_row _ _ 7 _ _ _ (stays KQ.out hb)
      by_cases hsm : sameI x y = true
      · have hne : ∀ W, (binOp .neq 38 (.agg x.cells.toArray) (.agg y.cells.toArray)).run Tryd.prog W = .ok (.bool false) W := fun W => by have h := ne_I x y W; rw [hsm] at h; exact h
        go_wp2_with (fail)
        refine wpIn_wide (n := 5).1 (wpIn_flowM (F0 := Fence.wide) (n0 := 5) (fun _ => trivial) (fun h => by cases h) (by kernel_rfl) (by kernel_rfl) 11 11 (by kernel_rfl) (fun j => ([0, 1, 2, 3, 4, 5, 6, 7, 8, 9, 10] : List Nat).getD j 0) (fun j => ([69, 70, 71, 72, 73, 74, 75, 76, 77, 78, 79] : List Nat).getD j 0) (by kernel_rfl) (by kernel_rfl) (by kernel_rfl) (by kernel_rfl) (by kernel_rfl) (by kernel_rfl) (by kernel_rfl) (fun j zv => ([(fun zv => zv = (.pointer (some ⟨w.heap.size, 7, none⟩))), (fun zv => zv = (.slice (some ⟨b1, o1, none⟩) n c1)), (fun zv => zv = (.int .i64 (k : Int))), (fun zv => zv = (.pointer (some ⟨b1, o1 + k * 19, none⟩))), (fun zv => zv = (.agg x.cells.toArray)), (fun zv => zv = (.pointer (some ⟨(w.heap.size + 1), 7, none⟩))), (fun zv => zv = (.slice (some ⟨b2, o2, none⟩) n c2)), (fun zv => zv = (.int .i64 (k : Int))), (fun zv => zv = (.pointer (some ⟨b2, o2 + k * 19, none⟩))), (fun zv => zv = (.agg y.cells.toArray)), (fun zv => zv = (.bool false))] : List (Value → Prop)).getD j (fun _ => True) zv) (fun d vs W => Below wr.heap.size wr W) ?h0c ?stepc ?finc)
        case h0c => exact fun vs => (Below.refl _ _).drew
        case stepc =>
          intro i o a W d vs hi ho hdi hJ hf hr hF
          replace hi : i < 11 := hi
          rcases (show i = 0 ∨ i = 1 ∨ i = 2 ∨ i = 3 ∨ i = 4 ∨ i = 5 ∨ i = 6 ∨ i = 7 ∨ i = 8 ∨ i = 9 ∨ i = 10 by omega) with rfl | rfl | rfl | rfl | rfl | rfl | rfl | rfl | rfl | rfl | rfl
          · replace ho := op_at ho (by rfl)
            subst ho
            have f2 : a.tmps.getD 2 undef = (.pointer (some ⟨w.heap.size, 0, none⟩)) := hf 2 (by kernel_rfl)
            exact .inl ⟨(fun k b h => by cases h), .inl ⟨0, by decide, rfl, (.pointer (some ⟨w.heap.size, 7, none⟩)), W, (by simp [go_sem, Act.eval, f2]), rfl, hJ⟩⟩
          · replace ho := op_at ho (by rfl)
            subst ho
            have d0 : a.tmps.getD 69 undef = (.pointer (some ⟨w.heap.size, 7, none⟩)) := by have h1 := hF 0 (by decide) (hr 0 (by kernel_rfl)); exact h1.2.trans h1.1
            have c7 := hrxc W hJ
            exact .inl ⟨(fun k b h => by cases h), .inl ⟨1, by decide, rfl, (.slice (some ⟨b1, o1, none⟩) n c1), W, (by simp [go_sem, Act.eval, d0, c7]), rfl, hJ⟩⟩
          · replace ho := op_at ho (by rfl)
            subst ho
            have f5 : a.tmps.getD 5 undef = (.int .i64 (k : Int)) := hf 5 (by kernel_rfl)
            exact .inl ⟨(fun k b h => by cases h), .inl ⟨2, by decide, rfl, (.int .i64 (k : Int)), W, (by simp [go_sem, Act.eval, f5]), rfl, hJ⟩⟩
          · replace ho := op_at ho (by rfl)
            subst ho
            have d1 : a.tmps.getD 70 undef = (.slice (some ⟨b1, o1, none⟩) n c1) := by have h1 := hF 1 (by decide) (hr 1 (by kernel_rfl)); exact h1.2.trans h1.1
            have d2 : a.tmps.getD 71 undef = (.int .i64 (k : Int)) := by have h1 := hF 2 (by decide) (hr 2 (by kernel_rfl)); exact h1.2.trans h1.1
            exact .inl ⟨(fun k b h => by cases h), .inl ⟨3, by decide, rfl, (.pointer (some ⟨b1, o1 + k * 19, none⟩)), W, (by simp [go_sem, Act.eval, d1, d2, hki]), rfl, hJ⟩⟩
          · replace ho := op_at ho (by rfl)
            subst ho
            have d3 : a.tmps.getD 72 undef = (.pointer (some ⟨b1, o1 + k * 19, none⟩)) := by have h1 := hF 3 (by decide) (hr 3 (by kernel_rfl)); exact h1.2.trans h1.1
            exact .inl ⟨(fun k b h => by cases h), .inl ⟨4, by decide, rfl, (.agg x.cells.toArray), W, (exec_load_mid 38 _ rfl b1 (o1 + k * 19) x.cells (.struct (Tryd.prog.fieldsOf 38)) (by simp only [Act.eval, d3]) (hrx W hJ) (by kernel_rfl) rfl (by kernel_rfl)), rfl, hJ⟩⟩
          · replace ho := op_at ho (by rfl)
            subst ho
            have f3 : a.tmps.getD 3 undef = (.pointer (some ⟨(w.heap.size + 1), 0, none⟩)) := hf 3 (by kernel_rfl)
            exact .inl ⟨(fun k b h => by cases h), .inl ⟨5, by decide, rfl, (.pointer (some ⟨(w.heap.size + 1), 7, none⟩)), W, (by simp [go_sem, Act.eval, f3]), rfl, hJ⟩⟩
          · replace ho := op_at ho (by rfl)
            subst ho
            have d5 : a.tmps.getD 74 undef = (.pointer (some ⟨(w.heap.size + 1), 7, none⟩)) := by have h1 := hF 5 (by decide) (hr 5 (by kernel_rfl)); exact h1.2.trans h1.1
            have c7 := hryc W hJ
            exact .inl ⟨(fun k b h => by cases h), .inl ⟨6, by decide, rfl, (.slice (some ⟨b2, o2, none⟩) n c2), W, (by simp [go_sem, Act.eval, d5, c7]), rfl, hJ⟩⟩
          · replace ho := op_at ho (by rfl)
            subst ho
            have f5 : a.tmps.getD 5 undef = (.int .i64 (k : Int)) := hf 5 (by kernel_rfl)
            exact .inl ⟨(fun k b h => by cases h), .inl ⟨7, by decide, rfl, (.int .i64 (k : Int)), W, (by simp [go_sem, Act.eval, f5]), rfl, hJ⟩⟩
          · replace ho := op_at ho (by rfl)
            subst ho
            have d6 : a.tmps.getD 75 undef = (.slice (some ⟨b2, o2, none⟩) n c2) := by have h1 := hF 6 (by decide) (hr 6 (by kernel_rfl)); exact h1.2.trans h1.1
            have d7 : a.tmps.getD 76 undef = (.int .i64 (k : Int)) := by have h1 := hF 7 (by decide) (hr 7 (by kernel_rfl)); exact h1.2.trans h1.1
            exact .inl ⟨(fun k b h => by cases h), .inl ⟨8, by decide, rfl, (.pointer (some ⟨b2, o2 + k * 19, none⟩)), W, (by simp [go_sem, Act.eval, d6, d7, hki]), rfl, hJ⟩⟩
          · replace ho := op_at ho (by rfl)
            subst ho
            have d8 : a.tmps.getD 77 undef = (.pointer (some ⟨b2, o2 + k * 19, none⟩)) := by have h1 := hF 8 (by decide) (hr 8 (by kernel_rfl)); exact h1.2.trans h1.1
            exact .inl ⟨(fun k b h => by cases h), .inl ⟨9, by decide, rfl, (.agg y.cells.toArray), W, (exec_load_mid 38 _ rfl b2 (o2 + k * 19) y.cells (.struct (Tryd.prog.fieldsOf 38)) (by simp only [Act.eval, d8]) (hry W hJ) (by kernel_rfl) rfl (by kernel_rfl)), rfl, hJ⟩⟩
          · replace ho := op_at ho (by rfl)
            subst ho
            have d4 : a.tmps.getD 73 undef = (.agg x.cells.toArray) := by have h1 := hF 4 (by decide) (hr 4 (by kernel_rfl)); exact h1.2.trans h1.1
            have d9 : a.tmps.getD 78 undef = (.agg y.cells.toArray) := by have h1 := hF 9 (by decide) (hr 9 (by kernel_rfl)); exact h1.2.trans h1.1
            exact .inl ⟨(fun k b h => by cases h), .inl ⟨10, by decide, rfl, (.bool false), W, (exec_neq_agg 38 _ _ _ rfl _ _ _ (by simp only [Act.eval, d4]) (by simp only [Act.eval, d9]) (by kernel_rfl) (hne W)), rfl, hJ⟩⟩
        case finc =>
          intro d vs Wc hall hJ hF
          have h0 : vs 0 = (.pointer (some ⟨w.heap.size, 7, none⟩)) := hF 0 (by decide)
          have h1 : vs 1 = (.slice (some ⟨b1, o1, none⟩) n c1) := hF 1 (by decide)
          have h2 : vs 2 = (.int .i64 (k : Int)) := hF 2 (by decide)
          have h3 : vs 3 = (.pointer (some ⟨b1, o1 + k * 19, none⟩)) := hF 3 (by decide)
          have h4 : vs 4 = (.agg x.cells.toArray) := hF 4 (by decide)
          have h5 : vs 5 = (.pointer (some ⟨(w.heap.size + 1), 7, none⟩)) := hF 5 (by decide)
          have h6 : vs 6 = (.slice (some ⟨b2, o2, none⟩) n c2) := hF 6 (by decide)
          have h7 : vs 7 = (.int .i64 (k : Int)) := hF 7 (by decide)
          have h8 : vs 8 = (.pointer (some ⟨b2, o2 + k * 19, none⟩)) := hF 8 (by decide)
          have h9 : vs 9 = (.agg y.cells.toArray) := hF 9 (by decide)
          have h10 : vs 10 = (.bool false) := hF 10 (by decide)
          clear hF
          have hB := hJ
          clear hJ hall
          show (_ : Exit → Act → World → Prop) Exit.normal (puts _ vs 11 _) Wc
          simp only [puts, h0, h1, h2, h3, h4, h5, h6, h7, h8, h9, h10, List.getD_cons_zero, List.getD_cons_succ]
          clear h0 h1 h2 h3 h4 h5 h6 h7 h8 h9 h10
          have LW2 := Lib.hid (LW.out.trans (hB.mono LW.out.size))
          have KP2 := Lib.hid (stays KP.out hB)
          have KQ2 := Lib.hid (stays KQ.out hB)
          have HG2 : Hid (∀ j, j < k + 1 → sameI (xs.getD j nilI) (ys.getD j nilI) = true) := fun j hj => by
            by_cases e : j = k
            · subst e; rw [← HX.out, ← HY.out]; exact hsm
            · exact HG.out j (by omega)
          clear hB hrx hry hne hsm hrxc hryc c7
          go_simp
          go_wp2_with (fail)
          go_roundw
          case rel => exact ⟨k + 1, by omega, by go_num, HG2, LW2, KP2, KQ2⟩
          case measure => simp [intOf] <;> omega
      · have hne : ∀ W, (binOp .neq 38 (.agg x.cells.toArray) (.agg y.cells.toArray)).run Tryd.prog W = .ok (.bool true) W := fun W => by have h := ne_I x y W; rw [Bool.eq_false_iff.2 hsm] at h; exact h
        have hr : R = false := by rw [HR.out]; exact sameL_bad k (by have := HN.out; omega) (by rw [← HX.out, ← HY.out]; exact hsm)
        have HRF := Lib.hid hr
        clear hr
        go_wp2_with (fail)
        refine wpIn_wide (n := 5).1 (wpIn_flowM (F0 := Fence.wide) (n0 := 5) (fun _ => trivial) (fun h => by cases h) (by kernel_rfl) (by kernel_rfl) 11 11 (by kernel_rfl) (fun j => ([0, 1, 2, 3, 4, 5, 6, 7, 8, 9, 10] : List Nat).getD j 0) (fun j => ([69, 70, 71, 72, 73, 74, 75, 76, 77, 78, 79] : List Nat).getD j 0) (by kernel_rfl) (by kernel_rfl) (by kernel_rfl) (by kernel_rfl) (by kernel_rfl) (by kernel_rfl) (by kernel_rfl) (fun j zv => ([(fun zv => zv = (.pointer (some ⟨w.heap.size, 7, none⟩))), (fun zv => zv = (.slice (some ⟨b1, o1, none⟩) n c1)), (fun zv => zv = (.int .i64 (k : Int))), (fun zv => zv = (.pointer (some ⟨b1, o1 + k * 19, none⟩))), (fun zv => zv = (.agg x.cells.toArray)), (fun zv => zv = (.pointer (some ⟨(w.heap.size + 1), 7, none⟩))), (fun zv => zv = (.slice (some ⟨b2, o2, none⟩) n c2)), (fun zv => zv = (.int .i64 (k : Int))), (fun zv => zv = (.pointer (some ⟨b2, o2 + k * 19, none⟩))), (fun zv => zv = (.agg y.cells.toArray)), (fun zv => zv = (.bool true))] : List (Value → Prop)).getD j (fun _ => True) zv) (fun d vs W => Below wr.heap.size wr W) ?h0d ?stepd ?find)
        case h0d => exact fun vs => (Below.refl _ _).drew
        case stepd =>
          intro i o a W d vs hi ho hdi hJ hf hr hF
          replace hi : i < 11 := hi
          rcases (show i = 0 ∨ i = 1 ∨ i = 2 ∨ i = 3 ∨ i = 4 ∨ i = 5 ∨ i = 6 ∨ i = 7 ∨ i = 8 ∨ i = 9 ∨ i = 10 by omega) with rfl | rfl | rfl | rfl | rfl | rfl | rfl | rfl | rfl | rfl | rfl
          · replace ho := op_at ho (by rfl)
            subst ho
            have f2 : a.tmps.getD 2 undef = (.pointer (some ⟨w.heap.size, 0, none⟩)) := hf 2 (by kernel_rfl)
            exact .inl ⟨(fun k b h => by cases h), .inl ⟨0, by decide, rfl, (.pointer (some ⟨w.heap.size, 7, none⟩)), W, (by simp [go_sem, Act.eval, f2]), rfl, hJ⟩⟩
          · replace ho := op_at ho (by rfl)
            subst ho
            have d0 : a.tmps.getD 69 undef = (.pointer (some ⟨w.heap.size, 7, none⟩)) := by have h1 := hF 0 (by decide) (hr 0 (by kernel_rfl)); exact h1.2.trans h1.1
            have c7 := hrxc W hJ
            exact .inl ⟨(fun k b h => by cases h), .inl ⟨1, by decide, rfl, (.slice (some ⟨b1, o1, none⟩) n c1), W, (by simp [go_sem, Act.eval, d0, c7]), rfl, hJ⟩⟩
          · replace ho := op_at ho (by rfl)
            subst ho
            have f5 : a.tmps.getD 5 undef = (.int .i64 (k : Int)) := hf 5 (by kernel_rfl)
            exact .inl ⟨(fun k b h => by cases h), .inl ⟨2, by decide, rfl, (.int .i64 (k : Int)), W, (by simp [go_sem, Act.eval, f5]), rfl, hJ⟩⟩
          · replace ho := op_at ho (by rfl)
            subst ho
            have d1 : a.tmps.getD 70 undef = (.slice (some ⟨b1, o1, none⟩) n c1) := by have h1 := hF 1 (by decide) (hr 1 (by kernel_rfl)); exact h1.2.trans h1.1
            have d2 : a.tmps.getD 71 undef = (.int .i64 (k : Int)) := by have h1 := hF 2 (by decide) (hr 2 (by kernel_rfl)); exact h1.2.trans h1.1
            exact .inl ⟨(fun k b h => by cases h), .inl ⟨3, by decide, rfl, (.pointer (some ⟨b1, o1 + k * 19, none⟩)), W, (by simp [go_sem, Act.eval, d1, d2, hki]), rfl, hJ⟩⟩
          · replace ho := op_at ho (by rfl)
            subst ho
            have d3 : a.tmps.getD 72 undef = (.pointer (some ⟨b1, o1 + k * 19, none⟩)) := by have h1 := hF 3 (by decide) (hr 3 (by kernel_rfl)); exact h1.2.trans h1.1
            exact .inl ⟨(fun k b h => by cases h), .inl ⟨4, by decide, rfl, (.agg x.cells.toArray), W, (exec_load_mid 38 _ rfl b1 (o1 + k * 19) x.cells (.struct (Tryd.prog.fieldsOf 38)) (by simp only [Act.eval, d3]) (hrx W hJ) (by kernel_rfl) rfl (by kernel_rfl)), rfl, hJ⟩⟩
          · replace ho := op_at ho (by rfl)
            subst ho
            have f3 : a.tmps.getD 3 undef = (.pointer (some ⟨(w.heap.size + 1), 0, none⟩)) := hf 3 (by kernel_rfl)
            exact .inl ⟨(fun k b h => by cases h), .inl ⟨5, by decide, rfl, (.pointer (some ⟨(w.heap.size + 1), 7, none⟩)), W, (by simp [go_sem, Act.eval, f3]), rfl, hJ⟩⟩
          · replace ho := op_at ho (by rfl)
            subst ho
            have d5 : a.tmps.getD 74 undef = (.pointer (some ⟨(w.heap.size + 1), 7, none⟩)) := by have h1 := hF 5 (by decide) (hr 5 (by kernel_rfl)); exact h1.2.trans h1.1
            have c7 := hryc W hJ
            exact .inl ⟨(fun k b h => by cases h), .inl ⟨6, by decide, rfl, (.slice (some ⟨b2, o2, none⟩) n c2), W, (by simp [go_sem, Act.eval, d5, c7]), rfl, hJ⟩⟩
          · replace ho := op_at ho (by rfl)
            subst ho
            have f5 : a.tmps.getD 5 undef = (.int .i64 (k : Int)) := hf 5 (by kernel_rfl)
            exact .inl ⟨(fun k b h => by cases h), .inl ⟨7, by decide, rfl, (.int .i64 (k : Int)), W, (by simp [go_sem, Act.eval, f5]), rfl, hJ⟩⟩
          · replace ho := op_at ho (by rfl)
            subst ho
            have d6 : a.tmps.getD 75 undef = (.slice (some ⟨b2, o2, none⟩) n c2) := by have h1 := hF 6 (by decide) (hr 6 (by kernel_rfl)); exact h1.2.trans h1.1
            have d7 : a.tmps.getD 76 undef = (.int .i64 (k : Int)) := by have h1 := hF 7 (by decide) (hr 7 (by kernel_rfl)); exact h1.2.trans h1.1
            exact .inl ⟨(fun k b h => by cases h), .inl ⟨8, by decide, rfl, (.pointer (some ⟨b2, o2 + k * 19, none⟩)), W, (by simp [go_sem, Act.eval, d6, d7, hki]), rfl, hJ⟩⟩
          · replace ho := op_at ho (by rfl)
            subst ho
            have d8 : a.tmps.getD 77 undef = (.pointer (some ⟨b2, o2 + k * 19, none⟩)) := by have h1 := hF 8 (by decide) (hr 8 (by kernel_rfl)); exact h1.2.trans h1.1
            exact .inl ⟨(fun k b h => by cases h), .inl ⟨9, by decide, rfl, (.agg y.cells.toArray), W, (exec_load_mid 38 _ rfl b2 (o2 + k * 19) y.cells (.struct (Tryd.prog.fieldsOf 38)) (by simp only [Act.eval, d8]) (hry W hJ) (by kernel_rfl) rfl (by kernel_rfl)), rfl, hJ⟩⟩
          · replace ho := op_at ho (by rfl)
            subst ho
            have d4 : a.tmps.getD 73 undef = (.agg x.cells.toArray) := by have h1 := hF 4 (by decide) (hr 4 (by kernel_rfl)); exact h1.2.trans h1.1
            have d9 : a.tmps.getD 78 undef = (.agg y.cells.toArray) := by have h1 := hF 9 (by decide) (hr 9 (by kernel_rfl)); exact h1.2.trans h1.1
            exact .inl ⟨(fun k b h => by cases h), .inl ⟨10, by decide, rfl, (.bool true), W, (exec_neq_agg 38 _ _ _ rfl _ _ _ (by simp only [Act.eval, d4]) (by simp only [Act.eval, d9]) (by kernel_rfl) (hne W)), rfl, hJ⟩⟩
        case find =>
          intro d vs Wd hall hJ hF
          have h0 : vs 0 = (.pointer (some ⟨w.heap.size, 7, none⟩)) := hF 0 (by decide)
          have h1 : vs 1 = (.slice (some ⟨b1, o1, none⟩) n c1) := hF 1 (by decide)
          have h2 : vs 2 = (.int .i64 (k : Int)) := hF 2 (by decide)
          have h3 : vs 3 = (.pointer (some ⟨b1, o1 + k * 19, none⟩)) := hF 3 (by decide)
          have h4 : vs 4 = (.agg x.cells.toArray) := hF 4 (by decide)
          have h5 : vs 5 = (.pointer (some ⟨(w.heap.size + 1), 7, none⟩)) := hF 5 (by decide)
          have h6 : vs 6 = (.slice (some ⟨b2, o2, none⟩) n c2) := hF 6 (by decide)
          have h7 : vs 7 = (.int .i64 (k : Int)) := hF 7 (by decide)
          have h8 : vs 8 = (.pointer (some ⟨b2, o2 + k * 19, none⟩)) := hF 8 (by decide)
          have h9 : vs 9 = (.agg y.cells.toArray) := hF 9 (by decide)
          have h10 : vs 10 = (.bool true) := hF 10 (by decide)
          clear hF
          have hB := hJ
          clear hJ hall
          show (_ : Exit → Act → World → Prop) Exit.normal (puts _ vs 11 _) Wd
          simp only [puts, h0, h1, h2, h3, h4, h5, h6, h7, h8, h9, h10, List.getD_cons_zero, List.getD_cons_succ]
          clear h0 h1 h2 h3 h4 h5 h6 h7 h8 h9 h10
          have LW2 := LW.out.trans (hB.mono LW.out.size)
          clear hB hrx hry hne hsm hrxc hryc c7
          go_simp
          go_wp2_with (fail)
          go_ret
          exact ⟨by rw [HRF.out]; first | rfl | kernel_rfl, LW2⟩
    · have hkn : ¬ ((k : Int) < (n : Int)) := by omega
      have hr : R = true := by rw [HR.out]; exact sameL_good (by have := HN.out; have := HM.out; omega) (fun j hj => HG.out j (by have := HN.out; omega))
      have HRT := Lib.hid hr
      clear hr hlt hk
      go_wp2_with (fail)
      go_ret
      exact ⟨by rw [HRT.out]; first | rfl | kernel_rfl, LW.out⟩

end Go.Proofs.YtgnpjenpehfjbaaDoor

namespace Go.Proofs.YtgnpjenpehfjbaaDoor
open Go.RowKit

set_option maxRecDepth 100000 in
set_option maxHeartbeats 4000000 in
theorem rencode_any (p : Pkt) (v : Value) (w : World) (hv : Ims w w.heap.size v p.items) (hnl : ∀ x ∈ p.items, x.name.length ≤ 9223372036854775807) : Calls Tryd.prog 14 #[.agg (p.cells v).toArray] w fun e w' => ∃ u, e = .returned u ∧ Own w' w.heap.size u (encB p) ∧ Below w.heap.size w w' := by
  obtain ⟨g0, kb⟩ := new_block w (.cells (p.cells v).toArray 24)
  have HV0 := Lib.hid (hv.below g0 g0.size)
  have hfit := rfit_any p v (w.alloc (.cells (p.cells v).toArray 24)) HV0.out hnl
  have LB := Lib.hid g0
  have KB := Lib.hid kb
  clear g0 kb hv hnl
  cases hf : fitP p with
  | false =>
    rw [hf] at hfit
    have HE : Hid (encB p = []) := by show _ = _; unfold encB; rw [hf]; rfl
    have HF := Lib.hid hfit
    clear hfit hf
    go_enter Tryd.func14, Tryd.ntmps14
    go_upto_region 1 with (fail)
    refine wp_region_lit ?_
    refine wpList_run rfl (exec_load_row 24 _ rfl w.heap.size _ _ (.struct (Tryd.prog.fieldsOf 24)) rfl KB.out (by kernel_rfl) rfl (by kernel_rfl)) ?_
    go_wp2_with (fail)
    with_reducible refine HF.out.mono ?_
    rintro e w1 ⟨rfl, hB⟩
    have L1 := LB.out.trans (hB.mono LB.out.size)
    clear HF hB
    go_wp2
    go_ret
    exact ⟨.slice none 0 0, rfl, by rw [HE.out]; exact Own.nil _ _, L1⟩
  | true =>
    rw [hf] at hfit
    have HE : Hid (encB p = frameOf (bodyB p)) := by show _ = _; unfold encB; rw [hf]; rfl
    have HF := Lib.hid hfit
    have HFT := Lib.hid hf
    clear hfit hf
    go_enter Tryd.func14, Tryd.ntmps14
    go_upto_region 1 with (fail)
    refine wp_region_lit ?_
    refine wpList_run rfl (exec_load_row 24 _ rfl w.heap.size _ _ (.struct (Tryd.prog.fieldsOf 24)) rfl KB.out (by kernel_rfl) rfl (by kernel_rfl)) ?_
    go_wp2_with (fail)
    with_reducible refine HF.out.mono ?_
    rintro e w1 ⟨rfl, hB⟩
    have L1 := Lib.hid (LB.out.trans (hB.mono LB.out.size))
    have KB1 := Lib.hid (stays KB.out hB)
    have hcon := Lib.hid (body_any p v w1 (HV0.out.below hB hB.size) (fun x hx => Itm64.of (fit_mem HFT.out x hx)) (by rw [bodyR_fit HFT.out]; have := bodyB_len HFT.out; omega))
    clear HF hB
    go_upto_region 3 with (fail)
    refine wp_region_lit ?_
    refine wpList_run rfl (exec_load_row 24 _ rfl w.heap.size _ _ (.struct (Tryd.prog.fieldsOf 24)) rfl KB1.out (by kernel_rfl) rfl (by kernel_rfl)) ?_
    go_wp2_with (fail)
    with_reducible refine hcon.out.mono ?_
    rintro e w2 ⟨vb, rfl, ho, hB⟩
    rw [bodyR_fit HFT.out] at ho
    have L2 := Lib.hid (L1.out.trans (hB.mono L1.out.size))
    have hcon2 := Lib.hid (ref_Seal vb _ w2 w2.heap.size ho.bts (Nat.le_refl _) (by have := bodyB_len HFT.out; omega))
    clear hcon ho hB
    go_wp2_with (fail)
    with_reducible refine hcon2.out.mono ?_
    rintro e w3 ⟨vs, rfl, ho, hB⟩
    have L3 := L2.out.trans (hB.mono L2.out.size)
    rw [← HE.out] at ho
    have HO := Lib.hid (ho.mono L2.out.size)
    clear hcon2 ho hB
    go_wp2
    go_ret
    exact ⟨vs, rfl, HO.out, L3⟩

end Go.Proofs.YtgnpjenpehfjbaaDoor

