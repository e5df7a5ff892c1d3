/- Wire: copied (by program: wip/tools/gen_wire26.py).
Wire: equality of items and packets; slices.Equal, the document's Same (by program: wip/tools/gen_wire27.py).
Wire: the document's Encode (by program: wip/tools/gen_wire28.py). -/
import Derived.Test.YtgnpjenpehfjbaaDoorMK
import Derived.Test.YtgnpjenpehfjbaaDoorMJ
set_option linter.unusedSimpArgs false
set_option linter.unusedVariables false
namespace Go.Proofs.YtgnpjenpehfjbaaDoor
open Go.RowKit

/-- a slice as it comes: nil, or it has an address -/
def Sl (v : Value) : Prop := v = .slice none 0 0 ∨ ∃ a n c, v = .slice (some a) n c
theorem info_item : (Tryd.prog.info? 38).map (fun i => (i.zero, i.size, i.bytes)) = some (some (.agg #[.string ⟨#[]⟩, .int .i64 0, .int .i64 0, .bool false, .int .i64 0, .int .i64 0, .int .i64 0, .int .i64 0, .int .i64 0, .bool false, .int .i64 0, .bool false, .int .i64 0, .int .i64 0, .int .i64 0, .bool false, .int .i64 0, .int .i64 0, .int .i64 0]), 19, 160) := by kernel_rfl
abbrev OwnX (w : World) (B : Nat) (v : Value) (xs : List Itm) : Prop := w.ownsRow B 38 19 v xs.length (xs.flatMap Itm.cells)
theorem itm_cells (x : Itm) : ∀ u ∈ x.cells, u.oneCell' = true := by
  intro u hu
  simp only [Itm.cells, List.mem_cons, List.not_mem_nil, or_false] at hu
  rcases hu with rfl | rfl | rfl | rfl | rfl | rfl | rfl | rfl | rfl | rfl | rfl | rfl | rfl | rfl | rfl | rfl | rfl | rfl | rfl <;> rfl
theorem flat_itm (xs : List Itm) (i : Nat) (x : Itm) (h : xs[i]? = some x) (j : Nat) (hj : j < 19) : (xs.flatMap Itm.cells)[i * 19 + j]? = x.cells[j]? := by
  induction xs generalizing i with
  | nil => simp at h
  | cons a t ih =>
    have ha : a.cells.length = 19 := rfl
    cases i with
    | zero => simp at h; subst h; rw [List.flatMap_cons, List.getElem?_append_left (by omega)]; simp
    | succ i =>
      rw [List.flatMap_cons, List.getElem?_append_right (by omega), ha, show (i + 1) * 19 + j - 19 = i * 19 + j by omega]
      exact ih i (by simpa using h)
theorem OwnX.ims {w : World} {B : Nat} {v : Value} {xs : List Itm} (h : OwnX w B v xs) : Ims w w.heap.size v xs ∧ Sl v := by
  rcases h.2 with ⟨h1, h2⟩ | ⟨g, cap, cur, rfl, hg, hh, hc, hm, hs, ht⟩
  · obtain rfl : xs = [] := List.eq_nil_of_length_eq_zero (by omega)
    subst h1
    exact ⟨Ims.nil _ _, .inl rfl⟩
  · refine ⟨⟨_, cap, rfl, hc, by omega, fun hne => ⟨g, 0, rfl, (Array.getElem?_eq_some_iff.1 hh).1, fun i x hx j u hu => ?_⟩⟩, .inr ⟨_, _, _, rfl⟩⟩
    have hj : j < 19 := (List.getElem?_eq_some_iff.1 hu).1
    have hi := (List.getElem?_eq_some_iff.1 hx).1
    rw [Nat.zero_add, World.ownsRow.cellAt h _ (by omega), flat_itm xs i x hx j hj]
    exact hu

theorem OwnX.sets {w : World} {B b : Nat} {v : Value} {xs : List Itm} (h : OwnX w B v xs) (vs : List Value) (o : Nat) (hb : b < B := by omega) : OwnX (w.setCells b o vs) B v xs := by
  induction vs generalizing o w with
  | nil => exact h
  | cons a r ih =>
    rw [World.setCells]
    exact ih (ownsRow_setCell_below (a := ⟨b, o, none⟩) h hb a) (o + 1)
theorem results_cell1 {fn : Func} {p : Tmp} {ty : TypeId} (h : fn.results = #[.cell p ty]) (tmps : Array Value) (P : Program) (w : World) :
    (results fn tmps).run P w = ((asAddr (tmps.getD p undef)).run P w).andThen fun a w₁ => (loadVar ty a).run P w₁ := by
  simp only [results, h]
  simp [Sem.run_bind, Result.andThen]

end Go.Proofs.YtgnpjenpehfjbaaDoor

namespace Go.Proofs.YtgnpjenpehfjbaaDoor
open Go.RowKit

def sameI (x y : Itm) : Bool := ((x.name == y.name) && ((x.epoch == y.epoch) && ((x.maker == y.maker) && ((x.alive == y.alive) && ((x.kind == y.kind) && ((x.scale == y.scale) && ((x.ver == y.ver) && ((x.writer == y.writer) && ((x.flow == y.flow) && ((x.hasRest == y.hasRest) && ((x.rest == y.rest) && ((x.mn.has == y.mn.has) && ((x.mn.val == y.mn.val) && ((x.mn.org == y.mn.org) && ((x.mn.age == y.mn.age) && ((x.mx.has == y.mx.has) && ((x.mx.val == y.mx.val) && ((x.mx.org == y.mx.org) && (x.mx.age == y.mx.age)))))))))))))))))))
theorem sameI_iff {x y : Itm} : sameI x y = true ↔ x = y := by
  obtain ⟨a0, a1, a2, a3, a4, a5, a6, a7, a8, a9, a10, ⟨a11, a12, a13, a14⟩, ⟨a15, a16, a17, a18⟩⟩ := x
  obtain ⟨b0, b1, b2, b3, b4, b5, b6, b7, b8, b9, b10, ⟨b11, b12, b13, b14⟩, ⟨b15, b16, b17, b18⟩⟩ := y
  simp [sameI, and_assoc]
def sameL (xs ys : List Itm) : Bool := decide (xs.length = ys.length) && (List.range xs.length).all fun k => sameI (xs.getD k nilI) (ys.getD k nilI)
theorem sameL_iff {xs ys : List Itm} : sameL xs ys = true ↔ xs = ys := by
  unfold sameL
  simp only [Bool.and_eq_true, decide_eq_true_eq, List.all_eq_true, List.mem_range, sameI_iff]
  constructor
  · rintro ⟨h1, h2⟩
    refine List.ext_getElem h1 fun k hk hk2 => ?_
    have := h2 k hk
    simpa [List.getD, hk, hk2] using this
  · rintro rfl
    exact ⟨rfl, fun _ _ => rfl⟩
def sameH (p q : Pkt) : Bool := ((p.kind == q.kind) && ((p.frm == q.frm) && ((p.to == q.to) && ((p.boot == q.boot) && ((p.life == q.life) && ((p.echo == q.echo) && (p.elife == q.elife)))))))
def sameP (p q : Pkt) : Bool := sameH p q && sameL p.items q.items
theorem sameP_iff {p q : Pkt} : sameP p q = true ↔ p = q := by
  obtain ⟨a0, a1, a2, a3, a4, a5, a6, a7⟩ := p
  obtain ⟨b0, b1, b2, b3, b4, b5, b6, b7⟩ := q
  unfold sameP sameH
  simp [sameL_iff, and_assoc]
theorem beqD {α : Type} [BEq α] [LawfulBEq α] [DecidableEq α] (a b : α) : (a == b) = decide (a = b) := by rw [Bool.eq_iff_iff]; simp
theorem bool_neI (a b : Int) (W : World) : (if a = b then Result.ok (Value.bool false) W else Result.ok (Value.bool true) W) = .ok (.bool (!(a == b))) W := by
  by_cases h : a = b <;> simp [h]
theorem bool_chainN {c : Prop} [Decidable c] {r : Bool} {W : World} {b : Bool} {x : Result Value} (h1 : b = decide c) (h2 : c → x = .ok (.bool (!r)) W) : (if c then x else .ok (.bool true) W) = .ok (.bool (!(b && r))) W := by
  subst h1
  by_cases h : c
  · rw [if_pos h, h2 h]; simp [h]
  · rw [if_neg h]; simp [h]
set_option maxHeartbeats 2000000 in
theorem ne_I (x y : Itm) (W : World) : (binOp .neq 38 (.agg #[.string ⟨x.name.toArray⟩, .int .i64 x.epoch, .int .i64 x.maker, .bool x.alive, .int .i64 x.kind, .int .i64 x.scale, .int .i64 x.ver, .int .i64 x.writer, .int .i64 x.flow, .bool x.hasRest, .int .i64 x.rest, .bool x.mn.has, .int .i64 x.mn.val, .int .i64 x.mn.org, .int .i64 x.mn.age, .bool x.mx.has, .int .i64 x.mx.val, .int .i64 x.mx.org, .int .i64 x.mx.age]) (.agg #[.string ⟨y.name.toArray⟩, .int .i64 y.epoch, .int .i64 y.maker, .bool y.alive, .int .i64 y.kind, .int .i64 y.scale, .int .i64 y.ver, .int .i64 y.writer, .int .i64 y.flow, .bool y.hasRest, .int .i64 y.rest, .bool y.mn.has, .int .i64 y.mn.val, .int .i64 y.mn.org, .int .i64 y.mn.age, .bool y.mx.has, .int .i64 y.mx.val, .int .i64 y.mx.org, .int .i64 y.mx.age])).run Tryd.prog W = .ok (.bool (!sameI x y)) W := by
  rw [run_neq_struct]
  simp [go_sem]
  unfold sameI
  repeat (first | exact bool_neI _ _ _ | refine bool_chainN (beqD _ _) fun _ => ?_)
theorem exec_neq_agg {P : Program} {o : Oper} {a : Act} {W : World} (ty : TypeId) (x y : Operand) (ty' : TypeId) (ho : o.op = .binOp .neq ty x y ty') (vx vy : Array Value) (b : Bool) (hx : a.eval x = .agg vx) (hy : a.eval y = .agg vy) (hm : P.eqGuardType P.depth ty = false) (hr : (binOp .neq ty (.agg vx) (.agg vy)).run P W = .ok (.bool b) W) :
    (execOp a.eval o).run P W = .ok (.value (.bool b)) W := by
  unfold execOp
  simp only [ho, hx, hy, Sem.run_bind, run_eqGuard_agg W .neq ty x y vx vy hm, hr, Result.andThen_ok]
  rfl
theorem sameL_bad {xs ys : List Itm} (k : Nat) (hk : k < xs.length) (h : ¬ sameI (xs.getD k nilI) (ys.getD k nilI) = true) : sameL xs ys = false := by
  cases hs : sameL xs ys with
  | false => rfl
  | true =>
    unfold sameL at hs
    simp only [Bool.and_eq_true, List.all_eq_true, List.mem_range] at hs
    exact absurd (hs.2 k hk) h
theorem sameL_len {xs ys : List Itm} (h : ¬ xs.length = ys.length) : sameL xs ys = false := by
  unfold sameL
  simp [h]
theorem sameL_good {xs ys : List Itm} (h : xs.length = ys.length) (ha : ∀ j, j < xs.length → sameI (xs.getD j nilI) (ys.getD j nilI) = true) : sameL xs ys = true := by
  unfold sameL
  simp only [Bool.and_eq_true, decide_eq_true_eq, List.all_eq_true, List.mem_range]
  exact ⟨h, ha⟩

set_option maxRecDepth 100000 in
set_option maxHeartbeats 8000000 in
theorem rsame_any (p q : Pkt) (v u : Value) (w : World) (hv : Ims w w.heap.size v p.items) (hu : Ims w w.heap.size u q.items) :
    Calls Tryd.prog 15 #[.agg (p.cells v).toArray, .agg (q.cells u).toArray] w fun e w' => e = .returned (.bool (sameP p q)) ∧ Below w.heap.size w w' := by
  obtain ⟨v1, c1, rfl, h1, h2⟩ := hv.slice
  obtain ⟨v2, c2, rfl, h3, h4⟩ := hu.slice
  have HV := Lib.hid hv
  have HU := Lib.hid hu
  clear hv hu h1 h3 h4
  obtain ⟨R, hR⟩ : ∃ R, R = sameP p q := ⟨_, rfl⟩
  rw [← hR]
  obtain ⟨a0, a1, a2, a3, a4, a5, a6, xs⟩ := p
  obtain ⟨b0x, b1x, b2x, b3x, b4x, b5x, b6x, ys⟩ := q
  simp only at HV HU
  obtain ⟨n, hn⟩ : ∃ n, n = xs.length := ⟨_, rfl⟩
  have hmx' : n ≤ 9223372036854775807 := by rw [hn]; unfold maxLen at h2; exact h2
  clear h2
  obtain ⟨m, hm⟩ : ∃ n, n = ys.length := ⟨_, rfl⟩
  show Calls _ _ #[.agg #[.int .i64 a0, .int .i64 a1, .int .i64 a2, .int .i64 a3, .int .i64 a4, .int .i64 a5, .int .i64 a6, .slice v1 xs.length c1], .agg #[.int .i64 b0x, .int .i64 b1x, .int .i64 b2x, .int .i64 b3x, .int .i64 b4x, .int .i64 b5x, .int .i64 b6x, .slice v2 ys.length c2]] w _
  rw [← hn] at HV ⊢
  rw [← hm] at HU ⊢
  have HN := Lib.hid hn
  have HM := Lib.hid hm
  by_cases h0 : a0 = b0x
  case neg =>
    clear hn hm HN HM HV HU
    have hr : R = false := by rw [hR]; simp [sameP, sameH, h0]
    clear hR
    subst hr
    go_enter Tryd.func15, Tryd.ntmps15
    go_wp2
    go_ret
    exact ⟨rfl, ((Below.refl _ _).alloc (Nat.le_refl _) _).alloc (by simp) _⟩
  subst h0
  by_cases h1 : a1 = b1x
  case neg =>
    clear hn hm HN HM HV HU
    have hr : R = false := by rw [hR]; simp [sameP, sameH, h1]
    clear hR
    subst hr
    go_enter Tryd.func15, Tryd.ntmps15
    go_wp2
    go_ret
    exact ⟨rfl, ((Below.refl _ _).alloc (Nat.le_refl _) _).alloc (by simp) _⟩
  subst h1
  by_cases h2 : a2 = b2x
  case neg =>
    clear hn hm HN HM HV HU
    have hr : R = false := by rw [hR]; simp [sameP, sameH, h2]
    clear hR
    subst hr
    go_enter Tryd.func15, Tryd.ntmps15
    go_wp2
    go_ret
    exact ⟨rfl, ((Below.refl _ _).alloc (Nat.le_refl _) _).alloc (by simp) _⟩
  subst h2
  by_cases h3 : a3 = b3x
  case neg =>
    clear hn hm HN HM HV HU
    have hr : R = false := by rw [hR]; simp [sameP, sameH, h3]
    clear hR
    subst hr
    go_enter Tryd.func15, Tryd.ntmps15
    go_wp2
    go_ret
    exact ⟨rfl, ((Below.refl _ _).alloc (Nat.le_refl _) _).alloc (by simp) _⟩
  subst h3
  by_cases h4 : a4 = b4x
  case neg =>
    clear hn hm HN HM HV HU
    have hr : R = false := by rw [hR]; simp [sameP, sameH, h4]
    clear hR
    subst hr
    go_enter Tryd.func15, Tryd.ntmps15
    go_wp2
    go_ret
    exact ⟨rfl, ((Below.refl _ _).alloc (Nat.le_refl _) _).alloc (by simp) _⟩
  subst h4
  by_cases h5 : a5 = b5x
  case neg =>
    clear hn hm HN HM HV HU
    have hr : R = false := by rw [hR]; simp [sameP, sameH, h5]
    clear hR
    subst hr
    go_enter Tryd.func15, Tryd.ntmps15
    go_wp2
    go_ret
    exact ⟨rfl, ((Below.refl _ _).alloc (Nat.le_refl _) _).alloc (by simp) _⟩
  subst h5
  by_cases h6 : a6 = b6x
  case neg =>
    clear hn hm HN HM HV HU
    have hr : R = false := by rw [hR]; simp [sameP, sameH, h6]
    clear hR
    subst hr
    go_enter Tryd.func15, Tryd.ntmps15
    go_wp2
    go_ret
    exact ⟨rfl, ((Below.refl _ _).alloc (Nat.le_refl _) _).alloc (by simp) _⟩
  subst h6
  by_cases hnm : n = m
  case neg =>
    have hr : R = false := by rw [hR]; simp only [sameP, sameL_len (xs := xs) (ys := ys) (by omega), Bool.and_false]
    have e1 : ¬ ((n : Int) = (m : Int)) := by omega
    clear hR hn hm HN HM HV HU
    subst hr
    go_enter Tryd.func15, Tryd.ntmps15
    go_wp2
    go_ret
    exact ⟨rfl, ((Below.refl _ _).alloc (Nat.le_refl _) _).alloc (by simp) _⟩
  subst hnm
  have HR : Hid (R = sameL xs ys) := by show _ = _; rw [hR]; simp [sameP, sameH]
  clear hR hn hm
  obtain ⟨g1, k1⟩ := new_block w (.cells #[.int .i64 a0, .int .i64 a1, .int .i64 a2, .int .i64 a3, .int .i64 a4, .int .i64 a5, .int .i64 a6, .slice v1 n c1] 24)
  obtain ⟨g2, k2⟩ := new_block (w.alloc (.cells #[.int .i64 a0, .int .i64 a1, .int .i64 a2, .int .i64 a3, .int .i64 a4, .int .i64 a5, .int .i64 a6, .slice v1 n c1] 24)) (.cells #[.int .i64 a0, .int .i64 a1, .int .i64 a2, .int .i64 a3, .int .i64 a4, .int .i64 a5, .int .i64 a6, .slice v2 n c2] 24)
  have LB := Lib.hid (g1.trans (g2.mono g1.size))
  have K1 := Lib.hid (stays k1 g2)
  have K2 := Lib.hid k2
  simp only [World.size_alloc] at K2
  clear g1 g2 k1 k2
  go_enter Tryd.func15, Tryd.ntmps15
  go_wp2_with (fail)
  go_loopw [5] (fun i wr => ∃ k : Nat, k ≤ n ∧ i = .int .i64 (k : Int) ∧ Hid (∀ j, j < k → sameI (xs.getD j nilI) (ys.getD j nilI) = true) ∧ Hid (Below w.heap.size w wr) ∧ Hid (wr.heap[w.heap.size]? = some (.cells #[.int .i64 a0, .int .i64 a1, .int .i64 a2, .int .i64 a3, .int .i64 a4, .int .i64 a5, .int .i64 a6, .slice v1 n c1] 24 (0, 0))) ∧ Hid (wr.heap[w.heap.size + 1]? = some (.cells #[.int .i64 a0, .int .i64 a1, .int .i64 a2, .int .i64 a3, .int .i64 a4, .int .i64 a5, .int .i64 a6, .slice v2 n c2] 24 (0, 0)))) (fun i _ => n - (intOf i).toNat)
  case atStart => exact ⟨0, by omega, rfl, (fun j hj => absurd hj (Nat.not_lt_zero j)), LB, K1, K2⟩
  case round =>
    obtain ⟨k, hk, rfl, HG, LW, KP, KQ⟩ := hrel
    have c7 := cell_of_row _ _ 7 _ _ _ KP.out
    by_cases hlt : k < n
    · have hkx : k < xs.length := by have := HN.out; omega
      have hky : k < ys.length := by have := HM.out; omega
      obtain ⟨b1, o1, ha1, hb1, hcx⟩ := (HV.out.below LW.out (Nat.le_refl _)).at k hkx
      obtain ⟨b2, o2, ha2, hb2, hcy⟩ := (HU.out.below LW.out (Nat.le_refl _)).at k hky
      subst ha1 ha2
      obtain ⟨x, hx⟩ : ∃ x, x = xs.getD k nilI := ⟨_, rfl⟩
      obtain ⟨y, hy⟩ : ∃ x, x = ys.getD k nilI := ⟨_, rfl⟩
      have hrx0 := hcx k x (by rw [hx]; exact getD_some hkx)
      have hry0 := hcy k y (by rw [hy]; exact getD_some hky)
      have hrx : ∀ W, Below wr.heap.size wr W → W.rangeAt b1 (o1 + k * 19) x.cells := fun W hb j u hu => (hb.cell (p := ⟨b1, o1 + k * 19 + j, none⟩) (Nat.lt_of_lt_of_le hb1 LW.out.size)).trans (hrx0 j u hu)
      have hry : ∀ W, Below wr.heap.size wr W → W.rangeAt b2 (o2 + k * 19) y.cells := fun W hb j u hu => (hb.cell (p := ⟨b2, o2 + k * 19 + j, none⟩) (Nat.lt_of_lt_of_le hb2 LW.out.size)).trans (hry0 j u hu)
      have HX := Lib.hid hx
      have HY := Lib.hid hy
      have hki : 0 ≤ (k : Int) ∧ (k : Int) < (n : Int) := by omega
      clear hx hy hcx hcy hkx hky hrx0 hry0 hb1 hb2
      have hrxc : ∀ W, Below wr.heap.size wr W → W.cell? ⟨w.heap.size, 7, none⟩ = some (.slice (some ⟨b1, o1, none⟩) n c1) := fun W hb => cell_of_row _ _ 7 _ _ _ (stays KP.out hb)
      have hryc : ∀ W, Below wr.heap.size wr W → W.cell? ⟨w.heap.size + 1, 7, none⟩ = some (.slice (some ⟨b2, o2, none⟩) n c2) := fun W hb => cell_of_row _ _ 7 _ _ _ (stays KQ.out hb)
      by_cases hsm : sameI x y = true
      · have hne : ∀ W, (binOp .neq 38 (.agg x.cells.toArray) (.agg y.cells.toArray)).run Tryd.prog W = .ok (.bool false) W := fun W => by have h := ne_I x y W; rw [hsm] at h; exact h
        go_wp2_with (fail)
        refine wpIn_wide (n := 5).1 (wpIn_flowM (F0 := Fence.wide) (n0 := 5) (fun _ => trivial) (fun h => by cases h) (by kernel_rfl) (by kernel_rfl) 11 11 (by kernel_rfl) (fun j => ([0, 1, 2, 3, 4, 5, 6, 7, 8, 9, 10] : List Nat).getD j 0) (fun j => ([69, 70, 71, 72, 73, 74, 75, 76, 77, 78, 79] : List Nat).getD j 0) (by kernel_rfl) (by kernel_rfl) (by kernel_rfl) (by kernel_rfl) (by kernel_rfl) (by kernel_rfl) (by kernel_rfl) (fun j zv => ([(fun zv => zv = (.pointer (some ⟨w.heap.size, 7, none⟩))), (fun zv => zv = (.slice (some ⟨b1, o1, none⟩) n c1)), (fun zv => zv = (.int .i64 (k : Int))), (fun zv => zv = (.pointer (some ⟨b1, o1 + k * 19, none⟩))), (fun zv => zv = (.agg x.cells.toArray)), (fun zv => zv = (.pointer (some ⟨(w.heap.size + 1), 7, none⟩))), (fun zv => zv = (.slice (some ⟨b2, o2, none⟩) n c2)), (fun zv => zv = (.int .i64 (k : Int))), (fun zv => zv = (.pointer (some ⟨b2, o2 + k * 19, none⟩))), (fun zv => zv = (.agg y.cells.toArray)), (fun zv => zv = (.bool false))] : List (Value → Prop)).getD j (fun _ => True) zv) (fun d vs W => Below wr.heap.size wr W) ?h0c ?stepc ?finc)
        case h0c => exact fun vs => (Below.refl _ _).drew
        case stepc =>
          intro i o a W d vs hi ho hdi hJ hf hr hF
          replace hi : i < 11 := hi
          rcases (show i = 0 ∨ i = 1 ∨ i = 2 ∨ i = 3 ∨ i = 4 ∨ i = 5 ∨ i = 6 ∨ i = 7 ∨ i = 8 ∨ i = 9 ∨ i = 10 by omega) with rfl | rfl | rfl | rfl | rfl | rfl | rfl | rfl | rfl | rfl | rfl
          · replace ho := op_at ho (by rfl)
            subst ho
            have f2 : a.tmps.getD 2 undef = (.pointer (some ⟨w.heap.size, 0, none⟩)) := hf 2 (by kernel_rfl)
            exact .inl ⟨(fun k b h => by cases h), .inl ⟨0, by decide, rfl, (.pointer (some ⟨w.heap.size, 7, none⟩)), W, (by simp [go_sem, Act.eval, f2]), rfl, hJ⟩⟩
          · replace ho := op_at ho (by rfl)
            subst ho
            have d0 : a.tmps.getD 69 undef = (.pointer (some ⟨w.heap.size, 7, none⟩)) := by have h1 := hF 0 (by decide) (hr 0 (by kernel_rfl)); exact h1.2.trans h1.1
            have c7 := hrxc W hJ
            exact .inl ⟨(fun k b h => by cases h), .inl ⟨1, by decide, rfl, (.slice (some ⟨b1, o1, none⟩) n c1), W, (by simp [go_sem, Act.eval, d0, c7]), rfl, hJ⟩⟩
          · replace ho := op_at ho (by rfl)
            subst ho
            have f5 : a.tmps.getD 5 undef = (.int .i64 (k : Int)) := hf 5 (by kernel_rfl)
            exact .inl ⟨(fun k b h => by cases h), .inl ⟨2, by decide, rfl, (.int .i64 (k : Int)), W, (by simp [go_sem, Act.eval, f5]), rfl, hJ⟩⟩
          · replace ho := op_at ho (by rfl)
            subst ho
            have d1 : a.tmps.getD 70 undef = (.slice (some ⟨b1, o1, none⟩) n c1) := by have h1 := hF 1 (by decide) (hr 1 (by kernel_rfl)); exact h1.2.trans h1.1
            have d2 : a.tmps.getD 71 undef = (.int .i64 (k : Int)) := by have h1 := hF 2 (by decide) (hr 2 (by kernel_rfl)); exact h1.2.trans h1.1
            exact .inl ⟨(fun k b h => by cases h), .inl ⟨3, by decide, rfl, (.pointer (some ⟨b1, o1 + k * 19, none⟩)), W, (by simp [go_sem, Act.eval, d1, d2, hki]), rfl, hJ⟩⟩
          · replace ho := op_at ho (by rfl)
            subst ho
            have d3 : a.tmps.getD 72 undef = (.pointer (some ⟨b1, o1 + k * 19, none⟩)) := by have h1 := hF 3 (by decide) (hr 3 (by kernel_rfl)); exact h1.2.trans h1.1
            exact .inl ⟨(fun k b h => by cases h), .inl ⟨4, by decide, rfl, (.agg x.cells.toArray), W, (exec_load_mid 38 _ rfl b1 (o1 + k * 19) x.cells (.struct (Tryd.prog.fieldsOf 38)) (by simp only [Act.eval, d3]) (hrx W hJ) (by kernel_rfl) rfl (by kernel_rfl)), rfl, hJ⟩⟩
          · replace ho := op_at ho (by rfl)
            subst ho
            have f3 : a.tmps.getD 3 undef = (.pointer (some ⟨(w.heap.size + 1), 0, none⟩)) := hf 3 (by kernel_rfl)
            exact .inl ⟨(fun k b h => by cases h), .inl ⟨5, by decide, rfl, (.pointer (some ⟨(w.heap.size + 1), 7, none⟩)), W, (by simp [go_sem, Act.eval, f3]), rfl, hJ⟩⟩
          · replace ho := op_at ho (by rfl)
            subst ho
            have d5 : a.tmps.getD 74 undef = (.pointer (some ⟨(w.heap.size + 1), 7, none⟩)) := by have h1 := hF 5 (by decide) (hr 5 (by kernel_rfl)); exact h1.2.trans h1.1
            have c7 := hryc W hJ
            exact .inl ⟨(fun k b h => by cases h), .inl ⟨6, by decide, rfl, (.slice (some ⟨b2, o2, none⟩) n c2), W, (by simp [go_sem, Act.eval, d5, c7]), rfl, hJ⟩⟩
          · replace ho := op_at ho (by rfl)
            subst ho
            have f5 : a.tmps.getD 5 undef = (.int .i64 (k : Int)) := hf 5 (by kernel_rfl)
            exact .inl ⟨(fun k b h => by cases h), .inl ⟨7, by decide, rfl, (.int .i64 (k : Int)), W, (by simp [go_sem, Act.eval, f5]), rfl, hJ⟩⟩
          · replace ho := op_at ho (by rfl)
            subst ho
            have d6 : a.tmps.getD 75 undef = (.slice (some ⟨b2, o2, none⟩) n c2) := by have h1 := hF 6 (by decide) (hr 6 (by kernel_rfl)); exact h1.2.trans h1.1
            have d7 : a.tmps.getD 76 undef = (.int .i64 (k : Int)) := by have h1 := hF 7 (by decide) (hr 7 (by kernel_rfl)); exact h1.2.trans h1.1
            exact .inl ⟨(fun k b h => by cases h), .inl ⟨8, by decide, rfl, (.pointer (some ⟨b2, o2 + k * 19, none⟩)), W, (by simp [go_sem, Act.eval, d6, d7, hki]), rfl, hJ⟩⟩
          · replace ho := op_at ho (by rfl)
            subst ho
            have d8 : a.tmps.getD 77 undef = (.pointer (some ⟨b2, o2 + k * 19, none⟩)) := by have h1 := hF 8 (by decide) (hr 8 (by kernel_rfl)); exact h1.2.trans h1.1
            exact .inl ⟨(fun k b h => by cases h), .inl ⟨9, by decide, rfl, (.agg y.cells.toArray), W, (exec_load_mid 38 _ rfl b2 (o2 + k * 19) y.cells (.struct (Tryd.prog.fieldsOf 38)) (by simp only [Act.eval, d8]) (hry W hJ) (by kernel_rfl) rfl (by kernel_rfl)), rfl, hJ⟩⟩
          · replace ho := op_at ho (by rfl)
            subst ho
            have d4 : a.tmps.getD 73 undef = (.agg x.cells.toArray) := by have h1 := hF 4 (by decide) (hr 4 (by kernel_rfl)); exact h1.2.trans h1.1
            have d9 : a.tmps.getD 78 undef = (.agg y.cells.toArray) := by have h1 := hF 9 (by decide) (hr 9 (by kernel_rfl)); exact h1.2.trans h1.1
            exact .inl ⟨(fun k b h => by cases h), .inl ⟨10, by decide, rfl, (.bool false), W, (exec_neq_agg 38 _ _ _ rfl _ _ _ (by simp only [Act.eval, d4]) (by simp only [Act.eval, d9]) (by kernel_rfl) (hne W)), rfl, hJ⟩⟩
        case finc =>
          intro d vs Wc hall hJ hF
          have h0 : vs 0 = (.pointer (some ⟨w.heap.size, 7, none⟩)) := hF 0 (by decide)
          have h1 : vs 1 = (.slice (some ⟨b1, o1, none⟩) n c1) := hF 1 (by decide)
          have h2 : vs 2 = (.int .i64 (k : Int)) := hF 2 (by decide)
          have h3 : vs 3 = (.pointer (some ⟨b1, o1 + k * 19, none⟩)) := hF 3 (by decide)
          have h4 : vs 4 = (.agg x.cells.toArray) := hF 4 (by decide)
          have h5 : vs 5 = (.pointer (some ⟨(w.heap.size + 1), 7, none⟩)) := hF 5 (by decide)
          have h6 : vs 6 = (.slice (some ⟨b2, o2, none⟩) n c2) := hF 6 (by decide)
          have h7 : vs 7 = (.int .i64 (k : Int)) := hF 7 (by decide)
          have h8 : vs 8 = (.pointer (some ⟨b2, o2 + k * 19, none⟩)) := hF 8 (by decide)
          have h9 : vs 9 = (.agg y.cells.toArray) := hF 9 (by decide)
          have h10 : vs 10 = (.bool false) := hF 10 (by decide)
          clear hF
          have hB := hJ
          clear hJ hall
          show (_ : Exit → Act → World → Prop) Exit.normal (puts _ vs 11 _) Wc
          simp only [puts, h0, h1, h2, h3, h4, h5, h6, h7, h8, h9, h10, List.getD_cons_zero, List.getD_cons_succ]
          clear h0 h1 h2 h3 h4 h5 h6 h7 h8 h9 h10
          have LW2 := Lib.hid (LW.out.trans (hB.mono LW.out.size))
          have KP2 := Lib.hid (stays KP.out hB)
          have KQ2 := Lib.hid (stays KQ.out hB)
          have HG2 : Hid (∀ j, j < k + 1 → sameI (xs.getD j nilI) (ys.getD j nilI) = true) := fun j hj => by
            by_cases e : j = k
            · subst e; rw [← HX.out, ← HY.out]; exact hsm
            · exact HG.out j (by omega)
          clear hB hrx hry hne hsm hrxc hryc c7
          go_simp
          go_wp2_with (fail)
          go_roundw
          case rel => exact ⟨k + 1, by omega, by go_num, HG2, LW2, KP2, KQ2⟩
          case measure => simp [intOf] <;> omega
      · have hne : ∀ W, (binOp .neq 38 (.agg x.cells.toArray) (.agg y.cells.toArray)).run Tryd.prog W = .ok (.bool true) W := fun W => by have h := ne_I x y W; rw [Bool.eq_false_iff.2 hsm] at h; exact h
        have hr : R = false := by rw [HR.out]; exact sameL_bad k (by have := HN.out; omega) (by rw [← HX.out, ← HY.out]; exact hsm)
        have HRF := Lib.hid hr
        clear hr
        go_wp2_with (fail)
        refine wpIn_wide (n := 5).1 (wpIn_flowM (F0 := Fence.wide) (n0 := 5) (fun _ => trivial) (fun h => by cases h) (by kernel_rfl) (by kernel_rfl) 11 11 (by kernel_rfl) (fun j => ([0, 1, 2, 3, 4, 5, 6, 7, 8, 9, 10] : List Nat).getD j 0) (fun j => ([69, 70, 71, 72, 73, 74, 75, 76, 77, 78, 79] : List Nat).getD j 0) (by kernel_rfl) (by kernel_rfl) (by kernel_rfl) (by kernel_rfl) (by kernel_rfl) (by kernel_rfl) (by kernel_rfl) (fun j zv => ([(fun zv => zv = (.pointer (some ⟨w.heap.size, 7, none⟩))), (fun zv => zv = (.slice (some ⟨b1, o1, none⟩) n c1)), (fun zv => zv = (.int .i64 (k : Int))), (fun zv => zv = (.pointer (some ⟨b1, o1 + k * 19, none⟩))), (fun zv => zv = (.agg x.cells.toArray)), (fun zv => zv = (.pointer (some ⟨(w.heap.size + 1), 7, none⟩))), (fun zv => zv = (.slice (some ⟨b2, o2, none⟩) n c2)), (fun zv => zv = (.int .i64 (k : Int))), (fun zv => zv = (.pointer (some ⟨b2, o2 + k * 19, none⟩))), (fun zv => zv = (.agg y.cells.toArray)), (fun zv => zv = (.bool true))] : List (Value → Prop)).getD j (fun _ => True) zv) (fun d vs W => Below wr.heap.size wr W) ?h0d ?stepd ?find)
        case h0d => exact fun vs => (Below.refl _ _).drew
        case stepd =>
          intro i o a W d vs hi ho hdi hJ hf hr hF
          replace hi : i < 11 := hi
          rcases (show i = 0 ∨ i = 1 ∨ i = 2 ∨ i = 3 ∨ i = 4 ∨ i = 5 ∨ i = 6 ∨ i = 7 ∨ i = 8 ∨ i = 9 ∨ i = 10 by omega) with rfl | rfl | rfl | rfl | rfl | rfl | rfl | rfl | rfl | rfl | rfl
          · replace ho := op_at ho (by rfl)
            subst ho
            have f2 : a.tmps.getD 2 undef = (.pointer (some ⟨w.heap.size, 0, none⟩)) := hf 2 (by kernel_rfl)
            exact .inl ⟨(fun k b h => by cases h), .inl ⟨0, by decide, rfl, (.pointer (some ⟨w.heap.size, 7, none⟩)), W, (by simp [go_sem, Act.eval, f2]), rfl, hJ⟩⟩
          · replace ho := op_at ho (by rfl)
            subst ho
            have d0 : a.tmps.getD 69 undef = (.pointer (some ⟨w.heap.size, 7, none⟩)) := by have h1 := hF 0 (by decide) (hr 0 (by kernel_rfl)); exact h1.2.trans h1.1
            have c7 := hrxc W hJ
            exact .inl ⟨(fun k b h => by cases h), .inl ⟨1, by decide, rfl, (.slice (some ⟨b1, o1, none⟩) n c1), W, (by simp [go_sem, Act.eval, d0, c7]), rfl, hJ⟩⟩
          · replace ho := op_at ho (by rfl)
            subst ho
            have f5 : a.tmps.getD 5 undef = (.int .i64 (k : Int)) := hf 5 (by kernel_rfl)
            exact .inl ⟨(fun k b h => by cases h), .inl ⟨2, by decide, rfl, (.int .i64 (k : Int)), W, (by simp [go_sem, Act.eval, f5]), rfl, hJ⟩⟩
          · replace ho := op_at ho (by rfl)
            subst ho
            have d1 : a.tmps.getD 70 undef = (.slice (some ⟨b1, o1, none⟩) n c1) := by have h1 := hF 1 (by decide) (hr 1 (by kernel_rfl)); exact h1.2.trans h1.1
            have d2 : a.tmps.getD 71 undef = (.int .i64 (k : Int)) := by have h1 := hF 2 (by decide) (hr 2 (by kernel_rfl)); exact h1.2.trans h1.1
            exact .inl ⟨(fun k b h => by cases h), .inl ⟨3, by decide, rfl, (.pointer (some ⟨b1, o1 + k * 19, none⟩)), W, (by simp [go_sem, Act.eval, d1, d2, hki]), rfl, hJ⟩⟩
          · replace ho := op_at ho (by rfl)
            subst ho
            have d3 : a.tmps.getD 72 undef = (.pointer (some ⟨b1, o1 + k * 19, none⟩)) := by have h1 := hF 3 (by decide) (hr 3 (by kernel_rfl)); exact h1.2.trans h1.1
            exact .inl ⟨(fun k b h => by cases h), .inl ⟨4, by decide, rfl, (.agg x.cells.toArray), W, (exec_load_mid 38 _ rfl b1 (o1 + k * 19) x.cells (.struct (Tryd.prog.fieldsOf 38)) (by simp only [Act.eval, d3]) (hrx W hJ) (by kernel_rfl) rfl (by kernel_rfl)), rfl, hJ⟩⟩
          · replace ho := op_at ho (by rfl)
            subst ho
            have f3 : a.tmps.getD 3 undef = (.pointer (some ⟨(w.heap.size + 1), 0, none⟩)) := hf 3 (by kernel_rfl)
            exact .inl ⟨(fun k b h => by cases h), .inl ⟨5, by decide, rfl, (.pointer (some ⟨(w.heap.size + 1), 7, none⟩)), W, (by simp [go_sem, Act.eval, f3]), rfl, hJ⟩⟩
          · replace ho := op_at ho (by rfl)
            subst ho
            have d5 : a.tmps.getD 74 undef = (.pointer (some ⟨(w.heap.size + 1), 7, none⟩)) := by have h1 := hF 5 (by decide) (hr 5 (by kernel_rfl)); exact h1.2.trans h1.1
            have c7 := hryc W hJ
            exact .inl ⟨(fun k b h => by cases h), .inl ⟨6, by decide, rfl, (.slice (some ⟨b2, o2, none⟩) n c2), W, (by simp [go_sem, Act.eval, d5, c7]), rfl, hJ⟩⟩
          · replace ho := op_at ho (by rfl)
            subst ho
            have f5 : a.tmps.getD 5 undef = (.int .i64 (k : Int)) := hf 5 (by kernel_rfl)
            exact .inl ⟨(fun k b h => by cases h), .inl ⟨7, by decide, rfl, (.int .i64 (k : Int)), W, (by simp [go_sem, Act.eval, f5]), rfl, hJ⟩⟩
          · replace ho := op_at ho (by rfl)
            subst ho
            have d6 : a.tmps.getD 75 undef = (.slice (some ⟨b2, o2, none⟩) n c2) := by have h1 := hF 6 (by decide) (hr 6 (by kernel_rfl)); exact h1.2.trans h1.1
            have d7 : a.tmps.getD 76 undef = (.int .i64 (k : Int)) := by have h1 := hF 7 (by decide) (hr 7 (by kernel_rfl)); exact h1.2.trans h1.1
            exact .inl ⟨(fun k b h => by cases h), .inl ⟨8, by decide, rfl, (.pointer (some ⟨b2, o2 + k * 19, none⟩)), W, (by simp [go_sem, Act.eval, d6, d7, hki]), rfl, hJ⟩⟩
          · replace ho := op_at ho (by rfl)
            subst ho
            have d8 : a.tmps.getD 77 undef = (.pointer (some ⟨b2, o2 + k * 19, none⟩)) := by have h1 := hF 8 (by decide) (hr 8 (by kernel_rfl)); exact h1.2.trans h1.1
            exact .inl ⟨(fun k b h => by cases h), .inl ⟨9, by decide, rfl, (.agg y.cells.toArray), W, (exec_load_mid 38 _ rfl b2 (o2 + k * 19) y.cells (.struct (Tryd.prog.fieldsOf 38)) (by simp only [Act.eval, d8]) (hry W hJ) (by kernel_rfl) rfl (by kernel_rfl)), rfl, hJ⟩⟩
          · replace ho := op_at ho (by rfl)
            subst ho
            have d4 : a.tmps.getD 73 undef = (.agg x.cells.toArray) := by have h1 := hF 4 (by decide) (hr 4 (by kernel_rfl)); exact h1.2.trans h1.1
            have d9 : a.tmps.getD 78 undef = (.agg y.cells.toArray) := by have h1 := hF 9 (by decide) (hr 9 (by kernel_rfl)); exact h1.2.trans h1.1
            exact .inl ⟨(fun k b h => by cases h), .inl ⟨10, by decide, rfl, (.bool true), W, (exec_neq_agg 38 _ _ _ rfl _ _ _ (by simp only [Act.eval, d4]) (by simp only [Act.eval, d9]) (by kernel_rfl) (hne W)), rfl, hJ⟩⟩
        case find =>
          intro d vs Wd hall hJ hF
          have h0 : vs 0 = (.pointer (some ⟨w.heap.size, 7, none⟩)) := hF 0 (by decide)
          have h1 : vs 1 = (.slice (some ⟨b1, o1, none⟩) n c1) := hF 1 (by decide)
          have h2 : vs 2 = (.int .i64 (k : Int)) := hF 2 (by decide)
          have h3 : vs 3 = (.pointer (some ⟨b1, o1 + k * 19, none⟩)) := hF 3 (by decide)
          have h4 : vs 4 = (.agg x.cells.toArray) := hF 4 (by decide)
          have h5 : vs 5 = (.pointer (some ⟨(w.heap.size + 1), 7, none⟩)) := hF 5 (by decide)
          have h6 : vs 6 = (.slice (some ⟨b2, o2, none⟩) n c2) := hF 6 (by decide)
          have h7 : vs 7 = (.int .i64 (k : Int)) := hF 7 (by decide)
          have h8 : vs 8 = (.pointer (some ⟨b2, o2 + k * 19, none⟩)) := hF 8 (by decide)
          have h9 : vs 9 = (.agg y.cells.toArray) := hF 9 (by decide)
          have h10 : vs 10 = (.bool true) := hF 10 (by decide)
          clear hF
          have hB := hJ
          clear hJ hall
          show (_ : Exit → Act → World → Prop) Exit.normal (puts _ vs 11 _) Wd
          simp only [puts, h0, h1, h2, h3, h4, h5, h6, h7, h8, h9, h10, List.getD_cons_zero, List.getD_cons_succ]
          clear h0 h1 h2 h3 h4 h5 h6 h7 h8 h9 h10
          have LW2 := LW.out.trans (hB.mono LW.out.size)
          clear hB hrx hry hne hsm hrxc hryc c7
          go_simp
          go_wp2_with (fail)
          go_ret
          exact ⟨by rw [HRF.out]; first | rfl | kernel_rfl, LW2⟩
    · have hkn : ¬ ((k : Int) < (n : Int)) := by omega
      have hr : R = true := by rw [HR.out]; exact sameL_good (by have := HN.out; have := HM.out; omega) (fun j hj => HG.out j (by have := HN.out; omega))
      have HRT := Lib.hid hr
      clear hr hlt hk
      go_wp2_with (fail)
      go_ret
      exact ⟨by rw [HRT.out]; first | rfl | kernel_rfl, LW.out⟩

end Go.Proofs.YtgnpjenpehfjbaaDoor

namespace Go.Proofs.YtgnpjenpehfjbaaDoor
open Go.RowKit

end Go.Proofs.YtgnpjenpehfjbaaDoor

