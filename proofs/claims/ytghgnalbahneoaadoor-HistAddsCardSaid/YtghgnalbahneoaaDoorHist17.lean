/- Histograms: the program's Quantile, walked. -/
import Derived.Test.YtghgnalbahneoaaDoorHist16
import Derived.Test.YtghgnalbahneoaaDoorRangeA
import Derived.WalkMore
namespace Go.Proofs.YtghgnalbahneoaaDoor
open Go.RowKit

attribute [local go_sem] Oper.semAt_some



/-- a row stays under a turn of a block that is no row -/
theorem row_put {W : World} {k l : Nat} {cs : Array Value} {t : TypeId} {fr : Nat × Nat} {o : Obj} (o' : Obj) (h : W.heap[k]? = some (.cells cs t fr)) (hl : W.heap[l]? = some o) (hc : o.isCells = false) : (W.putObj l o').heap[k]? = some (.cells cs t fr) := by
  have : l ≠ k := by rintro rfl; rw [h] at hl; cases hl; simp [Obj.isCells] at hc
  rw [World.putObj_heap_other (by omega)]; exact h

theorem marks_ret {F : Fence} {n : Nat} {P : Program} {fn : Func} {R : Ending → World → Prop} {a : Act} {w : World} {v : Value} (hr : (results fn a.tmps).run P w = .ok v w) (hd : a.defers = []) (hR : R (.returned v) w) : bodyPostM F n P fn R .ret a w := by
  show LeavesInM F n P fn a.tmps R a.defers .returning w
  rw [hd]
  exact ⟨v, hr, hR⟩
theorem marks_ret1 {F : Fence} {n : Nat} {P : Program} {fn : Func} {R : Ending → World → Prop} {a : Act} {w : World} {v : Value} {D : Nat} (hd : a.defers = [{ target := .collected D, args := #[] }]) (hD : w.heap[D]? = some (.deferred (some []))) (hr : (results fn a.tmps).run P (w.putObj D (.deferred none)) = .ok v (w.putObj D (.deferred none))) (hR : R (.returned v) (w.putObj D (.deferred none))) : bodyPostM F n P fn R .ret a w := by
  show LeavesInM F n P fn a.tmps R a.defers .returning w
  rw [hd]
  exact ⟨by simp, .inl ⟨_, _, rfl, run_takeDeferred hD, v, hr, hR⟩⟩

/-- what Quantile's boxes hold between two rounds -/
structure QSt (w : World) (m p : Nat) (W : World) (vb vc : Value) (rr : Int) (o : Value × Value × Value × Value) : Prop where
  L : Below w.heap.size w W
  hm : w.heap.size + 2 ≤ m ∧ m < p
  r1 : W.heap[w.heap.size + 1]? = some (.cells #[.bool false, .int .i64 0, .bool false, .int .i64 0] 28 (0, 0))
  r2 : W.heap[m]? = some (.cells #[.int .i64 rr] 2 (0, 0))
  r3 : W.heap[p]? = some (.cells #[o.1, o.2.1, o.2.2.1, o.2.2.2] 28 (0, 0))
  r4 : W.heap[p + 1]? = some (hiO vb vc)
theorem QSt.below {w W W' : World} {m p : Nat} {vb vc : Value} {rr : Int} {o : Value × Value × Value × Value} (h : QSt w m p W vb vc rr o) (hb : Below W.heap.size W W') : QSt w m p W' vb vc rr o :=
  ⟨h.L.trans (hb.mono h.L.size), h.hm, stays h.r1 hb, stays h.r2 hb, stays h.r3 hb, stays h.r4 hb⟩
theorem QSt.put {w W : World} {m p : Nat} {vb vc : Value} {rr : Int} {z : Value × Value × Value × Value} (h : QSt w m p W vb vc rr z) {l : Nat} {o : Obj} (o' : Obj) (hn : w.heap.size ≤ l) (hl : W.heap[l]? = some o) (hc : o.isCells = false) : QSt w m p (W.putObj l o') vb vc rr z :=
  ⟨h.L.grown (grownBy_putObj' W l o') h.L.size (fun k e => by cases e; omega), h.hm, row_put o' h.r1 hl hc, row_put o' h.r2 hl hc, row_put o' h.r3 hl hc, row_put o' h.r4 hl hc⟩

theorem QSt.setR {w W : World} {m p : Nat} {vb vc : Value} {rr : Int} {z : Value × Value × Value × Value} (h : QSt w m p W vb vc rr z) (x : Int) : QSt w m p (W.setCell ⟨m, 0, none⟩ (.int .i64 x)) vb vc x z := by
  obtain ⟨h1, ⟨h2, h3⟩, h4, h5, h6, h7⟩ := h
  refine ⟨bel_set (by omega) h1, ⟨h2, h3⟩, ?_, heap_setCell_same W m 0 _ _ _ h5, ?_, ?_⟩
  · rw [Below.heap_setCell _ _ _ _ (show w.heap.size + 1 ≠ m by omega)]; exact h4
  · rw [Below.heap_setCell _ _ _ _ (show p ≠ m by omega)]; exact h6
  · rw [Below.heap_setCell _ _ _ _ (show p + 1 ≠ m by omega)]; exact h7
theorem QSt.setO {w W : World} {m p : Nat} {vb vc : Value} {rr : Int} {z : Value × Value × Value × Value} (h : QSt w m p W vb vc rr z) (a b c d : Value) : QSt w m p ((((W.setCell ⟨p, 0, none⟩ a).setCell ⟨p, 1, none⟩ b).setCell ⟨p, 2, none⟩ c).setCell ⟨p, 3, none⟩ d) vb vc rr (a, b, c, d) := by
  obtain ⟨h1, ⟨h2, h3⟩, h4, h5, h6, h7⟩ := h
  have o : ∀ q : Nat, q ≠ p → ((((W.setCell ⟨p, 0, none⟩ a).setCell ⟨p, 1, none⟩ b).setCell ⟨p, 2, none⟩ c).setCell ⟨p, 3, none⟩ d).heap[q]? = W.heap[q]? := by
    intro q hq
    rw [Below.heap_setCell _ _ _ _ hq, Below.heap_setCell _ _ _ _ hq, Below.heap_setCell _ _ _ _ hq, Below.heap_setCell _ _ _ _ hq]
  refine ⟨bel_set (by omega) (bel_set (by omega) (bel_set (by omega) (bel_set (by omega) h1))), ⟨h2, h3⟩, by rw [o _ (by omega)]; exact h4, by rw [o _ (by omega)]; exact h5, ?_, by rw [o _ (by omega)]; exact h7⟩
  exact heap_setCell_same _ p 3 _ _ d (heap_setCell_same _ p 2 _ _ c (heap_setCell_same _ p 1 _ _ b (heap_setCell_same W p 0 _ _ a h6)))

/-- the four cells of the answer's box -/
def stor4 (W : World) (k : Nat) (b1 : Bool) (l1 : Int) (b2 : Bool) (l2 : Int) : World := (((W.setCell ⟨k, 0, none⟩ (.bool b1)).setCell ⟨k, 1, none⟩ (.int .i64 l1)).setCell ⟨k, 2, none⟩ (.bool b2)).setCell ⟨k, 3, none⟩ (.int .i64 l2)
theorem stor4_row {W : World} {k : Nat} {a b c d : Value} {t : TypeId} (h : W.heap[k]? = some (.cells #[a, b, c, d] t (0, 0))) (b1 : Bool) (l1 : Int) (b2 : Bool) (l2 : Int) : (stor4 W k b1 l1 b2 l2).heap[k]? = some (.cells #[.bool b1, .int .i64 l1, .bool b2, .int .i64 l2] t (0, 0)) :=
  heap_setCell_same _ k 3 _ _ _ (heap_setCell_same _ k 2 _ _ _ (heap_setCell_same _ k 1 _ _ _ (heap_setCell_same W k 0 _ _ _ h)))
theorem stor4_other {W : World} {k q : Nat} (h : q ≠ k) (b1 : Bool) (l1 : Int) (b2 : Bool) (l2 : Int) : (stor4 W k b1 l1 b2 l2).heap[q]? = W.heap[q]? := by
  unfold stor4
  rw [Below.heap_setCell _ _ _ _ h, Below.heap_setCell _ _ _ _ h, Below.heap_setCell _ _ _ _ h, Below.heap_setCell _ _ _ _ h]
theorem stor4_below {B k : Nat} {w W : World} (hB : B ≤ k) (h : Below B w W) (b1 : Bool) (l1 : Int) (b2 : Bool) (l2 : Int) : Below B w (stor4 W k b1 l1 b2 l2) := bel_set hB (bel_set hB (bel_set hB (bel_set hB h)))
theorem stor4_others (W : World) (k : Nat) (b1 : Bool) (l1 : Int) (b2 : Bool) (l2 : Int) : KeepsOthers W (stor4 W k b1 l1 b2 l2) :=
  (((KeepsOthers.setCell _ _ _).trans (KeepsOthers.setCell _ _ _)).trans (KeepsOthers.setCell _ _ _)).trans (KeepsOthers.setCell _ _ _)

def QI (w : World) (m p : Nat) (vb vc : Value) (cs : List Int) (R : Int) (n : Nat) (W : World) : Prop := ∃ rr : Int, QSt w m p W vb vc rr (.bool false, .int .i64 0, .bool false, .int .i64 0) ∧ rr = R - (cs.take n).sum ∧ Past cs R n ∧ 1 ≤ rr ∧ rr ≤ 1000000000000000
def QX (w : World) (m p : Nat) (vb vc : Value) (bs cs : List Int) (R : Int) (c : Code) (W : World) : Prop := c = .exit 0 ∧ ∃ (k : Nat) (rr : Int) (b1 : Bool) (l1 : Int) (b2 : Bool) (l2 : Int), QSt w m p W vb vc rr (.bool b1, .int .i64 l1, .bool b2, .int .i64 l2) ∧ rgK bs k = rgV b1 l1 b2 l2 ∧ k < cs.length ∧ Past cs R k ∧ R - (cs.take k).sum ≤ cs.getD k 0

set_option maxRecDepth 100000 in
set_option maxHeartbeats 1000000 in
theorem quant_any (vb vc : Value) (bs cs : List Int) (num den : Int) (w : World) (hb : Its w w.heap.size vb bs) (hc : Its w w.heap.size vc cs) (hfit : FitH bs cs) : Calls Tryd.prog 10 #[hiV vb vc, .int .i64 num, .int .i64 den] w fun e w' => QuantR bs cs num den 0 e ∧ Below w.heap.size w w' := by
  obtain ⟨g0, k0⟩ := hist_new w vb vc
  have L : Hid (Below w.heap.size w ((w.alloc (.cells #[vb, vc] 24)).alloc (.cells #[.bool false, .int .i64 0, .bool false, .int .i64 0] 28))) := bel_alloc g0 g0.size
  have g1 : Below (w.alloc (.cells #[vb, vc] 24)).heap.size (w.alloc (.cells #[vb, vc] 24)) ((w.alloc (.cells #[vb, vc] 24)).alloc (.cells #[.bool false, .int .i64 0, .bool false, .int .i64 0] 28)) := bel_alloc (Below.refl _ _) (Nat.le_refl _)
  have K := Lib.hid (stays k0 g1)
  have HB0 := Lib.hid hb
  have HC0 := Lib.hid hc
  have HB := Lib.hid ((hb.kept g0).kept g1)
  have HC := Lib.hid ((hc.kept g0).kept g1)
  have HF := Lib.hid hfit
  clear g0 g1 k0 hfit
  obtain ⟨ab, capb, hvb, -⟩ := hb.slice
  obtain ⟨ac, capc, hvc, -⟩ := hc.slice
  subst hvb hvc
  obtain ⟨nb, hnb⟩ : ∃ n, n = bs.length := ⟨_, rfl⟩
  obtain ⟨nc, hnc⟩ : ∃ n, n = cs.length := ⟨_, rfl⟩
  rw [← hnb] at HB0
  rw [← hnc] at HC0
  rw [← hnb, ← hnc] at K HB HC L ⊢
  have NB := Lib.hid hnb
  have NC := Lib.hid hnc
  clear hb hc hnb hnc
  have bad : (den < 1 ∨ 1000000 < den ∨ num < 0 ∨ den < num) → Calls Tryd.prog 10 #[hiV (.slice ab nb capb) (.slice ac nc capc), .int .i64 num, .int .i64 den] w fun e w' => QuantR bs cs num den 0 e ∧ Below w.heap.size w w' := by
    intro h
    have HH := Lib.hid h
    rcases (show den < 1 ∨ (1 ≤ den ∧ 1000000 < den) ∨ (1 ≤ den ∧ den ≤ 1000000 ∧ num < 0) ∨ (1 ≤ den ∧ den ≤ 1000000 ∧ 0 ≤ num ∧ den < num) by omega) with h1 | ⟨h0, h1⟩ | ⟨h0, h1, h2⟩ | ⟨h0, h1, h2, h3⟩
    all_goals
      clear h
      refine (callsIn_wide (n := 5)).1 ?_
      refine callsIn_of_wp_marks Tryd.func10 rfl trivial ?_ rfl
      simp only [Tryd.ntmps10, List.size_toArray, List.length_cons, List.length_nil, Nat.reduceAdd, Nat.reduceSub, Array.replicate_succ, Array.replicate_zero, List.push_toArray, List.append_toArray, List.nil_append, List.cons_append]
      gi_wp2
      refine wpIn_scope_wide ?_
      gi_wp2
      rw [Exit.noGoto_ret]
      exact marks_ret (v := .tuple #[rgV false 0 false 0, .int .i64 31]) (by simp [results, rgV, Tryd.results10, go_sem, *]) rfl ⟨.inl ⟨HH.out, rfl⟩, by first | exact L.out | exact bel_set (by omega) (bel_set (by omega) (bel_set (by omega) (bel_set (by omega) L.out)))⟩
  by_cases h : den < 1 ∨ 1000000 < den ∨ num < 0 ∨ den < num
  · exact bad h
  · have OK : Hid (1 ≤ den ∧ den ≤ 1000000 ∧ 0 ≤ num ∧ num ≤ den) := by show _ ∧ _; omega
    obtain ⟨o1, o2, o3, o4⟩ := OK.out
    have o5 : num ≤ 1000000 := by omega
    have a0 := hiO_0 K.out
    have a1 := hiO_1 K.out
    have KR0 : ((w.alloc (.cells #[.slice ab nb capb, .slice ac nc capc] 24)).alloc (.cells #[.bool false, .int .i64 0, .bool false, .int .i64 0] 28)).heap[w.heap.size + 1]? = some (.cells #[.bool false, .int .i64 0, .bool false, .int .i64 0] 28 (0, 0)) := by
      have := heap_alloc_new (w.alloc (.cells #[.slice ab nb capb, .slice ac nc capc] 24)) (.cells #[.bool false, .int .i64 0, .bool false, .int .i64 0] 28)
      rwa [show (w.alloc (.cells #[.slice ab nb capb, .slice ac nc capc] 24)).heap.size = w.heap.size + 1 by simp] at this
    have KR := Lib.hid KR0
    have BND : Hid (nb ≤ 64 ∧ nc = nb + 1) := by have := HF.out.1.2.1; have := HF.out.2.1; have := NB.out; have := NC.out; show _ ∧ _; omega
    have ct := total_any (.slice ab nb capb) (.slice ac nc capc) bs cs _ HC.out (by have := NC.out; have := BND.out; omega) HF.out.cnt
    have hs1 := sum_in cs _ HF.out.cnt cs.length (Nat.le_refl _)
    rw [List.take_length] at hs1
    have HS1 := Lib.hid hs1
    obtain ⟨s, hs⟩ : ∃ s, s = cs.sum := ⟨_, rfl⟩
    rw [← hs] at ct
    have HSS := Lib.hid hs
    clear KR0 bad hs1 hs
    refine (callsIn_wide (n := 5)).1 ?_
    refine callsIn_of_wp_marks Tryd.func10 rfl trivial ?_ rfl
    simp only [Tryd.ntmps10, List.size_toArray, List.length_cons, List.length_nil, Nat.reduceAdd, Nat.reduceSub, Array.replicate_succ, Array.replicate_zero, List.push_toArray, List.append_toArray, List.nil_append, List.cons_append]
    gi_wp2_with (fail)
    refine wpIn_scope_wide ?_
    gi_wp2_with (fail)
    refine ⟨trivial, ?_⟩
    refine (callsIn_wide.2 ct).mono ?_
    rintro e w1 ⟨rfl, hB1⟩
    replace L := Lib.hid (L.out.trans (hB1.mono L.out.size))
    replace K := Lib.hid (stays K.out hB1)
    replace KR := Lib.hid (stays KR.out hB1)
    replace HB := Lib.hid (HB.out.kept hB1)
    replace HC := Lib.hid (HC.out.kept hB1)
    clear a0 a1 ct hB1
    have a0 := hiO_0 K.out
    have a1 := hiO_1 K.out
    have r0 : w1.cell? ⟨w.heap.size + 1, 0, none⟩ = some (.bool false) := cell_of_row _ _ 0 _ _ _ KR.out
    have r1 : w1.cell? ⟨w.heap.size + 1, 1, none⟩ = some (.int .i64 0) := cell_of_row _ _ 1 _ _ _ KR.out
    have r2 : w1.cell? ⟨w.heap.size + 1, 2, none⟩ = some (.bool false) := cell_of_row _ _ 2 _ _ _ KR.out
    have r3 : w1.cell? ⟨w.heap.size + 1, 3, none⟩ = some (.int .i64 0) := cell_of_row _ _ 3 _ _ _ KR.out
    have z0 : w1.frozen? ⟨w.heap.size + 1, 0, none⟩ = false := frozen_of_row _ _ 0 _ _ KR.out
    have z1 : w1.frozen? ⟨w.heap.size + 1, 1, none⟩ = false := frozen_of_row _ _ 1 _ _ KR.out
    have z2 : w1.frozen? ⟨w.heap.size + 1, 2, none⟩ = false := frozen_of_row _ _ 2 _ _ KR.out
    have z3 : w1.frozen? ⟨w.heap.size + 1, 3, none⟩ = false := frozen_of_row _ _ 3 _ _ KR.out
    by_cases ht : s = 0
    · subst ht
      gi_wp2
      rw [Exit.noGoto_ret]
      exact marks_ret (v := .tuple #[rgV false 0 false 0, .int .i64 50]) (by simp [results, rgV, Tryd.results10, go_sem, *]) rfl ⟨.inr (.inl ⟨OK.out, HSS.out.symm, rfl⟩), bel_set (by omega) (bel_set (by omega) (bel_set (by omega) (bel_set (by omega) L.out)))⟩
    · have hsb : 0 ≤ s ∧ s ≤ 1000000000000000 := by
        have := HS1.out; have := HSS.out; have := NC.out; have := BND.out
        rw [← NC.out] at *
        omega
      have hrl := rank_le num den s o3 o4 o1 (by omega)
      obtain ⟨p1, p2, p3, p4, p5, p6, p7, p8⟩ := rank_in num den s o3 o4 o1 o2 hsb.1 hsb.2
      have hR : rankF num den s = max (num * (s / den) + (num * (s % den) + den - 1) / den) 1 := by
        unfold rankF; rw [Int.mul_comm (s / den), Int.mul_comm (s % den)]
      rw [Int.mul_comm (s / den)] at p3 p4
      rw [Int.mul_comm (s % den)] at p7 p8
      obtain ⟨R, hRe⟩ : ∃ R, R = rankF num den s := ⟨_, rfl⟩
      have HRR : Hid (R = rankF num den cs.sum) := by show _ = _; rw [hRe, HSS.out]
      have HNE : Hid (cs.sum ≠ 0) := by show _ ≠ _; rw [← HSS.out]; exact ht
      have HRL : Hid (1 ≤ R ∧ R ≤ 1000000000000000) := by show _ ∧ _; rw [hRe]; omega
      rw [← hRe] at hR
      clear hRe hrl
      have e1 : s.tdiv den = s / den := Int.tdiv_eq_ediv_of_nonneg hsb.1
      have e2 : s.tmod den = s % den := Int.tmod_eq_emod_of_nonneg hsb.1
      have hz : den ≠ 0 := by omega
      have b0 : 0 ≤ (num * (s % den) + den - 1) / den := Int.ediv_nonneg (by omega) (by omega)
      have b1 : (num * (s % den) + den - 1) / den ≤ num * (s % den) + den - 1 := Int.ediv_le_self den (by omega)
      have e3 : (num * (s % den) + den - 1).tdiv den = (num * (s % den) + den - 1) / den := Int.tdiv_eq_ediv_of_nonneg (by omega)
      have hw : IntKind.i64.wrap (num * (s / den) + (num * (s % den) + den - 1) / den) = num * (s / den) + (num * (s % den) + den - 1) / den := by rw [IntKind.wrap_i64]; omega
      have hse : (s == 0) = false := by rw [beq_eq_false_iff_ne]; exact ht
      gi_wp2_with (fail)
      clear r0 r1 r2 r3 z0 z1 z2 z3
      have w1' : IntKind.i64.wrap (s / den) = s / den := by rw [IntKind.wrap_i64]; omega
      have w2' : IntKind.i64.wrap (num * (s / den)) = num * (s / den) := by rw [IntKind.wrap_i64]; omega
      have w3' : IntKind.i64.wrap (s % den) = s % den := by rw [IntKind.wrap_i64]; omega
      have w4' : IntKind.i64.wrap (num * (s % den)) = num * (s % den) := by rw [IntKind.wrap_i64]; omega
      have w5' : IntKind.i64.wrap (num * (s % den) + den) = num * (s % den) + den := by rw [IntKind.wrap_i64]; omega
      have w6' : IntKind.i64.wrap (num * (s % den) + den - 1) = num * (s % den) + den - 1 := by rw [IntKind.wrap_i64]; omega
      have w7' : IntKind.i64.wrap ((num * (s % den) + den - 1) / den) = (num * (s % den) + den - 1) / den := by rw [IntKind.wrap_i64]; omega
      refine wpIn_wide.2 ?_
      refine wp_flow_tail (by kernel_rfl) (by kernel_rfl) 17 (by decide) (by kernel_rfl) (fun i => if i = 16 then 9 else 34 + i) (by kernel_rfl) (by kernel_rfl) (by kernel_rfl) (fun i v W => ([(fun zv _ => zv = (.int .i64 (num))), (fun zv _ => zv = (.int .i64 (s))), (fun zv _ => zv = (.int .i64 (den))), (fun zv _ => zv = (.int .i64 (s / den))), (fun zv _ => zv = (.int .i64 (num * (s / den)))), (fun zv _ => zv = (.int .i64 (num))), (fun zv _ => zv = (.int .i64 (s))), (fun zv _ => zv = (.int .i64 (den))), (fun zv _ => zv = (.int .i64 (s % den))), (fun zv _ => zv = (.int .i64 (num * (s % den)))), (fun zv _ => zv = (.int .i64 (den))), (fun zv _ => zv = (.int .i64 (num * (s % den) + den))), (fun zv _ => zv = (.int .i64 (num * (s % den) + den - 1))), (fun zv _ => zv = (.int .i64 (den))), (fun zv _ => zv = (.int .i64 ((num * (s % den) + den - 1) / den))), (fun zv _ => zv = (.int .i64 (num * (s / den) + (num * (s % den) + den - 1) / den))), (fun zv W => ∃ b, zv = .pointer (some ⟨b, 0, none⟩) ∧ w1.heap.size ≤ b ∧ W.heap[b]? = some (.cells #[.int .i64 0] 2 (0, 0)))] : List (Value → World → Prop)).getD i (fun _ _ => True) v W) ?_ (fun i => false) ?_ (by kernel_rfl) ?_
      · intro i hi
        replace hi : i < 17 := hi
        rcases (show i = 0 ∨ i = 1 ∨ i = 2 ∨ i = 3 ∨ i = 4 ∨ i = 5 ∨ i = 6 ∨ i = 7 ∨ i = 8 ∨ i = 9 ∨ i = 10 ∨ i = 11 ∨ i = 12 ∨ i = 13 ∨ i = 14 ∨ i = 15 ∨ i = 16 by omega) with rfl | rfl | rfl | rfl | rfl | rfl | rfl | rfl | rfl | rfl | rfl | rfl | rfl | rfl | rfl | rfl | rfl
        · exact Stays.eq _
        · exact Stays.eq _
        · exact Stays.eq _
        · exact Stays.eq _
        · exact Stays.eq _
        · exact Stays.eq _
        · exact Stays.eq _
        · exact Stays.eq _
        · exact Stays.eq _
        · exact Stays.eq _
        · exact Stays.eq _
        · exact Stays.eq _
        · exact Stays.eq _
        · exact Stays.eq _
        · exact Stays.eq _
        · exact Stays.eq _
        · exact (fun v W W2 h hb => by obtain ⟨b, h1, h2, h3⟩ := h; exact ⟨b, h1, h2, stays h3 hb⟩)
      · intro i o a W hi ho hB hf hd hq
        replace hi : i < 17 := hi
        rcases (show i = 0 ∨ i = 1 ∨ i = 2 ∨ i = 3 ∨ i = 4 ∨ i = 5 ∨ i = 6 ∨ i = 7 ∨ i = 8 ∨ i = 9 ∨ i = 10 ∨ i = 11 ∨ i = 12 ∨ i = 13 ∨ i = 14 ∨ i = 15 ∨ i = 16 by omega) with rfl | rfl | rfl | rfl | rfl | rfl | rfl | rfl | rfl | rfl | rfl | rfl | rfl | rfl | rfl | rfl | rfl
        · replace ho := op_at ho (by rfl)
          subst ho
          have f1 : a.tmps.getD 1 undef = (.int .i64 (num)) := hf 1 (by kernel_rfl)
          refine .inl ⟨(fun j b h => by cases h), FlowOp.pure _ (by simp [go_sem, Act.eval, f1]) ⟨rfl, fun h => by cases h⟩⟩
        · replace ho := op_at ho (by rfl)
          subst ho
          have f8 : a.tmps.getD 8 undef = (.int .i64 (s)) := hf 8 (by kernel_rfl)
          refine .inl ⟨(fun j b h => by cases h), FlowOp.pure _ (by simp [go_sem, Act.eval, f8]) ⟨rfl, fun h => by cases h⟩⟩
        · replace ho := op_at ho (by rfl)
          subst ho
          have f2 : a.tmps.getD 2 undef = (.int .i64 (den)) := hf 2 (by kernel_rfl)
          refine .inl ⟨(fun j b h => by cases h), FlowOp.pure _ (by simp [go_sem, Act.eval, f2]) ⟨rfl, fun h => by cases h⟩⟩
        · replace ho := op_at ho (by rfl)
          subst ho
          have d1 : a.tmps.getD 35 undef = (.int .i64 (s)) := hd 1 (by kernel_rfl)
          have d2 : a.tmps.getD 36 undef = (.int .i64 (den)) := hd 2 (by kernel_rfl)
          refine .inl ⟨(fun j b h => by cases h), FlowOp.pure _ (by simp [go_sem, Act.eval, d1, d2, hz, e1, w1']) ⟨rfl, fun h => by cases h⟩⟩
        · replace ho := op_at ho (by rfl)
          subst ho
          have d0 : a.tmps.getD 34 undef = (.int .i64 (num)) := hd 0 (by kernel_rfl)
          have d3 : a.tmps.getD 37 undef = (.int .i64 (s / den)) := hd 3 (by kernel_rfl)
          refine .inl ⟨(fun j b h => by cases h), FlowOp.pure _ (by simp [go_sem, Act.eval, d0, d3, w2']) ⟨rfl, fun h => by cases h⟩⟩
        · replace ho := op_at ho (by rfl)
          subst ho
          have f1 : a.tmps.getD 1 undef = (.int .i64 (num)) := hf 1 (by kernel_rfl)
          refine .inl ⟨(fun j b h => by cases h), FlowOp.pure _ (by simp [go_sem, Act.eval, f1]) ⟨rfl, fun h => by cases h⟩⟩
        · replace ho := op_at ho (by rfl)
          subst ho
          have f8 : a.tmps.getD 8 undef = (.int .i64 (s)) := hf 8 (by kernel_rfl)
          refine .inl ⟨(fun j b h => by cases h), FlowOp.pure _ (by simp [go_sem, Act.eval, f8]) ⟨rfl, fun h => by cases h⟩⟩
        · replace ho := op_at ho (by rfl)
          subst ho
          have f2 : a.tmps.getD 2 undef = (.int .i64 (den)) := hf 2 (by kernel_rfl)
          refine .inl ⟨(fun j b h => by cases h), FlowOp.pure _ (by simp [go_sem, Act.eval, f2]) ⟨rfl, fun h => by cases h⟩⟩
        · replace ho := op_at ho (by rfl)
          subst ho
          have d6 : a.tmps.getD 40 undef = (.int .i64 (s)) := hd 6 (by kernel_rfl)
          have d7 : a.tmps.getD 41 undef = (.int .i64 (den)) := hd 7 (by kernel_rfl)
          refine .inl ⟨(fun j b h => by cases h), FlowOp.pure _ (by simp [go_sem, Act.eval, d6, d7, hz, e2, w3']) ⟨rfl, fun h => by cases h⟩⟩
        · replace ho := op_at ho (by rfl)
          subst ho
          have d5 : a.tmps.getD 39 undef = (.int .i64 (num)) := hd 5 (by kernel_rfl)
          have d8 : a.tmps.getD 42 undef = (.int .i64 (s % den)) := hd 8 (by kernel_rfl)
          refine .inl ⟨(fun j b h => by cases h), FlowOp.pure _ (by simp [go_sem, Act.eval, d5, d8, w4']) ⟨rfl, fun h => by cases h⟩⟩
        · replace ho := op_at ho (by rfl)
          subst ho
          have f2 : a.tmps.getD 2 undef = (.int .i64 (den)) := hf 2 (by kernel_rfl)
          refine .inl ⟨(fun j b h => by cases h), FlowOp.pure _ (by simp [go_sem, Act.eval, f2]) ⟨rfl, fun h => by cases h⟩⟩
        · replace ho := op_at ho (by rfl)
          subst ho
          have d9 : a.tmps.getD 43 undef = (.int .i64 (num * (s % den))) := hd 9 (by kernel_rfl)
          have d10 : a.tmps.getD 44 undef = (.int .i64 (den)) := hd 10 (by kernel_rfl)
          refine .inl ⟨(fun j b h => by cases h), FlowOp.pure _ (by simp [go_sem, Act.eval, d9, d10, w5']) ⟨rfl, fun h => by cases h⟩⟩
        · replace ho := op_at ho (by rfl)
          subst ho
          have d11 : a.tmps.getD 45 undef = (.int .i64 (num * (s % den) + den)) := hd 11 (by kernel_rfl)
          refine .inl ⟨(fun j b h => by cases h), FlowOp.pure _ (by simp [go_sem, Act.eval, d11, w6']) ⟨rfl, fun h => by cases h⟩⟩
        · replace ho := op_at ho (by rfl)
          subst ho
          have f2 : a.tmps.getD 2 undef = (.int .i64 (den)) := hf 2 (by kernel_rfl)
          refine .inl ⟨(fun j b h => by cases h), FlowOp.pure _ (by simp [go_sem, Act.eval, f2]) ⟨rfl, fun h => by cases h⟩⟩
        · replace ho := op_at ho (by rfl)
          subst ho
          have d12 : a.tmps.getD 46 undef = (.int .i64 (num * (s % den) + den - 1)) := hd 12 (by kernel_rfl)
          have d13 : a.tmps.getD 47 undef = (.int .i64 (den)) := hd 13 (by kernel_rfl)
          refine .inl ⟨(fun j b h => by cases h), FlowOp.pure _ (by simp [go_sem, Act.eval, d12, d13, hz, e3, w7']) ⟨rfl, fun h => by cases h⟩⟩
        · replace ho := op_at ho (by rfl)
          subst ho
          have d4 : a.tmps.getD 38 undef = (.int .i64 (num * (s / den))) := hd 4 (by kernel_rfl)
          have d14 : a.tmps.getD 48 undef = (.int .i64 ((num * (s % den) + den - 1) / den)) := hd 14 (by kernel_rfl)
          refine .inl ⟨(fun j b h => by cases h), FlowOp.pure _ (by simp [go_sem, Act.eval, d4, d14, hw]) ⟨rfl, fun h => by cases h⟩⟩
        · replace ho := op_at ho (by rfl)
          subst ho
          refine .inl ⟨(fun j b h => by cases h), .inl ⟨_, W.alloc (.cells #[.int .i64 0] 2), (by simp [go_sem, Act.eval]), bel_alloc (Below.refl _ _) (Nat.le_refl _), ⟨W.heap.size, rfl, hB.size, heap_alloc_new _ _⟩, fun h => by cases h⟩⟩
      · intro vs2 W2 hB2 hv hSS
        have h0 : vs2 0 = (.int .i64 (num)) := hv 0 (show 0 < 17 by decide)
        have h1 : vs2 1 = (.int .i64 (s)) := hv 1 (show 1 < 17 by decide)
        have h2 : vs2 2 = (.int .i64 (den)) := hv 2 (show 2 < 17 by decide)
        have h3 : vs2 3 = (.int .i64 (s / den)) := hv 3 (show 3 < 17 by decide)
        have h4 : vs2 4 = (.int .i64 (num * (s / den))) := hv 4 (show 4 < 17 by decide)
        have h5 : vs2 5 = (.int .i64 (num)) := hv 5 (show 5 < 17 by decide)
        have h6 : vs2 6 = (.int .i64 (s)) := hv 6 (show 6 < 17 by decide)
        have h7 : vs2 7 = (.int .i64 (den)) := hv 7 (show 7 < 17 by decide)
        have h8 : vs2 8 = (.int .i64 (s % den)) := hv 8 (show 8 < 17 by decide)
        have h9 : vs2 9 = (.int .i64 (num * (s % den))) := hv 9 (show 9 < 17 by decide)
        have h10 : vs2 10 = (.int .i64 (den)) := hv 10 (show 10 < 17 by decide)
        have h11 : vs2 11 = (.int .i64 (num * (s % den) + den)) := hv 11 (show 11 < 17 by decide)
        have h12 : vs2 12 = (.int .i64 (num * (s % den) + den - 1)) := hv 12 (show 12 < 17 by decide)
        have h13 : vs2 13 = (.int .i64 (den)) := hv 13 (show 13 < 17 by decide)
        have h14 : vs2 14 = (.int .i64 ((num * (s % den) + den - 1) / den)) := hv 14 (show 14 < 17 by decide)
        have h15 : vs2 15 = (.int .i64 (num * (s / den) + (num * (s % den) + den - 1) / den)) := hv 15 (show 15 < 17 by decide)
        have h16 : (fun zv W => ∃ b, zv = .pointer (some ⟨b, 0, none⟩) ∧ w1.heap.size ≤ b ∧ W.heap[b]? = some (.cells #[.int .i64 0] 2 (0, 0))) (vs2 16) W2 := hv 16 (show 16 < 17 by decide)
        clear hv
        simp only [List.drop_succ_cons, List.drop_zero]
        simp only [puts, h0, h1, h2, h3, h4, h5, h6, h7, h8, h9, h10, h11, h12, h13, h14, h15]
        clear h0 h1 h2 h3 h4 h5 h6 h7 h8 h9 h10 h11 h12 h13 h14 h15
        obtain ⟨m, e16, hm0, hmr⟩ := h16
        rw [e16]
        have mc := cell_of_row _ _ 0 _ _ _ hmr
        have mf := frozen_of_row _ _ 0 _ _ hmr
        have hmlt := (Array.getElem?_eq_some_iff.1 hmr).1
        have hs1 := heap_setCell_same W2 m 0 _ _ (.int .i64 (num * (s / den) + (num * (s % den) + den - 1) / den)) hmr
        have hs2 := heap_setCell_same _ m 0 _ _ (.int .i64 (max (num * (s / den) + (num * (s % den) + den - 1) / den) 1)) hs1
        gi_wp2
        rw [← hR] at hs2 ⊢
        refine wpIn_label ?_
        clear mc mf hs1 e1 e2 e3 w1' w2' w3' w4' w5' w6' w7' hw b0 b1 p1 p2 p3 p4 p5 p6 p7 p8
        generalize hW3 : (W2.setCell ⟨m, 0, none⟩ (.int .i64 (num * (s / den) + (num * (s % den) + den - 1) / den))).setCell ⟨m, 0, none⟩ (.int .i64 R) = W3 at *
        have hsz : W3.heap.size = W2.heap.size := by rw [← hW3]; simp [World.setCell]
        have L3 : Below w.heap.size w W3 := by
          rw [← hW3]
          have hL := L.out.size
          exact bel_set (by omega) (bel_set (by omega) (L.out.trans (hB2.mono hL)))
        have K3 := stays K.out hB2
        have KR3 := stays KR.out hB2
        have hKlt := (Array.getElem?_eq_some_iff.1 K.out).1
        have hKRlt := (Array.getElem?_eq_some_iff.1 KR.out).1
        have KH3 : W3.heap[w.heap.size]? = some (hiO (.slice ab nb capb) (.slice ac nc capc)) := by
          rw [← hW3, Below.heap_setCell _ _ _ _ (show w.heap.size ≠ m by omega), Below.heap_setCell _ _ _ _ (show w.heap.size ≠ m by omega)]; exact K3
        have KZ3 : W3.heap[w.heap.size + 1]? = some (.cells #[.bool false, .int .i64 0, .bool false, .int .i64 0] 28 (0, 0)) := by
          rw [← hW3, Below.heap_setCell _ _ _ _ (show w.heap.size + 1 ≠ m by omega), Below.heap_setCell _ _ _ _ (show w.heap.size + 1 ≠ m by omega)]; exact KR3
        have hS0 : QSt w m W3.heap.size ((W3.alloc (.cells #[.bool false, .int .i64 0, .bool false, .int .i64 0] 28)).alloc (.cells #[.slice ab nb capb, .slice ac nc capc] 24)) (.slice ab nb capb) (.slice ac nc capc) R (.bool false, .int .i64 0, .bool false, .int .i64 0) := by
          have hL3 := L3.size
          have g1 : Below W3.heap.size W3 (W3.alloc (.cells #[.bool false, .int .i64 0, .bool false, .int .i64 0] 28)) := bel_alloc (Below.refl _ _) (Nat.le_refl _)
          obtain ⟨g2, k2⟩ := hist_new (W3.alloc (.cells #[.bool false, .int .i64 0, .bool false, .int .i64 0] 28)) (.slice ab nb capb) (.slice ac nc capc)
          have k1 := heap_alloc_new W3 (.cells #[.bool false, .int .i64 0, .bool false, .int .i64 0] 28)
          rw [show (W3.alloc (.cells #[.bool false, .int .i64 0, .bool false, .int .i64 0] 28)).heap.size = W3.heap.size + 1 by simp] at k2
          refine ⟨L3.trans ((g1.trans (g2.mono g1.size)).mono hL3), ⟨by have := hsz; omega, by rw [hsz]; exact hmlt⟩, stays (stays KZ3 g1) g2, stays (stays hs2 g1) g2, stays k1 g2, k2⟩
        have a0 := hiO_0 (stays KH3 (bel_alloc (o := .cells #[.bool false, .int .i64 0, .bool false, .int .i64 0] 28) (Below.refl _ _) (Nat.le_refl _)))
        have a1 := hiO_1 (stays KH3 (bel_alloc (o := .cells #[.bool false, .int .i64 0, .bool false, .int .i64 0] 28) (Below.refl _ _) (Nat.le_refl _)))
        have HS0 := Lib.hid hS0
        have HRE := Lib.hid hR
        rw [← hsz]
        clear hS0 hW3 hs2 L3 K3 KR3 KH3 KZ3 hR hSS hB2 hmr hKlt hKRlt hm0 hmlt hsz
        gi_wp2_with (fail)
        refine ⟨trivial, ?_⟩
        refine (callsIn_wide.2 (buckets_calls _ _ _)).mono ?_
        rintro e w' ⟨rfl, rfl⟩
        gi_wp2
        obtain ⟨p, hp⟩ : ∃ p, p = W3.heap.size := ⟨_, rfl⟩
        rw [← hp] at HS0 ⊢
        have HPW := Lib.hid hp
        clear hp
        refine wpIn_range_as (F := Fence.wide) (n := 5) rfl (by omega) (gf := 62) (lb := #[.pointer (some ⟨p + 1, 0, none⟩)]) ?hg trivial (enters_of Tryd.func62 (by kernel_rfl) rfl)
          (buckets1_iter (p + 1) (.slice ab nb capb) (.slice ac nc capc) bs cs (by have := NB.out; have := NC.out; have := BND.out; omega) (by have := NB.out; have := BND.out; omega) 4) (fun x => rfl) ?hRput
          (fun pre W => QI w m p (.slice ab nb capb) (.slice ac nc capc) cs R pre.length W) (fun c _ W => QX w m p (.slice ab nb capb) (.slice ac nc capc) bs cs R c W) ?hI ?hIp ?hIxp ?hInv ?h0
          (A := ?A) (fun (x : Nat) (b : Nat) (b1 : Bool) (l1 : Int) (b2 : Bool) (l2 : Int) (c : Int) W => rgK bs x = rgV b1 l1 b2 l2 ∧ c = cs.getD x 0 ∧ W.heap[b]? = some (.cells #[.bool b1, .int .i64 l1, .bool b2, .int .i64 l2] 28 (0, 0))) ?hAxp ?assign ?body ?done ?stop
        case hg => rfl
        case hRput => exact fun pre x W l o o' h _ _ => h
        case hI =>
          rintro s' A B ⟨rr, h1, h2⟩ hb
          exact ⟨rr, h1.below hb, h2⟩
        case hIp =>
          rintro s' A l o o' ⟨rr, h1, h2⟩ hl ho hc
          exact ⟨rr, h1.put o' (by have := HS0.out.hm; have := HPW.out; simp at hl; omega) ho hc, h2⟩
        case hIxp =>
          rintro c s' A l o o' ⟨hc0, k, rr, b1, l1, b2, l2, h1, h2⟩ hl ho hc
          exact ⟨hc0, k, rr, b1, l1, b2, l2, h1.put o' (by have := HS0.out.hm; have := HPW.out; simp at hl; omega) ho hc, h2⟩
        case hInv =>
          rintro s' A ⟨rr, h1, h2⟩
          exact ⟨h1.r4, HB0.out.below h1.L h1.L.size, HC0.out.below h1.L h1.L.size⟩
        case h0 => exact ⟨R, HS0.out, by simp, Past.zero _ _, HRL.out.1, HRL.out.2⟩
        case hAxp =>
          rintro x b b1 l1 b2 l2 c A l o o' ⟨h2, h3, h4⟩ hl ho hc
          exact ⟨h2, h3, row_put o' h4 ho hc⟩
        case assign =>
          rintro yl pre k W K ⟨rr, hQ, hI2⟩ hR hK
          obtain ⟨b1, l1, b2, l2, hrg⟩ : ∃ b1 l1 b2 l2, rgK bs k = rgV b1 l1 b2 l2 := ⟨_, _, _, _, rfl⟩
          obtain ⟨c, hc⟩ : ∃ c, c = cs.getD k 0 := ⟨_, rfl⟩
          simp only [encB]
          rw [hrg, ← hc]
          simp only [rgV]
          have HK := Lib.hid hK
          have HQ := Lib.hid hQ
          have HRG := Lib.hid hrg
          have HCC := Lib.hid hc
          clear hK hQ hrg hc
          gi_wp2
          have g1 : Below W.heap.size W (W.alloc (.cells #[.bool b1, .int .i64 l1, .bool b2, .int .i64 l2] 28)) := bel_alloc (Below.refl _ _) (Nat.le_refl _)
          have k1 := heap_alloc_new W (.cells #[.bool b1, .int .i64 l1, .bool b2, .int .i64 l2] 28)
          have hQ1 := HQ.out.below g1
          clear g1
          have hko := KeepsOthers.alloc W (.cells #[.bool b1, .int .i64 l1, .bool b2, .int .i64 l2] 28)
          generalize W.heap.size = b at *
          exact HK.out b b1 l1 b2 l2 c _ hko ⟨rr, hQ1, hI2⟩ hR ⟨HRG.out, HCC.out, k1⟩
        case body =>
          rintro yl pre k b b1 l1 b2 l2 c W ⟨rr, hQ, hrr, hP, h1, h2⟩ ⟨hpre, hk⟩ ⟨hrg, hc, hrow⟩
          have hlen : pre.length = k := by rw [hpre]; simp
          rw [hlen] at hrr hP
          have hlen2 : (pre ++ [k]).length = k + 1 := by simp [hlen]
          have m0 := cell_of_row _ _ 0 _ _ _ hQ.r2
          have mf := frozen_of_row _ _ 0 _ _ hQ.r2
          have y0 := cell_of_row _ _ 0 _ _ _ hQ.r3
          have y1 := cell_of_row _ _ 1 _ _ _ hQ.r3
          have y2 := cell_of_row _ _ 2 _ _ _ hQ.r3
          have y3 := cell_of_row _ _ 3 _ _ _ hQ.r3
          have q0 := frozen_of_row _ _ 0 _ _ hQ.r3
          have q1 := frozen_of_row _ _ 1 _ _ hQ.r3
          have q2 := frozen_of_row _ _ 2 _ _ hQ.r3
          have q3 := frozen_of_row _ _ 3 _ _ hQ.r3
          have c0 := cell_of_row _ _ 0 _ _ _ hrow
          have c1 := cell_of_row _ _ 1 _ _ _ hrow
          have c2 := cell_of_row _ _ 2 _ _ _ hrow
          have c3 := cell_of_row _ _ 3 _ _ _ hrow
          have HQ := Lib.hid hQ
          have hcin := HF.out.cnt k
          rw [← hc] at hcin
          have hc0 : 0 ≤ c := hcin.1
          have hc1 : c ≤ 1099511627776 := hcin.2
          have HP := Lib.hid hP
          have HRG := Lib.hid hrg
          have HSR := Lib.hid hrr
          have HCC := Lib.hid hc
          have HK := Lib.hid hk
          have HLN := Lib.hid hlen2
          clear hQ hP hrg hrr hc hk hrow hpre hlen hlen2 hcin
          by_cases hle : rr ≤ c
          · gi_wp2
            exact ⟨stor4_others _ _ _ _ _ _, rfl, k, rr, b1, l1, b2, l2, HQ.out.setO _ _ _ _, HRG.out, HK.out, HP.out, by rw [← HSR.out, ← HCC.out]; exact hle⟩
          · have hlt2 : c < rr := by omega
            have hw : IntKind.i64.wrap (rr - c) = rr - c := by rw [IntKind.wrap_i64]; omega
            clear hle
            gi_wp2
            refine ⟨KeepsOthers.setCell _ _ _, rr - c, HQ.out.setR _, ?_, ?_, by omega, by omega⟩
            · rw [HLN.out, sum_snoc cs k HK.out, HSR.out, HCC.out]; omega
            · rw [HLN.out]; exact HP.out.step (by rw [← HSR.out, ← HCC.out]; exact hlt2)
        case done =>
          rintro D xs W rfl ⟨rr, hQ, hrr, hP, h1, h2⟩ hD hDn
          rw [List.length_range] at hP
          have q0 := cell_of_row _ _ 0 _ _ _ hQ.r3
          have q1 := cell_of_row _ _ 1 _ _ _ hQ.r3
          have q2 := cell_of_row _ _ 2 _ _ _ hQ.r3
          have q3 := cell_of_row _ _ 3 _ _ _ hQ.r3
          have y0 := cell_of_row _ _ 0 _ _ _ hQ.r1
          have y1 := cell_of_row _ _ 1 _ _ _ hQ.r1
          have y2 := cell_of_row _ _ 2 _ _ _ hQ.r1
          have y3 := cell_of_row _ _ 3 _ _ _ hQ.r1
          have z0 := frozen_of_row _ _ 0 _ _ hQ.r1
          have z1 := frozen_of_row _ _ 1 _ _ hQ.r1
          have z2 := frozen_of_row _ _ 2 _ _ hQ.r1
          have z3 := frozen_of_row _ _ 3 _ _ hQ.r1
          have HQ := Lib.hid hQ
          have HP := Lib.hid hP
          have HD := Lib.hid hD
          have HDN := Lib.hid hDn
          clear hQ hP hD hDn
          gi_wp2
          try rw [Exit.noGoto_ret]
          show bodyPostM _ _ _ _ _ _ _ (stor4 W (w.heap.size + 1) false 0 false 0)
          have hDl : w.heap.size + 1 ≠ D := by have hdn := HDN.out; have := HQ.out.hm; have := HPW.out; simp at hdn; omega
          have kr := row_put (.deferred none) (stor4_row HQ.out.r1 false 0 false 0) (show (stor4 W (w.heap.size + 1) false 0 false 0).heap[D]? = _ by rw [stor4_other (Ne.symm hDl)]; exact HD.out) rfl
          have hbl : Below w.heap.size w ((stor4 W (w.heap.size + 1) false 0 false 0).putObj D (.deferred none)) := (stor4_below (by omega) HQ.out.L false 0 false 0).grown (grownBy_putObj' _ D _) (stor4_below (by omega) HQ.out.L false 0 false 0).size (fun k e => by cases e; have hdn := HDN.out; have := HQ.out.hm; have := HPW.out; simp at hdn; omega)
          refine marks_ret1 rfl (show (stor4 W (w.heap.size + 1) false 0 false 0).heap[D]? = _ by rw [stor4_other (Ne.symm hDl)]; exact HD.out) (v := .tuple #[rgV false 0 false 0, .int .i64 0]) ?_ ⟨.inr (.inr ⟨OK.out, HNE.out, .inr ⟨by rw [← HRR.out]; exact HP.out, rfl⟩⟩), hbl⟩
          clear hbl
          generalize (stor4 W (w.heap.size + 1) false 0 false 0).putObj D (.deferred none) = V at *
          have x0 := cell_of_row _ _ 0 _ _ _ kr
          have x1 := cell_of_row _ _ 1 _ _ _ kr
          have x2 := cell_of_row _ _ 2 _ _ _ kr
          have x3 := cell_of_row _ _ 3 _ _ _ kr
          simp [results, rgV, Tryd.results10, go_sem, x0, x1, x2, x3]
        case stop =>
          rintro D c pre W - ⟨rfl, k, rr, b1, l1, b2, l2, hQ, hrg, hk, hP, hle⟩ hD hDn
          have q0 := cell_of_row _ _ 0 _ _ _ hQ.r3
          have q1 := cell_of_row _ _ 1 _ _ _ hQ.r3
          have q2 := cell_of_row _ _ 2 _ _ _ hQ.r3
          have q3 := cell_of_row _ _ 3 _ _ _ hQ.r3
          have y0 := cell_of_row _ _ 0 _ _ _ hQ.r1
          have y1 := cell_of_row _ _ 1 _ _ _ hQ.r1
          have y2 := cell_of_row _ _ 2 _ _ _ hQ.r1
          have y3 := cell_of_row _ _ 3 _ _ _ hQ.r1
          have z0 := frozen_of_row _ _ 0 _ _ hQ.r1
          have z1 := frozen_of_row _ _ 1 _ _ hQ.r1
          have z2 := frozen_of_row _ _ 2 _ _ hQ.r1
          have z3 := frozen_of_row _ _ 3 _ _ hQ.r1
          have HQ := Lib.hid hQ
          have HP := Lib.hid hP
          have HD := Lib.hid hD
          have HDN := Lib.hid hDn
          clear hQ hP hD hDn
          gi_wp2
          try rw [Exit.noGoto_ret]
          show bodyPostM _ _ _ _ _ _ _ (stor4 W (w.heap.size + 1) b1 l1 b2 l2)
          have hDl : w.heap.size + 1 ≠ D := by have hdn := HDN.out; have := HQ.out.hm; have := HPW.out; simp at hdn; omega
          have kr := row_put (.deferred none) (stor4_row HQ.out.r1 b1 l1 b2 l2) (show (stor4 W (w.heap.size + 1) b1 l1 b2 l2).heap[D]? = _ by rw [stor4_other (Ne.symm hDl)]; exact HD.out) rfl
          have hbl : Below w.heap.size w ((stor4 W (w.heap.size + 1) b1 l1 b2 l2).putObj D (.deferred none)) := (stor4_below (by omega) HQ.out.L b1 l1 b2 l2).grown (grownBy_putObj' _ D _) (stor4_below (by omega) HQ.out.L b1 l1 b2 l2).size (fun k e => by cases e; have hdn := HDN.out; have := HQ.out.hm; have := HPW.out; simp at hdn; omega)
          refine marks_ret1 rfl (show (stor4 W (w.heap.size + 1) b1 l1 b2 l2).heap[D]? = _ by rw [stor4_other (Ne.symm hDl)]; exact HD.out) (v := .tuple #[rgV b1 l1 b2 l2, .int .i64 0]) ?_ ⟨.inr (.inr ⟨OK.out, HNE.out, .inl ⟨k, hk, by rw [← HRR.out]; exact HP.out, by rw [← HRR.out]; exact hle, by rw [hrg]⟩⟩), hbl⟩
          clear hbl
          generalize (stor4 W (w.heap.size + 1) b1 l1 b2 l2).putObj D (.deferred none) = V at *
          have x0 := cell_of_row _ _ 0 _ _ _ kr
          have x1 := cell_of_row _ _ 1 _ _ _ kr
          have x2 := cell_of_row _ _ 2 _ _ _ kr
          have x3 := cell_of_row _ _ 3 _ _ _ kr
          simp [results, rgV, Tryd.results10, go_sem, x0, x1, x2, x3]

end Go.Proofs.YtghgnalbahneoaaDoor
