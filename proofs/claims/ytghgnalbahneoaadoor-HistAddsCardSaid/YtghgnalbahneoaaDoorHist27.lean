/- Histograms: the document's Merge (by program: wip/tools/gen_hist27.py). -/
import Derived.Test.YtghgnalbahneoaaDoorHist12
import Derived.Test.YtghgnalbahneoaaDoorFlowI
namespace Go.Proofs.YtghgnalbahneoaaDoor
open Go.RowKit

/-- what holds of the world while the region that appends a count runs: d13 the new row is made, d14 it is appended (u: the answer), d16 it is stored -/
structure Jm (W0 : World) (p : Nat) (vb v : Value) (l : List Int) (z : Int) (d13 d14 d16 : Bool) (u : Value) (W : World) : Prop where
  siz : W0.heap.size ≤ W.heap.size
  s13 : d13 = false → W.heap.size = W0.heap.size
  o14 : d14 = true → d13 = true
  o16 : d16 = true → d14 = true
  low : Below p W0 W
  lit : d13 = true → d14 = false → W.heap[W0.heap.size]? = some (.cells #[.int .i64 z] 2 (0, 0))
  own0 : d14 = false → OwnI W (p + 1) v l
  own1 : d14 = true → OwnI W (p + 1) u (l ++ [z])
  box0 : d16 = false → W.heap[p]? = some (hiO vb v)
  box1 : d16 = true → W.heap[p]? = some (hiO vb u)
theorem Jm.start {W0 : World} {p : Nat} {vb v u : Value} {l : List Int} {z : Int} (ho : OwnI W0 (p + 1) v l) (hb : W0.heap[p]? = some (hiO vb v)) : Jm W0 p vb v l z false false false u W0.drew :=
  ⟨Nat.le_refl _, fun _ => rfl, (fun e => by cases e), (fun e => by cases e), (Below.refl _ _).drew, (fun e => by cases e), fun _ => ho.below (Below.refl _ _).drew, (fun e => by cases e), fun _ => hb, fun e => by cases e⟩
theorem Jm.makes {W0 W : World} {p : Nat} {vb v u : Value} {l : List Int} {z : Int} {d14 d16 : Bool} (h : Jm W0 p vb v l z false d14 d16 u W) (hp : p ≤ W0.heap.size) : Jm W0 p vb v l z true d14 d16 u (W.alloc (.cells #[.int .i64 z] 2)) ∧ W.heap.size = W0.heap.size := by
  have e14 : d14 = false := by
    cases hd : d14 with
    | false => rfl
    | true => have := h.o14 hd; cases this
  have e16 : d16 = false := by
    cases hd : d16 with
    | false => rfl
    | true => have := h.o16 hd; rw [e14] at this; cases this
  have g := bel_alloc (o := .cells #[.int .i64 z] 2) (Below.refl W.heap.size W) (Nat.le_refl _)
  have hs := h.s13 rfl
  refine ⟨⟨Nat.le_trans h.siz g.size, (fun e => by cases e), fun _ => rfl, h.o16, bel_alloc h.low (by omega), fun _ _ => by rw [← hs]; exact heap_alloc_new _ _, fun e => (h.own0 e).below g, fun e => (h.own1 e).below g, fun e => stays (h.box0 e) g, fun e => stays (h.box1 e) g⟩, hs⟩
theorem Jm.appends {W0 W W' : World} {p : Nat} {vb v u u' : Value} {l : List Int} {z : Int} {d16 : Bool} (h : Jm W0 p vb v l z true false d16 u W) (ho : OwnI W' (p + 1) u' (l ++ [z])) (hg : W.grownBy W' v.ownBlock) : Jm W0 p vb v l z true true d16 u' W' := by
  have e16 : d16 = false := by
    cases hd : d16 with
    | false => rfl
    | true => have := h.o16 hd; cases this
  have hown := h.own0 rfl
  have hge : ∀ k, v.ownBlock = some k → p + 1 ≤ k := fun k e => (World.ownsRow.lt hown k e).1
  have hp := h.box0 e16
  have hpl := (Array.getElem?_eq_some_iff.1 hp).1
  refine ⟨Nat.le_trans h.siz hg.size, (fun e => by cases e), fun _ => rfl, fun _ => rfl, h.low.grown hg (by omega) (fun k e => by have := hge k e; omega), (fun _ e => by cases e), (fun e => by cases e), fun _ => ho, fun _ => ?_, fun e => by rw [e16] at e; cases e⟩
  rw [hg.block p hpl (fun e => by have := hge p e.symm; omega)]
  exact hp
theorem Jm.stores {W0 W : World} {p : Nat} {vb v u : Value} {l : List Int} {z : Int} (h : Jm W0 p vb v l z true true false u W) : Jm W0 p vb v l z true true true u (W.setCell ⟨p, 1, none⟩ u) :=
  ⟨by simpa [World.setCell] using h.siz, (fun e => by cases e), fun _ => rfl, fun _ => rfl, bel_set (Nat.le_refl _) h.low, (fun _ e => by cases e), (fun e => by cases e), fun e => (h.own1 e).set (by omega), (fun e => by cases e), fun _ => heap_setCell_same W p 1 _ _ u (h.box0 rfl)⟩
/-- a row below p stays -/
theorem OwnI.lowS {W0 W : World} {B p : Nat} {v : Value} {xs : List Int} (h : OwnI W0 B v xs) (hb : Below p W0 W) (hlt : ∀ g, v.ownBlock = some g → g < p) : OwnI W B v xs := by
  refine ⟨h.1, ?_⟩
  rcases h.2 with h | ⟨g, cap, cur, hv, hB, hg, r⟩
  · exact .inl h
  · exact .inr ⟨g, cap, cur, hv, hB, (hb.block _ (hlt g (by rw [hv]; rfl))).trans hg, r⟩
/-- append(s, x) of numbers, as one operation -/
theorem op_append_i64 (s x : Nat) (a : Act) (w : World) (base : Nat) (v : Value) (xs : List Int) (g : Nat) (z : Int) (hs : a.tmps.getD s undef = v) (hx : a.tmps.getD x undef = .slice (some ⟨g, 0, none⟩) 1 1) (hown : OwnI w base v xs) (hg : w.heap[g]? = some (.cells #[.int .i64 z] 2 (0, 0))) (hl : xs.length ≤ 1000) (hbase : base ≤ w.heap.size) :
    ∃ v' w', (∀ (dst : Option Tmp) (pos : String) (aft : Array Edge), (execOp a.eval { dst := dst, op := Op.call { callee := Callee.builtin Builtin.append, args := #[Operand.tmp s, Operand.tmp x], argTypes := #[22, 22] }, type := 22, pos := pos, after := aft, guard := none }).run Tryd.prog w = .ok (.value v') w') ∧ OwnI w' base v' (xs ++ [z]) ∧ w.grownBy w' v.ownBlock := by
  obtain ⟨i0, hi, hz0, hz1, hz2⟩ := info_parts info_i64
  obtain ⟨v', w', hr, h2, h3, _⟩ := run_append_own (P := Tryd.prog) w base 22 22 2 i0 (.int .i64 0) 1 8 Tryd.underlying22 hi hz0 hz1 hz2 rfl (by decide) v xs.length (xs.map (Value.int .i64)) hown ⟨g, 0, none⟩ 1 1 [.int .i64 z] rfl
    (by
      intro j y hj
      match j, hj with
      | 0, hj =>
        simp at hj; subst hj
        have := cell_of_row w g 0 _ _ _ hg
        simpa [Addr.add] using this) (by intro y hy; simp at hy; subst hy; rfl) (by unfold maxLen; omega) (by omega) hbase
  refine ⟨v', w', fun dst pos aft => ?_, by unfold OwnI; simpa using h2, h3⟩
  unfold execOp
  simp only [resolve, invoke, builtin, Sem.run_bind, Sem.run_pure, Result.andThen_ok, List.map_toArray, List.map_cons, List.map_nil, Act.eval, hs, hx, hr]

/-- the state between two rounds -/
structure MSt (w : World) (B p : Nat) (W : World) (v1 v2 v3 v4 vb v : Value) (ba l : List Int) : Prop where
  low : Below w.heap.size w W
  a0 : W.heap[w.heap.size]? = some (hiO v1 v2)
  b0 : W.heap[w.heap.size + 1]? = some (hiO v3 v4)
  res : W.heap[w.heap.size + 1 + 1]? = some (hiO (.slice none 0 0) (.slice none 0 0))
  bx : W.heap[p]? = some (hiO vb v)
  ob : OwnI W B vb ba
  oc : OwnI W (p + 1) v l
  hlt : ∀ g, vb.ownBlock = some g → g < p
  hp : w.heap.size + 1 + 1 < p
  hB : w.heap.size ≤ B
theorem MSt.step {w : World} {B p : Nat} {W W' : World} {v1 v2 v3 v4 vb v u : Value} {ba l : List Int} {z : Int} (h : MSt w B p W v1 v2 v3 v4 vb v ba l) (hj : Jm W p vb v l z true true true u W') : MSt w B p W' v1 v2 v3 v4 vb u ba (l ++ [z]) := by
  have hp := h.hp
  exact ⟨h.low.trans (hj.low.mono (by omega)), (hj.low.block _ (by omega)).trans h.a0, (hj.low.block _ (by omega)).trans h.b0, (hj.low.block _ (by omega)).trans h.res, hj.box1 rfl, h.ob.lowS hj.low h.hlt, hj.own1 rfl, h.hlt, h.hp, h.hB⟩
theorem MSt.both {w : World} {B p : Nat} {W : World} {v1 v2 v3 v4 vb v : Value} {ba l : List Int} (h : MSt w B p W v1 v2 v3 v4 vb v ba l) (hpos : 0 < ba.length) (hB : B ≤ p + 1) : HOwn W B vb v ba l := by
  refine ⟨h.ob, h.oc.mono hB, fun e => ?_⟩
  obtain ⟨g, cap, hv, -, -, -⟩ := h.ob.blk hpos
  have h1 := h.hlt g (by rw [hv]; rfl)
  have h2 := (World.ownsRow.lt h.oc g (by rw [← e, hv]; rfl)).1
  omega
def sumL (ca cb : List Int) (k : Nat) : List Int := (List.range k).map (fun (j : Nat) => ca.getD j 0 + cb.getD j 0)
theorem sumL_length (ca cb : List Int) (k : Nat) : (sumL ca cb k).length = k := by unfold sumL; simp
theorem sumL_snoc (ca cb : List Int) (k : Nat) : sumL ca cb (k + 1) = sumL ca cb k ++ [ca.getD k 0 + cb.getD k 0] := by unfold sumL; rw [List.range_succ, List.map_append]; rfl
theorem sumL_getD (ca cb : List Int) (k j : Nat) (h : j < k) : (sumL ca cb k).getD j 0 = ca.getD j 0 + cb.getD j 0 := by
  unfold sumL; rw [List.getD_eq_getElem?_getD, List.getElem?_map, List.getElem?_range h]; rfl
theorem sumL_all (ca cb : List Int) : sumL ca cb ca.length = mrgF ca cb ca.length := by
  refine List.ext_getElem (by rw [sumL_length, mrgF_length]) fun j h1 h2 => ?_
  have hj : j < ca.length := by rw [mrgF_length] at h2; exact h2
  have e1 := sumL_getD ca cb ca.length j hj
  have e2 := mrgF_getD ca cb ca.length j hj
  rw [if_pos hj] at e2
  rw [List.getD_eq_getElem?_getD, List.getElem?_eq_getElem h1] at e1
  rw [List.getD_eq_getElem?_getD, List.getElem?_eq_getElem h2] at e2
  simp at e1 e2
  rw [e1, e2]

set_option maxRecDepth 100000 in
set_option maxHeartbeats 1000000 in
theorem rmerge_any (v1 v2 v3 v4 : Value) (ba ca bb cb : List Int) (w : World) (h1 : Its w w.heap.size v1 ba) (h2 : Its w w.heap.size v2 ca) (h3 : Its w w.heap.size v3 bb) (h4 : Its w w.heap.size v4 cb) (hfa : FitH ba ca) (hfb : FitH bb cb) : Calls Tryd.prog 35 #[hiV v1 v2, hiV v3 v4] w fun e w' => MergeR ba ca bb cb w.heap.size e w' ∧ Below w.heap.size w w' := by
  obtain ⟨g0, k0⟩ := hist_new w v1 v2
  obtain ⟨g1, k1⟩ := hist_new (w.alloc (.cells #[v1, v2] 24)) v3 v4
  obtain ⟨g2, k2⟩ := hist_new ((w.alloc (.cells #[v1, v2] 24)).alloc (.cells #[v3, v4] 24)) (.slice none 0 0) (.slice none 0 0)
  have G01 := g0.trans (g1.mono g0.size)
  have L := Lib.hid (G01.trans (g2.mono G01.size))
  have KA := Lib.hid (stays (stays k0 g1) g2)
  have KB0 := stays k1 g2
  have KR0 := k2
  simp only [World.size_alloc] at KB0 KR0
  have KB := Lib.hid KB0
  have KR := Lib.hid KR0
  have H1 := Lib.hid h1
  have H2 := Lib.hid h2
  have H3 := Lib.hid h3
  have H4 := Lib.hid h4
  clear g0 g1 g2 k0 k1 k2 G01 KB0 KR0
  obtain ⟨a1, c1, hv1, -⟩ := h1.slice
  obtain ⟨a2, c2, hv2, -⟩ := h2.slice
  obtain ⟨a3, c3, hv3, -⟩ := h3.slice
  obtain ⟨a4, c4, hv4, -⟩ := h4.slice
  subst hv1 hv2 hv3 hv4
  have HFA := Lib.hid hfa
  have HFB := Lib.hid hfb
  obtain ⟨nb, hnb⟩ : ∃ n, n = ba.length := ⟨_, rfl⟩
  obtain ⟨nc, hnc⟩ : ∃ n, n = ca.length := ⟨_, rfl⟩
  obtain ⟨nb3, hnb3⟩ : ∃ n, n = bb.length := ⟨_, rfl⟩
  obtain ⟨nc4, hnc4⟩ : ∃ n, n = cb.length := ⟨_, rfl⟩
  rw [← hnb] at H1 KA KB KR L ⊢
  rw [← hnc] at H2 KA KB KR L ⊢
  rw [← hnb3] at H3 KA KB KR L ⊢
  rw [← hnc4] at H4 KA KB KR L ⊢
  have NB := Lib.hid hnb
  have NC := Lib.hid hnc
  have NB3 := Lib.hid hnb3
  have NC4 := Lib.hid hnc4
  have BND : Hid (1 ≤ nb ∧ nb ≤ 64 ∧ nc = nb + 1 ∧ nb3 ≤ 64 ∧ nc4 = nb3 + 1) := by
    have e0 := hfa.1.1; have e1 := hfa.1.2.1; have e2 := hfa.2.1; have e3 := hfb.1.2.1; have e4 := hfb.2.1
    show _ ∧ _
    omega
  clear h1 h2 h3 h4 hfa hfb hnb hnc hnb3 hnc4
  have x0 := hiO_0 KR.out
  have x1 := hiO_1 KR.out
  have z0 := hiF_0 KR.out
  have z1 := hiF_1 KR.out
  have y0 := hiO_0 KA.out
  have y3 := hiO_0 KB.out
  go_enter Tryd.func35, Tryd.ntmps35
  by_cases hlen : nb = nb3
  · subst hlen
    have hn4 : nc4 = nc := by have := BND.out; omega
    subst hn4
    have hb64 : nb ≤ 64 := BND.out.2.1
    go_wp2_with (fail)
    clear x0 x1 z0 z1 y0 y3
    obtain ⟨W0, hW0⟩ : ∃ W0, W0 = (((w.alloc (.cells #[(.slice a1 nb c1), (.slice a2 nc4 c2)] 24)).alloc (.cells #[(.slice a3 nb c3), (.slice a4 nc4 c4)] 24)).alloc (.cells #[.slice none 0 0, .slice none 0 0] 24)) := ⟨_, rfl⟩
    rw [← hW0] at L KA KB KR ⊢
    clear hW0
    go_loopw [6] (fun i wr => ∃ k : Nat, k ≤ nb ∧ i = .int .i64 (k : Int) ∧ Hid (∀ j, j < k → ba.getD j 0 = bb.getD j 0) ∧ Hid (Below W0.heap.size W0 wr)) (fun i _ => nb - (intOf i).toNat)
    case atStart => exact ⟨0, Nat.zero_le _, rfl, fun j hj => absurd hj (by omega), Below.refl _ _⟩
    case round =>
      obtain ⟨k, hk, rfl, HEQ, HBW⟩ := hrel
      replace L := Lib.hid (L.out.trans (HBW.out.mono L.out.size))
      replace KA := Lib.hid (stays KA.out HBW.out)
      replace KB := Lib.hid (stays KB.out HBW.out)
      replace KR := Lib.hid (stays KR.out HBW.out)
      have y0 := hiO_0 KA.out
      by_cases hlt : k < nb
      · obtain ⟨x, hx⟩ : ∃ c, c = ba.getD k 0 := ⟨_, rfl⟩
        obtain ⟨y, hy⟩ : ∃ c, c = bb.getD k 0 := ⟨_, rfl⟩
        obtain ⟨b1, o1, ha1, hb1, hc1⟩ : ∃ b off, a1 = some ⟨b, off, none⟩ ∧ b < wr.heap.size ∧ wr.cell? ⟨b, off + k, none⟩ = some (.int .i64 x) := by
          rcases (H1.out.below L.out L.out.size).form with ⟨h0, -⟩ | ⟨hpos, b, off, cap', he, -, -, hb, hc2⟩
          · exfalso; rw [h0] at NB; have := NB.out; simp at this; omega
          · exact ⟨b, off, (Value.slice.inj he).1, hb, by rw [hx]; exact hc2 k (by have := NB.out; omega)⟩
        obtain ⟨b3, o3, ha3, hb3, hc3⟩ : ∃ b off, a3 = some ⟨b, off, none⟩ ∧ b < wr.heap.size ∧ wr.cell? ⟨b, off + k, none⟩ = some (.int .i64 y) := by
          rcases (H3.out.below L.out L.out.size).form with ⟨h0, -⟩ | ⟨hpos, b, off, cap', he, -, -, hb, hc2⟩
          · exfalso; rw [h0] at NB3; have := NB3.out; simp at this; omega
          · exact ⟨b, off, (Value.slice.inj he).1, hb, by rw [hy]; exact hc2 k (by have := NB3.out; omega)⟩
        subst ha1 ha3
        have hki : 0 ≤ (k : Int) ∧ (k : Int) < (nb : Int) := by omega
        have HX := Lib.hid hx
        have HY := Lib.hid hy
        clear hx hy
        by_cases hxy : x = y
        · have hbe : (x != y) = false := by rw [hxy]; simp
          have HXY := Lib.hid hxy
          clear hxy
          go_wp2_with (fail)
          clear y0
          refine wp_flow2 (by kernel_rfl) (by kernel_rfl) (fun i => 24 + i) (by kernel_rfl) (by kernel_rfl) (by kernel_rfl) (fun i v W => ([(fun zv _ => zv = (.pointer (some ⟨w.heap.size, 0, none⟩))), (fun zv _ => zv = (.slice (some ⟨b1, o1, none⟩) nb c1)), (fun zv _ => zv = (.int .i64 (k : Int))), (fun zv _ => zv = (.pointer (some ⟨b1, o1 + k, none⟩))), (fun zv _ => zv = (.int .i64 x)), (fun zv _ => zv = (.pointer (some ⟨w.heap.size + 1, 0, none⟩))), (fun zv _ => zv = (.slice (some ⟨b3, o3, none⟩) nb c3)), (fun zv _ => zv = (.int .i64 (k : Int))), (fun zv _ => zv = (.pointer (some ⟨b3, o3 + k, none⟩))), (fun zv _ => zv = (.int .i64 y)), (fun zv _ => zv = (.bool false))] : List (Value → World → Prop)).getD i (fun _ _ => True) v W) ?_ ?_ (by kernel_rfl) ?_
          · intro i hi
            replace hi : i < 11 := hi
            rcases (show i = 0 ∨ i = 1 ∨ i = 2 ∨ i = 3 ∨ i = 4 ∨ i = 5 ∨ i = 6 ∨ i = 7 ∨ i = 8 ∨ i = 9 ∨ i = 10 by omega) with rfl | rfl | rfl | rfl | rfl | rfl | rfl | rfl | rfl | rfl | rfl
            · exact Stays.eq _
            · exact Stays.eq _
            · exact Stays.eq _
            · exact Stays.eq _
            · exact Stays.eq _
            · exact Stays.eq _
            · exact Stays.eq _
            · exact Stays.eq _
            · exact Stays.eq _
            · exact Stays.eq _
            · exact Stays.eq _
          · intro i o a W hi ho hB hf hd
            replace hi : i < 11 := hi
            rcases (show i = 0 ∨ i = 1 ∨ i = 2 ∨ i = 3 ∨ i = 4 ∨ i = 5 ∨ i = 6 ∨ i = 7 ∨ i = 8 ∨ i = 9 ∨ i = 10 by omega) with rfl | rfl | rfl | rfl | rfl | rfl | rfl | rfl | rfl | rfl | rfl
            · replace ho := op_at ho (by rfl)
              subst ho
              have f2 : a.tmps.getD 2 undef = (.pointer (some ⟨w.heap.size, 0, none⟩)) := hf 2 (by kernel_rfl)
              refine .inl ⟨(fun j b h => by cases h), FlowOp.pure _ (by simp [go_sem, Act.eval, f2]) rfl⟩
            · replace ho := op_at ho (by rfl)
              subst ho
              have d0 : a.tmps.getD 24 undef = (.pointer (some ⟨w.heap.size, 0, none⟩)) := hd 0 (by kernel_rfl)
              have c0 := hiO_0 (stays KA.out hB)
              refine .inl ⟨(fun j b h => by cases h), FlowOp.pure _ (by simp [go_sem, Act.eval, d0, c0]) rfl⟩
            · replace ho := op_at ho (by rfl)
              subst ho
              have f6 : a.tmps.getD 6 undef = (.int .i64 (k : Int)) := hf 6 (by kernel_rfl)
              refine .inl ⟨(fun j b h => by cases h), FlowOp.pure _ (by simp [go_sem, Act.eval, f6]) rfl⟩
            · replace ho := op_at ho (by rfl)
              subst ho
              have d1 : a.tmps.getD 25 undef = (.slice (some ⟨b1, o1, none⟩) nb c1) := hd 1 (by kernel_rfl)
              have d2 : a.tmps.getD 26 undef = (.int .i64 (k : Int)) := hd 2 (by kernel_rfl)
              refine .inl ⟨(fun j b h => by cases h), FlowOp.pure _ (by simp [go_sem, Act.eval, d1, d2, hki]) rfl⟩
            · replace ho := op_at ho (by rfl)
              subst ho
              have d3 : a.tmps.getD 27 undef = (.pointer (some ⟨b1, o1 + k, none⟩)) := hd 3 (by kernel_rfl)
              have ck := (hB.cell (p := ⟨b1, o1 + k, none⟩) hb1).trans hc1
              refine .inl ⟨(fun j b h => by cases h), FlowOp.pure _ (by simp [go_sem, Act.eval, d3, ck]) rfl⟩
            · replace ho := op_at ho (by rfl)
              subst ho
              have f3 : a.tmps.getD 3 undef = (.pointer (some ⟨w.heap.size + 1, 0, none⟩)) := hf 3 (by kernel_rfl)
              refine .inl ⟨(fun j b h => by cases h), FlowOp.pure _ (by simp [go_sem, Act.eval, f3]) rfl⟩
            · replace ho := op_at ho (by rfl)
              subst ho
              have d5 : a.tmps.getD 29 undef = (.pointer (some ⟨w.heap.size + 1, 0, none⟩)) := hd 5 (by kernel_rfl)
              have c0 := hiO_0 (stays KB.out hB)
              refine .inl ⟨(fun j b h => by cases h), FlowOp.pure _ (by simp [go_sem, Act.eval, d5, c0]) rfl⟩
            · replace ho := op_at ho (by rfl)
              subst ho
              have f6 : a.tmps.getD 6 undef = (.int .i64 (k : Int)) := hf 6 (by kernel_rfl)
              refine .inl ⟨(fun j b h => by cases h), FlowOp.pure _ (by simp [go_sem, Act.eval, f6]) rfl⟩
            · replace ho := op_at ho (by rfl)
              subst ho
              have d6 : a.tmps.getD 30 undef = (.slice (some ⟨b3, o3, none⟩) nb c3) := hd 6 (by kernel_rfl)
              have d7 : a.tmps.getD 31 undef = (.int .i64 (k : Int)) := hd 7 (by kernel_rfl)
              refine .inl ⟨(fun j b h => by cases h), FlowOp.pure _ (by simp [go_sem, Act.eval, d6, d7, hki]) rfl⟩
            · replace ho := op_at ho (by rfl)
              subst ho
              have d8 : a.tmps.getD 32 undef = (.pointer (some ⟨b3, o3 + k, none⟩)) := hd 8 (by kernel_rfl)
              have ck := (hB.cell (p := ⟨b3, o3 + k, none⟩) hb3).trans hc3
              refine .inl ⟨(fun j b h => by cases h), FlowOp.pure _ (by simp [go_sem, Act.eval, d8, ck]) rfl⟩
            · replace ho := op_at ho (by rfl)
              subst ho
              have d4 : a.tmps.getD 28 undef = (.int .i64 x) := hd 4 (by kernel_rfl)
              have d9 : a.tmps.getD 33 undef = (.int .i64 y) := hd 9 (by kernel_rfl)
              refine .inl ⟨(fun j b h => by cases h), FlowOp.pure _ (by simp [go_sem, Act.eval, d4, d9, hbe]) rfl⟩
          · intro vs6 W6 hB6 hv
            have h0 : vs6 0 = (.pointer (some ⟨w.heap.size, 0, none⟩)) := hv 0 (show 0 < 11 by decide)
            have h1 : vs6 1 = (.slice (some ⟨b1, o1, none⟩) nb c1) := hv 1 (show 1 < 11 by decide)
            have h2 : vs6 2 = (.int .i64 (k : Int)) := hv 2 (show 2 < 11 by decide)
            have h3 : vs6 3 = (.pointer (some ⟨b1, o1 + k, none⟩)) := hv 3 (show 3 < 11 by decide)
            have h4 : vs6 4 = (.int .i64 x) := hv 4 (show 4 < 11 by decide)
            have h5 : vs6 5 = (.pointer (some ⟨w.heap.size + 1, 0, none⟩)) := hv 5 (show 5 < 11 by decide)
            have h6 : vs6 6 = (.slice (some ⟨b3, o3, none⟩) nb c3) := hv 6 (show 6 < 11 by decide)
            have h7 : vs6 7 = (.int .i64 (k : Int)) := hv 7 (show 7 < 11 by decide)
            have h8 : vs6 8 = (.pointer (some ⟨b3, o3 + k, none⟩)) := hv 8 (show 8 < 11 by decide)
            have h9 : vs6 9 = (.int .i64 y) := hv 9 (show 9 < 11 by decide)
            have h10 : vs6 10 = (.bool false) := hv 10 (show 10 < 11 by decide)
            clear hv
            show (_ : Exit → Act → World → Prop) Exit.normal (puts _ vs6 11 _) W6
            simp only [puts, h0, h1, h2, h3, h4, h5, h6, h7, h8, h9, h10]
            clear h0 h1 h2 h3 h4 h5 h6 h7 h8 h9 h10
            have HB6 := Lib.hid (HBW.out.trans (hB6.mono HBW.out.size))
            have HEQ2 : Hid (∀ j, j < k + 1 → ba.getD j 0 = bb.getD j 0) := fun j hj => by
              rcases Nat.lt_or_ge j k with h | h
              · exact HEQ.out j h
              · obtain rfl : j = k := by omega
                rw [← HX.out, ← HY.out]; exact HXY.out
            clear hB6 hb1 hc1 hb3 hc3 hbe
            go_simp
            go_wp2
            go_roundw
            case rel => exact ⟨k + 1, by omega, by go_num, HEQ2, HB6⟩
            case measure => simp [intOf]; omega
        · have hbe : (x != y) = true := by rw [bne_iff_ne]; exact hxy
          have HBAD : Hid (ba ≠ bb) := fun e => hxy (by rw [HX.out, HY.out, e])
          clear hxy
          go_wp2_with (fail)
          clear y0
          refine wp_flow2 (by kernel_rfl) (by kernel_rfl) (fun i => 24 + i) (by kernel_rfl) (by kernel_rfl) (by kernel_rfl) (fun i v W => ([(fun zv _ => zv = (.pointer (some ⟨w.heap.size, 0, none⟩))), (fun zv _ => zv = (.slice (some ⟨b1, o1, none⟩) nb c1)), (fun zv _ => zv = (.int .i64 (k : Int))), (fun zv _ => zv = (.pointer (some ⟨b1, o1 + k, none⟩))), (fun zv _ => zv = (.int .i64 x)), (fun zv _ => zv = (.pointer (some ⟨w.heap.size + 1, 0, none⟩))), (fun zv _ => zv = (.slice (some ⟨b3, o3, none⟩) nb c3)), (fun zv _ => zv = (.int .i64 (k : Int))), (fun zv _ => zv = (.pointer (some ⟨b3, o3 + k, none⟩))), (fun zv _ => zv = (.int .i64 y)), (fun zv _ => zv = (.bool true))] : List (Value → World → Prop)).getD i (fun _ _ => True) v W) ?_ ?_ (by kernel_rfl) ?_
          · intro i hi
            replace hi : i < 11 := hi
            rcases (show i = 0 ∨ i = 1 ∨ i = 2 ∨ i = 3 ∨ i = 4 ∨ i = 5 ∨ i = 6 ∨ i = 7 ∨ i = 8 ∨ i = 9 ∨ i = 10 by omega) with rfl | rfl | rfl | rfl | rfl | rfl | rfl | rfl | rfl | rfl | rfl
            · exact Stays.eq _
            · exact Stays.eq _
            · exact Stays.eq _
            · exact Stays.eq _
            · exact Stays.eq _
            · exact Stays.eq _
            · exact Stays.eq _
            · exact Stays.eq _
            · exact Stays.eq _
            · exact Stays.eq _
            · exact Stays.eq _
          · intro i o a W hi ho hB hf hd
            replace hi : i < 11 := hi
            rcases (show i = 0 ∨ i = 1 ∨ i = 2 ∨ i = 3 ∨ i = 4 ∨ i = 5 ∨ i = 6 ∨ i = 7 ∨ i = 8 ∨ i = 9 ∨ i = 10 by omega) with rfl | rfl | rfl | rfl | rfl | rfl | rfl | rfl | rfl | rfl | rfl
            · replace ho := op_at ho (by rfl)
              subst ho
              have f2 : a.tmps.getD 2 undef = (.pointer (some ⟨w.heap.size, 0, none⟩)) := hf 2 (by kernel_rfl)
              refine .inl ⟨(fun j b h => by cases h), FlowOp.pure _ (by simp [go_sem, Act.eval, f2]) rfl⟩
            · replace ho := op_at ho (by rfl)
              subst ho
              have d0 : a.tmps.getD 24 undef = (.pointer (some ⟨w.heap.size, 0, none⟩)) := hd 0 (by kernel_rfl)
              have c0 := hiO_0 (stays KA.out hB)
              refine .inl ⟨(fun j b h => by cases h), FlowOp.pure _ (by simp [go_sem, Act.eval, d0, c0]) rfl⟩
            · replace ho := op_at ho (by rfl)
              subst ho
              have f6 : a.tmps.getD 6 undef = (.int .i64 (k : Int)) := hf 6 (by kernel_rfl)
              refine .inl ⟨(fun j b h => by cases h), FlowOp.pure _ (by simp [go_sem, Act.eval, f6]) rfl⟩
            · replace ho := op_at ho (by rfl)
              subst ho
              have d1 : a.tmps.getD 25 undef = (.slice (some ⟨b1, o1, none⟩) nb c1) := hd 1 (by kernel_rfl)
              have d2 : a.tmps.getD 26 undef = (.int .i64 (k : Int)) := hd 2 (by kernel_rfl)
              refine .inl ⟨(fun j b h => by cases h), FlowOp.pure _ (by simp [go_sem, Act.eval, d1, d2, hki]) rfl⟩
            · replace ho := op_at ho (by rfl)
              subst ho
              have d3 : a.tmps.getD 27 undef = (.pointer (some ⟨b1, o1 + k, none⟩)) := hd 3 (by kernel_rfl)
              have ck := (hB.cell (p := ⟨b1, o1 + k, none⟩) hb1).trans hc1
              refine .inl ⟨(fun j b h => by cases h), FlowOp.pure _ (by simp [go_sem, Act.eval, d3, ck]) rfl⟩
            · replace ho := op_at ho (by rfl)
              subst ho
              have f3 : a.tmps.getD 3 undef = (.pointer (some ⟨w.heap.size + 1, 0, none⟩)) := hf 3 (by kernel_rfl)
              refine .inl ⟨(fun j b h => by cases h), FlowOp.pure _ (by simp [go_sem, Act.eval, f3]) rfl⟩
            · replace ho := op_at ho (by rfl)
              subst ho
              have d5 : a.tmps.getD 29 undef = (.pointer (some ⟨w.heap.size + 1, 0, none⟩)) := hd 5 (by kernel_rfl)
              have c0 := hiO_0 (stays KB.out hB)
              refine .inl ⟨(fun j b h => by cases h), FlowOp.pure _ (by simp [go_sem, Act.eval, d5, c0]) rfl⟩
            · replace ho := op_at ho (by rfl)
              subst ho
              have f6 : a.tmps.getD 6 undef = (.int .i64 (k : Int)) := hf 6 (by kernel_rfl)
              refine .inl ⟨(fun j b h => by cases h), FlowOp.pure _ (by simp [go_sem, Act.eval, f6]) rfl⟩
            · replace ho := op_at ho (by rfl)
              subst ho
              have d6 : a.tmps.getD 30 undef = (.slice (some ⟨b3, o3, none⟩) nb c3) := hd 6 (by kernel_rfl)
              have d7 : a.tmps.getD 31 undef = (.int .i64 (k : Int)) := hd 7 (by kernel_rfl)
              refine .inl ⟨(fun j b h => by cases h), FlowOp.pure _ (by simp [go_sem, Act.eval, d6, d7, hki]) rfl⟩
            · replace ho := op_at ho (by rfl)
              subst ho
              have d8 : a.tmps.getD 32 undef = (.pointer (some ⟨b3, o3 + k, none⟩)) := hd 8 (by kernel_rfl)
              have ck := (hB.cell (p := ⟨b3, o3 + k, none⟩) hb3).trans hc3
              refine .inl ⟨(fun j b h => by cases h), FlowOp.pure _ (by simp [go_sem, Act.eval, d8, ck]) rfl⟩
            · replace ho := op_at ho (by rfl)
              subst ho
              have d4 : a.tmps.getD 28 undef = (.int .i64 x) := hd 4 (by kernel_rfl)
              have d9 : a.tmps.getD 33 undef = (.int .i64 y) := hd 9 (by kernel_rfl)
              refine .inl ⟨(fun j b h => by cases h), FlowOp.pure _ (by simp [go_sem, Act.eval, d4, d9, hbe]) rfl⟩
          · intro vs6 W6 hB6 hv
            have h0 : vs6 0 = (.pointer (some ⟨w.heap.size, 0, none⟩)) := hv 0 (show 0 < 11 by decide)
            have h1 : vs6 1 = (.slice (some ⟨b1, o1, none⟩) nb c1) := hv 1 (show 1 < 11 by decide)
            have h2 : vs6 2 = (.int .i64 (k : Int)) := hv 2 (show 2 < 11 by decide)
            have h3 : vs6 3 = (.pointer (some ⟨b1, o1 + k, none⟩)) := hv 3 (show 3 < 11 by decide)
            have h4 : vs6 4 = (.int .i64 x) := hv 4 (show 4 < 11 by decide)
            have h5 : vs6 5 = (.pointer (some ⟨w.heap.size + 1, 0, none⟩)) := hv 5 (show 5 < 11 by decide)
            have h6 : vs6 6 = (.slice (some ⟨b3, o3, none⟩) nb c3) := hv 6 (show 6 < 11 by decide)
            have h7 : vs6 7 = (.int .i64 (k : Int)) := hv 7 (show 7 < 11 by decide)
            have h8 : vs6 8 = (.pointer (some ⟨b3, o3 + k, none⟩)) := hv 8 (show 8 < 11 by decide)
            have h9 : vs6 9 = (.int .i64 y) := hv 9 (show 9 < 11 by decide)
            have h10 : vs6 10 = (.bool true) := hv 10 (show 10 < 11 by decide)
            clear hv
            show (_ : Exit → Act → World → Prop) Exit.normal (puts _ vs6 11 _) W6
            simp only [puts, h0, h1, h2, h3, h4, h5, h6, h7, h8, h9, h10]
            clear h0 h1 h2 h3 h4 h5 h6 h7 h8 h9 h10
            have KR6 := Lib.hid (stays KR.out hB6)
            have L6 := Lib.hid (L.out.trans (hB6.mono L.out.size))
            have x0 := hiO_0 KR6.out
            have x1 := hiO_1 KR6.out
            have z0 := hiF_0 KR6.out
            have z1 := hiF_1 KR6.out
            clear hB6 hb1 hc1 hb3 hc3 hbe
            go_simp
            go_wp2
            exact bodyPost_ret (v := .tuple #[hiV (.slice none 0 0) (.slice none 0 0), .int .i64 20]) (by simp [results, Tryd.results35, go_sem, *]) rfl ⟨.inl ⟨HBAD.out, rfl⟩, bel_set (by omega) (bel_set (by omega) L6.out)⟩
      · have EQ : Hid (ba = bb) := by
          show _ = _
          refine List.ext_getElem (by rw [← NB.out, ← NB3.out]) fun j h1 h2 => ?_
          have := HEQ.out j (by have := NB.out; omega)
          rw [List.getD_eq_getElem?_getD, List.getD_eq_getElem?_getD, List.getElem?_eq_getElem h1, List.getElem?_eq_getElem h2] at this
          simpa using this
        have hkn : ¬ ((k : Int) < (nb : Int)) := by omega
        have hcp := Lib.hid (copied_any (.slice a1 nb c1) ba wr (H1.out.below L.out L.out.size) (by have := NB.out; have := BND.out; omega))
        clear hlt hk
        go_wp2_with (fail)
        clear hkn
        refine hcp.out.mono ?_
        rintro e w1 ⟨vb, rfl, ho, hB1⟩
        clear hcp y0
        obtain ⟨gb, cpb, hvb, -, hgbs, -⟩ := ho.blk (by have := NB.out; have := BND.out; omega)
        have g2 := (hist_new w1 vb (.slice none 0 0)).1
        have k2 := (hist_new w1 vb (.slice none 0 0)).2
        have hst : MSt w wr.heap.size w1.heap.size (w1.alloc (.cells #[vb, (.slice none 0 0)] 24)) (.slice a1 nb c1) (.slice a2 nc4 c2) (.slice a3 nb c3) (.slice a4 nc4 c4) vb (.slice none 0 0) ba (sumL ca cb 0) := by
          have hr := (Array.getElem?_eq_some_iff.1 KR.out).1
          refine ⟨L.out.trans ((hB1.trans (g2.mono hB1.size)).mono L.out.size), stays (stays KA.out hB1) g2, stays (stays KB.out hB1) g2, stays (stays KR.out hB1) g2, k2, ho.below g2, OwnI.nil _ _, (fun g e => by rw [hvb] at e; cases e; exact hgbs), by have := hB1.size; omega, L.out.size⟩
        have HST := Lib.hid hst
        have HWP : Hid (wr.heap.size ≤ w1.heap.size) := hB1.size
        subst hvb
        rw [← NB.out] at HST ⊢
        clear hst g2 k2 ho hB1 hgbs
        go_wp2
        generalize wr = R0 at *
        generalize w1.heap.size = p at *
        generalize w1.alloc (.cells #[(.slice (some ⟨gb, 0, none⟩) nb cpb), .slice none 0 0] 24) = W1 at *
        obtain ⟨vb, hvb⟩ : ∃ v, v = (.slice (some ⟨gb, 0, none⟩) nb cpb : Value) := ⟨_, rfl⟩
        rw [← hvb] at HST
        have HVB := Lib.hid hvb
        clear hvb
        have hn65 : nc4 ≤ 65 := by have := BND.out; omega
        go_loopw [8] (fun i wr => ∃ (k : Nat) (av : Option Addr) (cv : Nat), k ≤ nc4 ∧ i = .int .i64 (k : Int) ∧ Hid (MSt w R0.heap.size p wr (.slice a1 nb c1) (.slice a2 nc4 c2) (.slice a3 nb c3) (.slice a4 nc4 c4) vb (.slice av k cv) ba (sumL ca cb k)) ∧ Hid (∀ j, j < k → ca.getD j 0 + cb.getD j 0 ≤ 1099511627776)) (fun i _ => nc4 - (intOf i).toNat)
        case atStart => exact ⟨0, none, 0, Nat.zero_le _, rfl, HST, fun j hj => absurd hj (by omega)⟩
        case round =>
          obtain ⟨k, av, cv, hk, rfl, HS, HLIM⟩ := hrel
          have e0 := hiO_1 HS.out.a0
          by_cases hlt : k < nc4
          · obtain ⟨x, hx⟩ : ∃ c, c = ca.getD k 0 := ⟨_, rfl⟩
            obtain ⟨y, hy⟩ : ∃ c, c = cb.getD k 0 := ⟨_, rfl⟩
            obtain ⟨b2, o2, ha2, hb2, hc2⟩ : ∃ b off, a2 = some ⟨b, off, none⟩ ∧ b < w.heap.size ∧ wr.cell? ⟨b, off + k, none⟩ = some (.int .i64 x) := by
              rcases H2.out.form with ⟨h0, -⟩ | ⟨hpos, b, off, cap', he, -, -, hb, hc2⟩
              · exfalso; rw [h0] at NC; have := NC.out; simp at this; omega
              · exact ⟨b, off, (Value.slice.inj he).1, hb, by rw [hx]; exact (HS.out.low.cell (p := ⟨b, off + k, none⟩) hb).trans (hc2 k (by have := NC.out; omega))⟩
            obtain ⟨b4, o4, ha4, hb4, hc4⟩ : ∃ b off, a4 = some ⟨b, off, none⟩ ∧ b < w.heap.size ∧ wr.cell? ⟨b, off + k, none⟩ = some (.int .i64 y) := by
              rcases H4.out.form with ⟨h0, -⟩ | ⟨hpos, b, off, cap', he, -, -, hb, hc2⟩
              · exfalso; rw [h0] at NC4; have := NC4.out; simp at this; omega
              · exact ⟨b, off, (Value.slice.inj he).1, hb, by rw [hy]; exact (HS.out.low.cell (p := ⟨b, off + k, none⟩) hb).trans (hc2 k (by have := NC4.out; omega))⟩
            subst ha2 ha4
            have hxi := HFA.out.cnt k
            have hyi := HFB.out.cnt k
            rw [← hx] at hxi
            rw [← hy] at hyi
            have hki : 0 ≤ (k : Int) ∧ (k : Int) < (nc4 : Int) := by omega
            have hw : IntKind.i64.wrap (x + y) = x + y := by rw [IntKind.wrap_i64]; omega
            have hsn := sumL_snoc ca cb k
            rw [← hx, ← hy] at hsn
            have HSN := Lib.hid hsn
            have hp := HS.out.hp
            have hb2p : b2 < p := by omega
            have hb4p : b4 < p := by omega
            have hp0 : w.heap.size < p := by omega
            have hp1 : w.heap.size + 1 < p := by omega
            have hps := (Array.getElem?_eq_some_iff.1 HS.out.bx).1
            have HX := Lib.hid hx
            have HY := Lib.hid hy
            clear hx hy hsn
            go_wp2_with (fail)
            clear e0
            refine wp_flow_inv (by kernel_rfl) (by kernel_rfl) 16 (by kernel_rfl) (by kernel_rfl) (fun i => 47 + i) (by kernel_rfl) (by kernel_rfl) (by kernel_rfl) (by kernel_rfl) (fun i zv => ([(fun zv => zv = (.pointer (some ⟨p, 1, none⟩))), (fun zv => zv = (.slice av k cv)), (fun zv => zv = (.pointer (some ⟨w.heap.size, 1, none⟩))), (fun zv => zv = (.slice (some ⟨b2, o2, none⟩) nc4 c2)), (fun zv => zv = (.int .i64 (k : Int))), (fun zv => zv = (.pointer (some ⟨b2, o2 + k, none⟩))), (fun zv => zv = (.int .i64 x)), (fun zv => zv = (.pointer (some ⟨w.heap.size + 1, 1, none⟩))), (fun zv => zv = (.slice (some ⟨b4, o4, none⟩) nc4 c4)), (fun zv => zv = (.int .i64 (k : Int))), (fun zv => zv = (.pointer (some ⟨b4, o4 + k, none⟩))), (fun zv => zv = (.int .i64 y)), (fun zv => zv = (.int .i64 (x + y))), (fun zv => zv = (.slice (some ⟨wr.heap.size, 0, none⟩) 1 1)), (fun zv => ∃ g cap, zv = .slice (some ⟨g, 0, none⟩) (k + 1) cap), (fun zv => zv = (.pointer (some ⟨p, 1, none⟩)))] : List (Value → Prop)).getD i (fun _ => True) zv)
              (fun d vs W => Jm wr p vb (.slice av k cv) (sumL ca cb k) (x + y) (d 13) (d 14) (d 16) (vs 14) W ∧ (d 14 = true → d 1 = true)) ?h0 ?step ?fin
            case h0 => exact fun vs => ⟨Jm.start HS.out.oc HS.out.bx, fun e => by cases e⟩
            case step =>
              rintro i o a W d vs hi ho hdi ⟨hJ, hJ1⟩ hf hd
              replace hi : i < 17 := hi
              rcases (show i = 0 ∨ i = 1 ∨ i = 2 ∨ i = 3 ∨ i = 4 ∨ i = 5 ∨ i = 6 ∨ i = 7 ∨ i = 8 ∨ i = 9 ∨ i = 10 ∨ i = 11 ∨ i = 12 ∨ i = 13 ∨ i = 14 ∨ i = 15 ∨ i = 16 by omega) with rfl | rfl | rfl | rfl | rfl | rfl | rfl | rfl | rfl | rfl | rfl | rfl | rfl | rfl | rfl | rfl | rfl
              · replace ho := op_at ho (by rfl)
                subst ho
                have f7 : a.tmps.getD 7 undef = (.pointer (some ⟨p, 0, none⟩)) := hf 7 (by kernel_rfl)
                exact .inl ⟨by decide, (.pointer (some ⟨p, 1, none⟩)), W, (by simp [go_sem, Act.eval, f7]), rfl, hJ, hJ1⟩
              · replace ho := op_at ho (by rfl)
                subst ho
                have d0 : a.tmps.getD 47 undef = (.pointer (some ⟨p, 1, none⟩)) := ((hd 0 (by kernel_rfl)).2 (by decide)).2.trans ((hd 0 (by kernel_rfl)).2 (by decide)).1
                have e14 : d 14 = false := by cases h : d 14 with | false => rfl | true => exact absurd (hJ1 h) (by rw [hdi]; simp)
                have e16 : d 16 = false := by cases h : d 16 with | false => rfl | true => exact absurd (hJ.o16 h) (by rw [e14]; simp)
                have c0 : W.cell? ⟨p, 1, none⟩ = some (.slice av k cv) := hiO_1 (hJ.box0 e16)
                exact .inl ⟨by decide, (.slice av k cv), W, (by simp [go_sem, Act.eval, d0, c0]), rfl, hJ, fun _ => rfl⟩
              · replace ho := op_at ho (by rfl)
                subst ho
                have f2 : a.tmps.getD 2 undef = (.pointer (some ⟨w.heap.size, 0, none⟩)) := hf 2 (by kernel_rfl)
                exact .inl ⟨by decide, (.pointer (some ⟨w.heap.size, 1, none⟩)), W, (by simp [go_sem, Act.eval, f2]), rfl, hJ, hJ1⟩
              · replace ho := op_at ho (by rfl)
                subst ho
                have d2 : a.tmps.getD 49 undef = (.pointer (some ⟨w.heap.size, 1, none⟩)) := ((hd 2 (by kernel_rfl)).2 (by decide)).2.trans ((hd 2 (by kernel_rfl)).2 (by decide)).1
                have c0 := hiO_1 ((hJ.low.block _ hp0).trans HS.out.a0)
                exact .inl ⟨by decide, (.slice (some ⟨b2, o2, none⟩) nc4 c2), W, (by simp [go_sem, Act.eval, d2, c0]), rfl, hJ, hJ1⟩
              · replace ho := op_at ho (by rfl)
                subst ho
                have f8 : a.tmps.getD 8 undef = (.int .i64 (k : Int)) := hf 8 (by kernel_rfl)
                exact .inl ⟨by decide, (.int .i64 (k : Int)), W, (by simp [go_sem, Act.eval, f8]), rfl, hJ, hJ1⟩
              · replace ho := op_at ho (by rfl)
                subst ho
                have d3 : a.tmps.getD 50 undef = (.slice (some ⟨b2, o2, none⟩) nc4 c2) := ((hd 3 (by kernel_rfl)).2 (by decide)).2.trans ((hd 3 (by kernel_rfl)).2 (by decide)).1
                have d4 : a.tmps.getD 51 undef = (.int .i64 (k : Int)) := ((hd 4 (by kernel_rfl)).2 (by decide)).2.trans ((hd 4 (by kernel_rfl)).2 (by decide)).1
                exact .inl ⟨by decide, (.pointer (some ⟨b2, o2 + k, none⟩)), W, (by simp [go_sem, Act.eval, d3, d4, hki]), rfl, hJ, hJ1⟩
              · replace ho := op_at ho (by rfl)
                subst ho
                have d5 : a.tmps.getD 52 undef = (.pointer (some ⟨b2, o2 + k, none⟩)) := ((hd 5 (by kernel_rfl)).2 (by decide)).2.trans ((hd 5 (by kernel_rfl)).2 (by decide)).1
                have c0 := (hJ.low.cell (p := ⟨b2, o2 + k, none⟩) hb2p).trans hc2
                exact .inl ⟨by decide, (.int .i64 x), W, (by simp [go_sem, Act.eval, d5, c0]), rfl, hJ, hJ1⟩
              · replace ho := op_at ho (by rfl)
                subst ho
                have f3 : a.tmps.getD 3 undef = (.pointer (some ⟨w.heap.size + 1, 0, none⟩)) := hf 3 (by kernel_rfl)
                exact .inl ⟨by decide, (.pointer (some ⟨w.heap.size + 1, 1, none⟩)), W, (by simp [go_sem, Act.eval, f3]), rfl, hJ, hJ1⟩
              · replace ho := op_at ho (by rfl)
                subst ho
                have d7 : a.tmps.getD 54 undef = (.pointer (some ⟨w.heap.size + 1, 1, none⟩)) := ((hd 7 (by kernel_rfl)).2 (by decide)).2.trans ((hd 7 (by kernel_rfl)).2 (by decide)).1
                have c0 := hiO_1 ((hJ.low.block _ hp1).trans HS.out.b0)
                exact .inl ⟨by decide, (.slice (some ⟨b4, o4, none⟩) nc4 c4), W, (by simp [go_sem, Act.eval, d7, c0]), rfl, hJ, hJ1⟩
              · replace ho := op_at ho (by rfl)
                subst ho
                have f8 : a.tmps.getD 8 undef = (.int .i64 (k : Int)) := hf 8 (by kernel_rfl)
                exact .inl ⟨by decide, (.int .i64 (k : Int)), W, (by simp [go_sem, Act.eval, f8]), rfl, hJ, hJ1⟩
              · replace ho := op_at ho (by rfl)
                subst ho
                have d8 : a.tmps.getD 55 undef = (.slice (some ⟨b4, o4, none⟩) nc4 c4) := ((hd 8 (by kernel_rfl)).2 (by decide)).2.trans ((hd 8 (by kernel_rfl)).2 (by decide)).1
                have d9 : a.tmps.getD 56 undef = (.int .i64 (k : Int)) := ((hd 9 (by kernel_rfl)).2 (by decide)).2.trans ((hd 9 (by kernel_rfl)).2 (by decide)).1
                exact .inl ⟨by decide, (.pointer (some ⟨b4, o4 + k, none⟩)), W, (by simp [go_sem, Act.eval, d8, d9, hki]), rfl, hJ, hJ1⟩
              · replace ho := op_at ho (by rfl)
                subst ho
                have d10 : a.tmps.getD 57 undef = (.pointer (some ⟨b4, o4 + k, none⟩)) := ((hd 10 (by kernel_rfl)).2 (by decide)).2.trans ((hd 10 (by kernel_rfl)).2 (by decide)).1
                have c0 := (hJ.low.cell (p := ⟨b4, o4 + k, none⟩) hb4p).trans hc4
                exact .inl ⟨by decide, (.int .i64 y), W, (by simp [go_sem, Act.eval, d10, c0]), rfl, hJ, hJ1⟩
              · replace ho := op_at ho (by rfl)
                subst ho
                have d6 : a.tmps.getD 53 undef = (.int .i64 x) := ((hd 6 (by kernel_rfl)).2 (by decide)).2.trans ((hd 6 (by kernel_rfl)).2 (by decide)).1
                have d11 : a.tmps.getD 58 undef = (.int .i64 y) := ((hd 11 (by kernel_rfl)).2 (by decide)).2.trans ((hd 11 (by kernel_rfl)).2 (by decide)).1
                exact .inl ⟨by decide, (.int .i64 (x + y)), W, (by simp [go_sem, Act.eval, d6, d11, hw]), rfl, hJ, hJ1⟩
              · replace ho := op_at ho (by rfl)
                subst ho
                have d12 : a.tmps.getD 59 undef = (.int .i64 (x + y)) := ((hd 12 (by kernel_rfl)).2 (by decide)).2.trans ((hd 12 (by kernel_rfl)).2 (by decide)).1
                obtain ⟨hJ2, hs⟩ := Jm.makes (by rw [hdi] at hJ; exact hJ) (by omega)
                rw [Array.getD_eq_getD_getElem?] at d12
                exact .inl ⟨by decide, (.slice (some ⟨wr.heap.size, 0, none⟩) 1 1), _, (by rw [← hs]; simp [go_sem, Act.eval, d12]), rfl, hJ2, hJ1⟩
              · replace ho := op_at ho (by rfl)
                subst ho
                have d1 : a.tmps.getD 48 undef = (.slice av k cv) := ((hd 1 (by kernel_rfl)).2 (by decide)).2.trans ((hd 1 (by kernel_rfl)).2 (by decide)).1
                have d13 : a.tmps.getD 60 undef = (.slice (some ⟨wr.heap.size, 0, none⟩) 1 1) := ((hd 13 (by kernel_rfl)).2 (by decide)).2.trans ((hd 13 (by kernel_rfl)).2 (by decide)).1
                have e13 : d 13 = true := (hd 13 (by kernel_rfl)).1
                have e1 : d 1 = true := (hd 1 (by kernel_rfl)).1
                rw [e13, hdi] at hJ
                have hsz := hJ.siz
                obtain ⟨v', W', hrun, ho2, hg2⟩ := op_append_i64 48 60 a W (p + 1) (.slice av k cv) (sumL ca cb k) wr.heap.size (x + y) d1 d13 (hJ.own0 rfl) (hJ.lit rfl rfl) (by rw [sumL_length]; omega) (by omega)
                refine .inl ⟨by decide, v', W', hrun _ _ _, ?_, ?_, fun _ => e1⟩
                · obtain ⟨g, cap, h, -, -, -⟩ := ho2.blk (by simp)
                  exact ⟨g, cap, by rw [h]; simp [sumL_length]⟩
                · show Jm wr p vb (.slice av k cv) (sumL ca cb k) (x + y) (d 13) true (d 16) v' W'
                  rw [e13]
                  exact hJ.appends ho2 hg2
              · replace ho := op_at ho (by rfl)
                subst ho
                have f7 : a.tmps.getD 7 undef = (.pointer (some ⟨p, 0, none⟩)) := hf 7 (by kernel_rfl)
                exact .inl ⟨by decide, (.pointer (some ⟨p, 1, none⟩)), W, (by simp [go_sem, Act.eval, f7]), rfl, hJ, hJ1⟩
              · replace ho := op_at ho (by rfl)
                subst ho
                have d15 : a.tmps.getD 62 undef = (.pointer (some ⟨p, 1, none⟩)) := ((hd 15 (by kernel_rfl)).2 (by decide)).2.trans ((hd 15 (by kernel_rfl)).2 (by decide)).1
                have e14 : d 14 = true := (hd 14 (by kernel_rfl)).1
                obtain ⟨g, cap, hu⟩ := ((hd 14 (by kernel_rfl)).2 (by decide)).1
                have d14 : a.tmps.getD 61 undef = vs 14 := ((hd 14 (by kernel_rfl)).2 (by decide)).2
                have e13 := hJ.o14 e14
                rw [e13, e14, hdi] at hJ
                have c0 := hiO_1 (hJ.box0 rfl)
                have z0 := hiF_1 (hJ.box0 rfl)
                have hJ2 := hJ.stores
                refine .inr ⟨rfl, W.setCell ⟨p, 1, none⟩ (vs 14), ?_, ?_, hJ1⟩
                · rw [hu] at d14 ⊢
                  simp [go_sem, Act.eval, d14, d15, c0, z0]
                · show Jm wr p vb (.slice av k cv) (sumL ca cb k) (x + y) (d 13) (d 14) true (vs 14) _
                  rw [e13, e14]; exact hJ2
            case fin =>
              rintro d vs W6 hall ⟨hJ, -⟩ hF
              rw [hall 13 (by decide), hall 14 (by decide), hall 16 (by decide)] at hJ
              obtain ⟨g, cap, hu⟩ : ∃ g cap, vs 14 = .slice (some ⟨g, 0, none⟩) (k + 1) cap := hF 14 (by decide)
              have h0 : vs 0 = (.pointer (some ⟨p, 1, none⟩)) := hF 0 (by decide)
              have h1 : vs 1 = (.slice av k cv) := hF 1 (by decide)
              have h2 : vs 2 = (.pointer (some ⟨w.heap.size, 1, none⟩)) := hF 2 (by decide)
              have h3 : vs 3 = (.slice (some ⟨b2, o2, none⟩) nc4 c2) := hF 3 (by decide)
              have h4 : vs 4 = (.int .i64 (k : Int)) := hF 4 (by decide)
              have h5 : vs 5 = (.pointer (some ⟨b2, o2 + k, none⟩)) := hF 5 (by decide)
              have h6 : vs 6 = (.int .i64 x) := hF 6 (by decide)
              have h7 : vs 7 = (.pointer (some ⟨w.heap.size + 1, 1, none⟩)) := hF 7 (by decide)
              have h8 : vs 8 = (.slice (some ⟨b4, o4, none⟩) nc4 c4) := hF 8 (by decide)
              have h9 : vs 9 = (.int .i64 (k : Int)) := hF 9 (by decide)
              have h10 : vs 10 = (.pointer (some ⟨b4, o4 + k, none⟩)) := hF 10 (by decide)
              have h11 : vs 11 = (.int .i64 y) := hF 11 (by decide)
              have h12 : vs 12 = (.int .i64 (x + y)) := hF 12 (by decide)
              have h13 : vs 13 = (.slice (some ⟨wr.heap.size, 0, none⟩) 1 1) := hF 13 (by decide)
              have h15 : vs 15 = (.pointer (some ⟨p, 1, none⟩)) := hF 15 (by decide)
              rw [hu] at hJ
              have HS6 := Lib.hid (HS.out.step hJ)
              clear hJ hall hF
              show (_ : Exit → Act → World → Prop) Exit.normal (puts _ vs 16 _) W6
              simp only [puts, h0, h1, h2, h3, h4, h5, h6, h7, h8, h9, h10, h11, h12, h13, h15, hu]
              clear h0 h1 h2 h3 h4 h5 h6 h7 h8 h9 h10 h11 h12 h13 h15 hu
              have oc6 := HS6.out.oc
              have hc6 := OwnI.cellAt oc6 (by rw [List.length_append, sumL_length]; rfl) k (by omega)
              rw [← HSN.out, sumL_getD ca cb (k + 1) k (by omega), ← HX.out, ← HY.out] at hc6
              have e7 := hiO_1 HS6.out.bx
              have hki2 : 0 ≤ (k : Int) ∧ (k : Int) < (((k + 1 : Nat)) : Int) := by omega
              have HS7 : Hid (MSt w R0.heap.size p W6 (.slice a1 nb c1) (.slice (some ⟨b2, o2, none⟩) nc4 c2) (.slice a3 nb c3) (.slice (some ⟨b4, o4, none⟩) nc4 c4) vb (.slice (some ⟨g, 0, none⟩) (k + 1) cap) ba (sumL ca cb (k + 1))) := by
                have := HS6.out
                rw [← HSN.out] at this; exact this
              clear oc6
              by_cases hbig : 1099511627776 < x + y
              · have HBIG : Hid (∃ j, j < ca.length ∧ 1099511627776 < ca.getD j 0 + cb.getD j 0) := ⟨k, by have := NC.out; omega, by rw [← HX.out, ← HY.out]; exact hbig⟩
                have x0 := hiO_0 HS7.out.res
                have x1 := hiO_1 HS7.out.res
                have z0 := hiF_0 HS7.out.res
                have z1 := hiF_1 HS7.out.res
                go_simp
                go_wp2
                exact bodyPost_ret (v := .tuple #[hiV (.slice none 0 0) (.slice none 0 0), .int .i64 10]) (by simp [results, Tryd.results35, go_sem, *]) rfl ⟨.inr (.inl ⟨EQ.out, HBIG.out, rfl⟩), bel_set (by omega) (bel_set (by omega) HS7.out.low)⟩
              · have HLIM2 : Hid (∀ j, j < k + 1 → ca.getD j 0 + cb.getD j 0 ≤ 1099511627776) := fun j hj => by
                  rcases Nat.lt_or_ge j k with h | h
                  · exact HLIM.out j h
                  · obtain rfl : j = k := by omega
                    rw [← HX.out, ← HY.out]; omega
                have hbig' : ¬ (1099511627776 < x + y) := hbig
                clear hbig
                go_simp
                go_wp2
                go_roundw
                case rel => exact ⟨k + 1, _, _, by omega, by go_num, HS7, HLIM2⟩
                case measure => simp [intOf]; omega
          · have hkn : k = nc4 := by omega
            have hkn' : ¬ ((k : Int) < (nc4 : Int)) := by omega
            have hkc : k = ca.length := by rw [hkn]; exact NC.out
            have p0 := hiO_0 HS.out.bx
            have p1 := hiO_1 HS.out.bx
            rw [HVB.out] at p0
            have x0 := hiO_0 HS.out.res
            have x1 := hiO_1 HS.out.res
            have z0 := hiF_0 HS.out.res
            have z1 := hiF_1 HS.out.res
            have HO := HS.out.both (by have := NB.out; have := BND.out; omega) (by have := HWP.out; omega)
            rw [hkc, sumL_all] at HO
            have HOH := Lib.hid HO
            have HALL : Hid (∀ j, j < ca.length → ca.getD j 0 + cb.getD j 0 ≤ 1099511627776) := fun j hj => HLIM.out j (by omega)
            have hpb := HS.out.hp
            have hrb : w.heap.size + 1 + 1 < R0.heap.size := (Array.getElem?_eq_some_iff.1 KR.out).1
            clear hlt hk HO
            rw [← hkc] at HOH
            go_wp2
            refine bodyPost_ret (v := .tuple #[hiV (.slice (some ⟨gb, 0, none⟩) nb cpb) (.slice av k cv), .int .i64 0]) (by simp [results, Tryd.results35, go_sem, *]) rfl ⟨.inr (.inr ⟨EQ.out, HALL.out, _, _, rfl, ?_⟩), bel_set (by omega) (bel_set (by omega) HS.out.low)⟩
            rw [← hkc, ← HVB.out]
            exact HOwn.mono (HOwn.set (HOwn.set HOH.out hrb) hrb) (by have := HS.out.hB; omega)
  · have hne : ((nb : Int) == (nb3 : Int)) = false := by rw [beq_eq_false_iff_ne]; omega
    have hne' : ((nb : Int) != (nb3 : Int)) = true := by rw [bne_iff_ne]; omega
    have HBAD : Hid (ba ≠ bb) := fun e => hlen (by rw [NB.out, NB3.out, e])
    clear hlen
    go_wp2
    exact bodyPost_ret (v := .tuple #[hiV (.slice none 0 0) (.slice none 0 0), .int .i64 20]) (by simp [results, Tryd.results35, go_sem, *]) rfl ⟨.inl ⟨HBAD.out, rfl⟩, by first | exact L.out | exact bel_set (by omega) (bel_set (by omega) L.out)⟩

end Go.Proofs.YtghgnalbahneoaaDoor
