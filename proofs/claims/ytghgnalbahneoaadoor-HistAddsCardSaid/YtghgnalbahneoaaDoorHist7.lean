/- Histograms: put, own (by program: wip/tools/gen_hist7.py). -/
import Derived.Test.YtghgnalbahneoaaDoorHist6
import Derived.OneCell
namespace Go.Proofs.YtghgnalbahneoaaDoor
open Go.RowKit

theorem OwnI.cellAt {w : World} {B g cap : Nat} {xs : List Int} {n : Nat} (h : OwnI w B (.slice (some ⟨g, 0, none⟩) n cap) xs) (hn : n = xs.length) (j : Nat) (hj : j < n) : w.cell? ⟨g, j, none⟩ = some (.int .i64 (xs.getD j 0)) := by
  subst hn
  rw [World.ownsRow.cellAt h j (by omega)]
  simp [List.getD, hj]
theorem OwnI.frozenAt {w : World} {B g cap : Nat} {xs : List Int} {n : Nat} (h : OwnI w B (.slice (some ⟨g, 0, none⟩) n cap) xs) (hn : n = xs.length) (j : Nat) : w.frozen? ⟨g, j, none⟩ = false := by
  subst hn
  exact World.ownsRow.frozenAt h j
theorem OwnI.stored {w : World} {B g cap : Nat} {xs : List Int} {n : Nat} (h : OwnI w B (.slice (some ⟨g, 0, none⟩) n cap) xs) (hn : n = xs.length) (j : Nat) (z : Int) : OwnI (w.setCell ⟨g, j, none⟩ (.int .i64 z)) B (.slice (some ⟨g, 0, none⟩) n cap) (xs.set j z) := by
  subst hn
  have := (World.ownsRow.stored h j (.int .i64 z)).1
  unfold OwnI
  rw [List.map_set, List.length_set]
  exact this
theorem OwnI.other {w : World} {B : Nat} {v : Value} {xs : List Int} (h : OwnI w B v xs) {b o : Nat} (hb : v.ownBlock ≠ some b) {u : Value} : OwnI (w.setCell ⟨b, o, none⟩ u) B v xs := ownsRow_setCell_other (a := ⟨b, o, none⟩) h hb u
theorem HOwn.stored {w : World} {B g cap : Nat} {vb : Value} {bs cs : List Int} {n : Nat} (h : HOwn w B vb (.slice (some ⟨g, 0, none⟩) n cap) bs cs) (hn : n = cs.length) (j : Nat) (z : Int) : HOwn (w.setCell ⟨g, j, none⟩ (.int .i64 z)) B vb (.slice (some ⟨g, 0, none⟩) n cap) bs (cs.set j z) :=
  ⟨h.b.other (fun he => h.ne (by rw [he]; rfl)), h.c.stored hn j z, h.ne⟩

/-- what put does -/
def PutR (bs cs : List Int) (vb vc : Value) (B k : Nat) (t : Int) (e : Ending) (w' : World) : Prop := (1099511627776 < cs.getD k 0 + t ∧ e = .returned (.bool false) ∧ HOwn w' B vb vc bs cs) ∨ (cs.getD k 0 + t ≤ 1099511627776 ∧ e = .returned (.bool true) ∧ HOwn w' B vb vc bs (cs.set k (cs.getD k 0 + t)))

set_option maxRecDepth 100000 in
set_option maxHeartbeats 1000000 in
theorem put_any (vb vc : Value) (bs cs : List Int) (k : Nat) (t : Int) (w : World) (B : Nat) (ho : HOwn w B vb vc bs cs) (hB : B ≤ w.heap.size) (hk : k < cs.length) (hc0 : 0 ≤ cs.getD k 0) (hc1 : cs.getD k 0 ≤ 1099511627776) (ht0 : 0 ≤ t) (ht1 : t ≤ 9223372036854775807) : Calls Tryd.prog 47 #[hiV vb vc, .int .i64 (k : Int), .int .i64 t] w fun e w' => PutR bs cs vb vc B k t e w' ∧ Below B w w' ∧ ∀ j, j < w.heap.size → vc.ownBlock ≠ some j → w'.heap[j]? = w.heap[j]? := by
  obtain ⟨gb, capb, hvc, hgB, hgs, hcap⟩ := ho.c.blk (by omega)
  obtain ⟨n, hn⟩ : ∃ n, n = cs.length := ⟨_, rfl⟩
  rw [← hn] at hvc hk hcap
  subst hvc
  obtain ⟨g0, k0⟩ := hist_new w vb (.slice (some ⟨gb, 0, none⟩) n capb)
  have L := Lib.hid g0
  have K := Lib.hid k0
  have HO := Lib.hid (ho.below g0)
  clear g0 k0
  have HN := Lib.hid hn
  clear hn ho
  have a1 := hiO_1 K.out
  have c0 := OwnI.cellAt HO.out.c HN.out k hk
  have z0 := OwnI.frozenAt HO.out.c HN.out k
  obtain ⟨c, hc⟩ : ∃ c, c = cs.getD k 0 := ⟨_, rfl⟩
  rw [← hc] at c0 hc0 hc1
  have HC := Lib.hid hc
  clear hc
  have hw1 : IntKind.i64.wrap (1099511627776 - c) = 1099511627776 - c := by rw [IntKind.wrap_i64]; omega
  have hkn : ((k : Int) < (n : Int)) := by omega
  by_cases hle : c + t ≤ 1099511627776
  · have hgt : decide (1099511627776 - c < t) = false := by rw [decide_eq_false_iff_not]; omega
    have hw2 : IntKind.i64.wrap (c + t) = c + t := by rw [IntKind.wrap_i64]; omega
    go_enter Tryd.func47, Tryd.ntmps47
    go_wp2
    go_ret
    have HS := HO.out.stored HN.out k (c + t)
    have LS := bel_set (i := k) (v := .int .i64 (c + t)) hgB (L.out.mono hB)
    rw [World.setCell_alloc_past _ _ _ _ hgs] at HS LS
    refine ⟨.inr ⟨by rw [← HC.out]; exact hle, rfl, ?_⟩, LS, fun j hj hne => ?_⟩
    · rw [← HC.out]
      exact HS
    · rw [Below.heap_alloc _ _ _ (by simpa using hj), Below.heap_setCell _ _ _ _ (fun e => hne (by rw [e]; rfl))]
  · have hgt : decide (1099511627776 - c < t) = true := by rw [decide_eq_true_iff]; omega
    go_enter Tryd.func47, Tryd.ntmps47
    go_wp2
    go_ret
    exact ⟨.inl ⟨by rw [← HC.out]; omega, rfl, HO.out⟩, L.out.mono hB, fun j hj _ => L.out.block j hj⟩

set_option maxRecDepth 100000 in
set_option maxHeartbeats 1000000 in
theorem own_any (vb vc : Value) (bs cs : List Int) (w : World) (hb : Its w w.heap.size vb bs) (hc : Its w w.heap.size vc cs) (hb0 : 0 < bs.length) (hb1 : bs.length ≤ 1000) (hc0 : 0 < cs.length) (hc1 : cs.length ≤ 1000) : Calls Tryd.prog 58 #[hiV vb vc] w fun e w' => (∃ ub uc, e = .returned (hiV ub uc) ∧ HOwn w' w.heap.size ub uc bs cs) ∧ Below w.heap.size w w' := by
  obtain ⟨g0, k0⟩ := hist_new w vb vc
  obtain ⟨g1, k1⟩ := hist_new (w.alloc (.cells #[vb, vc] 24)) (.slice none 0 0) (.slice none 0 0)
  have L := Lib.hid (g0.trans (g1.mono g0.size))
  have K := Lib.hid (stays k0 g1)
  have HB := Lib.hid ((hb.kept g0).kept g1)
  have HC := Lib.hid ((hc.kept g0).kept g1)
  rw [show (w.alloc (.cells #[vb, vc] 24)).heap.size = w.heap.size + 1 by simp] at k1
  have K1 := Lib.hid k1
  clear g0 g1 k0 k1
  obtain ⟨ab, capb, hvb, -⟩ := hb.slice
  obtain ⟨ac, capc, hvc, -⟩ := hc.slice
  subst hvb hvc
  obtain ⟨nb, hnb⟩ : ∃ n, n = bs.length := ⟨_, rfl⟩
  obtain ⟨nc, hnc⟩ : ∃ n, n = cs.length := ⟨_, rfl⟩
  have PB := Lib.hid hb0
  have PC := Lib.hid hc0
  have KB := Lib.hid hb1
  have KC := Lib.hid hc1
  rw [← hnb, ← hnc] at K K1 HB HC L ⊢
  have NB := Lib.hid hnb
  have NC := Lib.hid hnc
  clear hb hc hnb hnc hb0 hb1 hc0 hc1
  go_enter Tryd.func58, Tryd.ntmps58
  go_wp2_with (fail)
  generalize ((w.alloc (.cells #[.slice ab nb capb, .slice ac nc capc] 24)).alloc (.cells #[.slice none 0 0, .slice none 0 0] 24)) = W0 at *
  refine wp_flow_tail (by kernel_rfl) (by kernel_rfl) 6 (by decide) (by kernel_rfl) (fun i => 3 + i) (by kernel_rfl) (by kernel_rfl) (by kernel_rfl) (fun i v W => ([(fun zv _ => zv = (.pointer (some ⟨w.heap.size, 0, none⟩))), (fun zv _ => zv = (.slice ab nb capb)), (fun zv W => OwnI W W0.heap.size zv bs), (fun zv _ => zv = (.pointer (some ⟨w.heap.size, 1, none⟩))), (fun zv _ => zv = (.slice ac nc capc)), (fun zv W => OwnI W W0.heap.size zv cs)] : List (Value → World → Prop)).getD i (fun _ _ => True) v W) ?_ (fun i => false || i == 2 || i == 5) ?_ (by kernel_rfl) ?_
  · intro i hi
    replace hi : i < 6 := hi
    rcases (show i = 0 ∨ i = 1 ∨ i = 2 ∨ i = 3 ∨ i = 4 ∨ i = 5 by omega) with rfl | rfl | rfl | rfl | rfl | rfl
    · exact Stays.eq _
    · exact Stays.eq _
    · exact (fun v W W2 h hb => OwnI.below h hb)
    · exact Stays.eq _
    · exact Stays.eq _
    · exact (fun v W W2 h hb => OwnI.below h hb)
  · intro i o a W hi ho hB hf hd hq
    replace hi : i < 6 := hi
    rcases (show i = 0 ∨ i = 1 ∨ i = 2 ∨ i = 3 ∨ i = 4 ∨ i = 5 by omega) with rfl | rfl | rfl | rfl | rfl | rfl
    · replace ho := op_at ho (by rfl)
      subst ho
      have f1 : a.tmps.getD 1 undef = (.pointer (some ⟨w.heap.size, 0, none⟩)) := hf 1 (by kernel_rfl)
      refine .inl ⟨(fun j b h => by cases h), FlowOp.pure _ (by simp [go_sem, Act.eval, f1]) ⟨rfl, fun h => by cases h⟩⟩
    · replace ho := op_at ho (by rfl)
      subst ho
      have d0 : a.tmps.getD 3 undef = (.pointer (some ⟨w.heap.size, 0, none⟩)) := hd 0 (by kernel_rfl)
      have c0 : W.cell? ⟨w.heap.size, 0, none⟩ = some (.slice ab nb capb) := hiO_0 (stays K.out hB)
      refine .inl ⟨(fun j b h => by cases h), FlowOp.pure _ (by simp [go_sem, Act.eval, d0, c0]) ⟨rfl, fun h => by cases h⟩⟩
    · replace ho := op_at ho (by rfl)
      subst ho
      have d1 : a.tmps.getD 4 undef = (.slice ab nb capb) := hd 1 (by kernel_rfl)
      refine .inl ⟨(fun j b h => by cases h), FlowOp.call 52 #[(.slice ab nb capb)] (by simp [go_sem, Act.eval, d1]) ?_⟩
      refine (clone_any _ _ W (HB.out.below hB hB.size) PB.out (by have := KB.out; omega)).mono ?_
      rintro e W' ⟨v', rfl, hO, hBe⟩
      refine ⟨_, rfl, hBe, hO.mono hB.size, fun _ g hg => ?_⟩
      obtain ⟨g2, cap2, rfl, h1, h2, -⟩ := hO.blk PB.out
      cases hg
      exact ⟨h1, h2⟩
    · replace ho := op_at ho (by rfl)
      subst ho
      have f1 : a.tmps.getD 1 undef = (.pointer (some ⟨w.heap.size, 0, none⟩)) := hf 1 (by kernel_rfl)
      refine .inl ⟨(fun j b h => by cases h), FlowOp.pure _ (by simp [go_sem, Act.eval, f1]) ⟨rfl, fun h => by cases h⟩⟩
    · replace ho := op_at ho (by rfl)
      subst ho
      have d3 : a.tmps.getD 6 undef = (.pointer (some ⟨w.heap.size, 1, none⟩)) := hd 3 (by kernel_rfl)
      have c1 : W.cell? ⟨w.heap.size, 1, none⟩ = some (.slice ac nc capc) := hiO_1 (stays K.out hB)
      refine .inl ⟨(fun j b h => by cases h), FlowOp.pure _ (by simp [go_sem, Act.eval, d3, c1]) ⟨rfl, fun h => by cases h⟩⟩
    · replace ho := op_at ho (by rfl)
      subst ho
      have d4 : a.tmps.getD 7 undef = (.slice ac nc capc) := hd 4 (by kernel_rfl)
      refine .inl ⟨(fun j b h => by cases h), FlowOp.call 52 #[(.slice ac nc capc)] (by simp [go_sem, Act.eval, d4]) ?_⟩
      refine (clone_any _ _ W (HC.out.below hB hB.size) PC.out (by have := KC.out; omega)).mono ?_
      rintro e W' ⟨v', rfl, hO, hBe⟩
      refine ⟨_, rfl, hBe, hO.mono hB.size, fun _ g hg => ?_⟩
      obtain ⟨g2, cap2, rfl, h1, h2, -⟩ := hO.blk PC.out
      cases hg
      exact ⟨h1, h2⟩
  · intro vs4 W4 hB4 hv hSS
    have h0 : vs4 0 = (.pointer (some ⟨w.heap.size, 0, none⟩)) := hv 0 (show 0 < 6 by decide)
    have h1 : vs4 1 = (.slice ab nb capb) := hv 1 (show 1 < 6 by decide)
    have h2 : (fun zv W => OwnI W W0.heap.size zv bs) (vs4 2) W4 := hv 2 (show 2 < 6 by decide)
    have h3 : vs4 3 = (.pointer (some ⟨w.heap.size, 1, none⟩)) := hv 3 (show 3 < 6 by decide)
    have h4 : vs4 4 = (.slice ac nc capc) := hv 4 (show 4 < 6 by decide)
    have h5 : (fun zv W => OwnI W W0.heap.size zv cs) (vs4 5) W4 := hv 5 (show 5 < 6 by decide)
    clear hv
    simp only [List.drop_succ_cons, List.drop_zero]
    simp only [puts, h0, h1, h3, h4]
    clear h0 h1 h3 h4
    obtain ⟨ub, hub⟩ : ∃ v, v = vs4 2 := ⟨_, rfl⟩
    obtain ⟨uc, huc⟩ : ∃ v, v = vs4 5 := ⟨_, rfl⟩
    have HH : Hid (HOwn W4 W0.heap.size ub uc bs cs) := by
      refine ⟨hub ▸ h2, huc ▸ h5, fun he => ?_⟩
      obtain ⟨g2, cap2, hv2, -, -, -⟩ := h2.blk PB.out
      refine hSS 2 5 (by decide) (by decide) (by decide) rfl rfl g2 (by rw [hv2]; rfl) ?_
      rw [← huc, ← he, hub, hv2]; rfl
    rw [← hub, ← huc]
    clear h2 h5 hSS hub huc
    have HB4 := Lib.hid hB4
    clear hB4
    have K4 := Lib.hid (stays K1.out HB4.out)
    have a0 := hiO_0 K4.out
    have a1 := hiO_1 K4.out
    have f0 := hiF_0 K4.out
    have f1 := hiF_1 K4.out
    obtain ⟨gb, cpb, hvb, -, -, -⟩ := HH.out.b.blk PB.out
    obtain ⟨gc, cpc, hvc, -, -, -⟩ := HH.out.c.blk PC.out
    rw [← NB.out] at hvb
    rw [← NC.out] at hvc
    subst hvb hvc
    go_simp
    gi_wp2
    go_wp2
    refine bodyPost_ret (v := hiV (.slice (some ⟨gb, 0, none⟩) nb cpb) (.slice (some ⟨gc, 0, none⟩) nc cpc)) (by simp [results, Tryd.results58, go_sem, *]) rfl ⟨⟨_, _, rfl, ?_⟩, ?_⟩
    · exact HOwn.mono (HOwn.set (HOwn.set HH.out (Array.getElem?_eq_some_iff.1 K1.out).1) (Array.getElem?_eq_some_iff.1 K1.out).1) L.out.size
    · exact bel_set (by omega) (bel_set (by omega) (L.out.trans (HB4.out.mono L.out.size)))

end Go.Proofs.YtghgnalbahneoaaDoor
