/- HistAdds: the law, walked (by program: wip/tools/gen_histadds.py). -/
import Derived.Test.YtghgnalbahneoaaDoorHist22
import Derived.Test.YtghgnalbahneoaaDoorHistAddsM
import Derived.Test.YtghgnalbahneoaaDoorHist26
import Derived.Test.YtghgnalbahneoaaDoorHist27
import Derived.Test.YtghgnalbahneoaaDoorHist28
import Derived.Test.YtghgnalbahneoaaDoorFlow2
namespace Go.Proofs.YtghgnalbahneoaaDoor
open Go.RowKit

theorem hist_set {W : World} {k : Nat} {a b : Value} (c d : Value) (h : W.heap[k]? = some (hiO a b)) : ((W.setCell ⟨k, 0, none⟩ c).setCell ⟨k, 1, none⟩ d).heap[k]? = some (hiO c d) :=
  heap_setCell_same _ k 1 _ _ _ (heap_setCell_same W k 0 _ _ _ h)
theorem hist_set_other {W : World} {k q : Nat} (c d : Value) (h : q ≠ k) : ((W.setCell ⟨k, 0, none⟩ c).setCell ⟨k, 1, none⟩ d).heap[q]? = W.heap[q]? := by
  rw [Below.heap_setCell _ _ _ _ h, Below.heap_setCell _ _ _ _ h]
attribute [local irreducible] addE addB addC mrgE mrgB mrgC crsE crsB crsC

set_option maxRecDepth 100000 in
set_option maxHeartbeats 4000000 in
theorem law_HistAdds (vb vc vd ve vk : Value) (bs cs ds es ks : List Int) (x t : Int) (w : World) (hb : Its w w.heap.size vb bs) (hc : Its w w.heap.size vc cs) (hd : Its w w.heap.size vd ds) (he : Its w w.heap.size ve es) (hk : Its w w.heap.size vk ks)
    (ht0 : -9223372036854775808 ≤ t) (ht1 : t ≤ 9223372036854775807) (hkl : ks.length ≤ 140737488355328) (ht : TabT w) :
    Calls Tryd.prog 7 #[hiV vb vc, hiV vd ve, vk, .int .i64 x, .int .i64 t] w fun e w' => e = .returned (.bool true) ∧ Below w.heap.size w w' := by
  obtain ⟨g0, k0⟩ := hist_new w vb vc
  obtain ⟨g1, k1⟩ := hist_new (w.alloc (.cells #[vb, vc] 24)) vd ve
  have L := Lib.hid (g0.trans (g1.mono g0.size))
  have KH0 := stays k0 g1
  have KG0 := k1
  simp only [World.size_alloc] at KG0
  have KH := Lib.hid KH0
  have KG := Lib.hid KG0
  have HB := Lib.hid ((hb.kept g0).kept g1)
  have HC := Lib.hid ((hc.kept g0).kept g1)
  have HD := Lib.hid ((hd.kept g0).kept g1)
  have HE := Lib.hid ((he.kept g0).kept g1)
  have HK := Lib.hid ((hk.kept g0).kept g1)
  have HT := Lib.hid ((ht.below g0).below g1)
  have HKL := Lib.hid hkl
  have HX : Hid (∀ vb vc W (_ : Its W W.heap.size vb bs) (_ : Its W W.heap.size vc cs) (_ : FitH bs cs), Calls Tryd.prog 32 #[hiV vb vc, .int .i64 x, .int .i64 t] W fun e w' => AddR bs cs x t W.heap.size e w' ∧ Below W.heap.size W w') := fun vb vc W h1 h2 h3 => add_any vb vc bs cs x t W h1 h2 h3 ht0 ht1
  have HY : Hid (∀ vb vc W (_ : Its W W.heap.size vb bs) (_ : Its W W.heap.size vc cs) (_ : FitH bs cs), Calls Tryd.prog 33 #[hiV vb vc, .int .i64 x, .int .i64 t] W fun e w' => AddR bs cs x t W.heap.size e w' ∧ Below W.heap.size W w') := fun vb vc W h1 h2 h3 => radd_any vb vc bs cs x t W h1 h2 h3 ht0 ht1
  clear g0 g1 k0 k1 KH0 KG0 ht hkl ht0 ht1
  obtain ⟨ab, capb, hvb, -⟩ := hb.slice
  obtain ⟨ac, capc, hvc, -⟩ := hc.slice
  obtain ⟨ad, capd, hvd, -⟩ := hd.slice
  obtain ⟨ae, cape, hve, -⟩ := he.slice
  obtain ⟨ak, capk, hvk, -⟩ := hk.slice
  subst hvb hvc hvd hve hvk
  obtain ⟨nb, hnb⟩ : ∃ n, n = bs.length := ⟨_, rfl⟩
  obtain ⟨nc, hnc⟩ : ∃ n, n = cs.length := ⟨_, rfl⟩
  obtain ⟨nd, hnd⟩ : ∃ n, n = ds.length := ⟨_, rfl⟩
  obtain ⟨ne, hne⟩ : ∃ n, n = es.length := ⟨_, rfl⟩
  obtain ⟨nk, hnk⟩ : ∃ n, n = ks.length := ⟨_, rfl⟩
  rw [← hnb, ← hnc, ← hnd, ← hne] at KH KG HB HC HD HE L HT ⊢
  rw [← hnb, ← hnc, ← hnd, ← hne, ← hnk] at HK
  rw [← hnk]
  have NB := Lib.hid hnb
  have NC := Lib.hid hnc
  clear hb hc hd he hk hnb hnc hnd hne hnk
  have a0 := hiO_0 KH.out
  have a1 := hiO_1 KH.out
  have e0 := hiO_0 KG.out
  have e1 := hiO_1 KG.out
  have hfi := rfit_any (.slice ab nb capb) (.slice ac nc capc) bs cs _ HB.out HC.out
  by_cases hfit : FitH bs cs
  · rw [fitHB_t hfit] at hfi
    have FH := Lib.hid hfit
    clear hfit
    go_enter Tryd.func7, Tryd.ntmps7
    go_wp2_with (fail)
    refine hfi.mono ?_
    rintro e w1 ⟨rfl, hB⟩
    have L1 := Lib.hid hB
    clear hfi hB a0 a1 e0 e1
    have a0 := hiO_0 (stays KH.out L1.out)
    have a1 := hiO_1 (stays KH.out L1.out)
    have e0 := hiO_0 (stays KG.out L1.out)
    have e1 := hiO_1 (stays KG.out L1.out)
    have hfg := rfit_any (.slice ad nd capd) (.slice ae ne cape) ds es _ (HD.out.kept L1.out) (HE.out.kept L1.out)
    by_cases hfit : FitH ds es
    · rw [fitHB_t hfit] at hfg
      have FG := Lib.hid hfit
      clear hfit
      go_wp2_with (fail)
      refine hfg.mono ?_
      rintro e w2 ⟨rfl, hB⟩
      have L2 := Lib.hid (L1.out.trans (hB.mono L1.out.size))
      clear hfg hB a0 a1 e0 e1
      have a0 := hiO_0 (stays KH.out L2.out)
      have a1 := hiO_1 (stays KH.out L2.out)
      have hcon := Lib.hid (lcopied_any (.slice ab nb capb) (.slice ac nc capc) bs cs _ (HB.out.kept L2.out) (HC.out.kept L2.out) (by have := FH.out.1.2.1; omega) (by have := FH.out.1.2.1; have := FH.out.2.1; omega))
      go_wp2_with (fail)
      with_reducible refine hcon.out.mono ?_
      rintro e w3 ⟨⟨v1, v2, rfl, j1, j2⟩, hB⟩
      clear hcon
      obtain ⟨ub, cub, hv1, -⟩ := j1.slice
      obtain ⟨uc, cuc, hv2, -⟩ := j2.slice
      subst hv1 hv2
      rw [← NB.out, ← NC.out] at *
      obtain ⟨g2, kO⟩ := hist_new w3 (.slice ub nb cub) (.slice uc nc cuc)
      have L3a := L2.out.trans (hB.mono L2.out.size)
      have L3 := L3a.trans (g2.mono L3a.size)
      clear a0 a1
      replace L := Lib.hid (L.out.trans (L3.mono L.out.size))
      replace KH := Lib.hid (stays KH.out L3)
      replace KG := Lib.hid (stays KG.out L3)
      have KO := Lib.hid kO
      have IB := Lib.hid (HB.out.kept L3)
      have IC := Lib.hid (HC.out.kept L3)
      have ID := Lib.hid (HD.out.kept L3)
      have IE := Lib.hid (HE.out.kept L3)
      have IK := Lib.hid (HK.out.kept L3)
      replace HT := Lib.hid (HT.out.below L3)
      have IU := Lib.hid (j1.kept g2)
      have IV := Lib.hid (j2.kept g2)
      clear HB HC HD HE HK L1 L2 L3 L3a g2 kO j1 j2 hB
      go_wp2_with (fail)
      obtain ⟨V, hV⟩ : ∃ V, V = w3.alloc (.cells #[(.slice ub nb cub), (.slice uc nc cuc)] 24) := ⟨_, rfl⟩
      obtain ⟨pO, hpO⟩ : ∃ p, p = w3.heap.size := ⟨_, rfl⟩
      rw [← hV] at L KH KG KO IB IC ID IE IK HT IU IV ⊢
      rw [← hpO] at KO ⊢
      clear hV hpO
      have LV : Hid (Below V.heap.size V V) := Below.refl _ _
      have o0 := hiO_0 (stays KO.out LV.out)
      have o1 := hiO_1 (stays KO.out LV.out)
      have hcon := Lib.hid (HX.out (.slice ub nb cub) (.slice uc nc cuc) V IU.out IV.out FH.out)
      go_wp2_with (fail)
      with_reducible refine hcon.out.mono ?_
      rintro e w5 ⟨hR, hB⟩
      clear hcon
      obtain ⟨v1, v2, rfl, j1, j2⟩ := add_reads hR
      obtain ⟨xA, cxA, hv1, -⟩ := j1.its.slice
      obtain ⟨yA, cyA, hv2, -⟩ := j2.its.slice
      subst hv1 hv2
      have L5a := Lib.hid hB
      obtain ⟨g2, kA⟩ := hist_new w5 (.slice xA (addB bs cs x t).length cxA) (.slice yA (addC bs cs x t).length cyA)
      have QA := Lib.hid (j1.below g2)
      have RA := Lib.hid (j2.below g2)
      have KA := Lib.hid kA
      have L5 := Lib.hid (L5a.out.trans (g2.mono L5a.out.size))
      have hVA : Hid (V.heap.size ≤ w5.heap.size) := L5a.out.size
      clear hR hB j1 j2 g2 kA L5a o0 o1
      have a0 := hiO_0 (stays KH.out L5.out)
      have a1 := hiO_1 (stays KH.out L5.out)
      have hcon := Lib.hid (HY.out (.slice ab nb capb) (.slice ac nc capc) _ (IB.out.kept L5.out) (IC.out.kept L5.out) FH.out)
      go_wp2_with (fail)
      with_reducible refine hcon.out.mono ?_
      rintro e w6 ⟨hR, hB⟩
      clear hcon
      obtain ⟨v1, v2, rfl, j1, j2⟩ := add_reads hR
      obtain ⟨xB, cxB, hv1, -⟩ := j1.its.slice
      obtain ⟨yB, cyB, hv2, -⟩ := j2.its.slice
      subst hv1 hv2
      have L6a := Lib.hid (L5.out.trans (hB.mono L5.out.size))
      replace QA := Lib.hid (QA.out.below hB)
      replace RA := Lib.hid (RA.out.below hB)
      replace KA := Lib.hid (stays KA.out hB)
      clear a0 a1
      generalize w5.heap.size = pA at *
      have hAB : Hid (pA < w6.heap.size) := (Array.getElem?_eq_some_iff.1 KA.out).1
      have hVB : Hid (V.heap.size ≤ w6.heap.size) := L6a.out.size
      obtain ⟨g2, kB⟩ := hist_new w6 (.slice xB (addB bs cs x t).length cxB) (.slice yB (addC bs cs x t).length cyB)
      have QB := Lib.hid (j1.below g2)
      have RB := Lib.hid (j2.below g2)
      have KB := Lib.hid kB
      replace QA := Lib.hid (QA.out.below g2)
      replace RA := Lib.hid (RA.out.below g2)
      replace KA := Lib.hid (stays KA.out g2)
      have L6 := Lib.hid (L6a.out.trans (g2.mono L6a.out.size))
      clear hR hB j1 j2 g2 kB L6a HX HY
      go_wp2_with (fail)
      generalize w6.heap.size = pB at *
      generalize w6.alloc (.cells #[(.slice xB (addB bs cs x t).length cxB), (.slice yB (addC bs cs x t).length cyB)] 24) = W6 at *
      refine wp_flow2 (by kernel_rfl) (by kernel_rfl) (fun i => 41 + i) (by kernel_rfl) (by kernel_rfl) (by kernel_rfl) (fun i v W => ([(fun zv _ => zv = (.agg #[(.slice xA (addB bs cs x t).length cxA), (.slice yA (addC bs cs x t).length cyA)])), (fun zv _ => zv = (.agg #[(.slice xB (addB bs cs x t).length cxB), (.slice yB (addC bs cs x t).length cyB)])), (fun zv _ => zv = (.bool true)), (fun zv _ => zv = (.bool false)), (fun zv _ => zv = (.bool false)), (fun zv _ => zv = (.int .i64 (addE bs cs x t))), (fun zv _ => zv = (.int .i64 (addE bs cs x t))), (fun zv _ => zv = (.bool false)), (fun zv _ => zv = (.bool false)), (fun zv _ => zv = (.bool false)), (fun zv _ => zv = (.agg #[(.slice ub nb cub), (.slice uc nc cuc)])), (fun zv _ => zv = (.int .i64 cs.sum)), (fun zv _ => zv = (.agg #[(.slice ab nb capb), (.slice ac nc capc)])), (fun zv _ => zv = (.int .i64 cs.sum)), (fun zv _ => zv = (.bool false)), (fun zv _ => zv = (.bool false))] : List (Value → World → Prop)).getD i (fun _ _ => True) v W) ?_ ?_ (by kernel_rfl) ?_
      · intro i hi
        replace hi : i < 16 := hi
        rcases (show i = 0 ∨ i = 1 ∨ i = 2 ∨ i = 3 ∨ i = 4 ∨ i = 5 ∨ i = 6 ∨ i = 7 ∨ i = 8 ∨ i = 9 ∨ i = 10 ∨ i = 11 ∨ i = 12 ∨ i = 13 ∨ i = 14 ∨ i = 15 by omega) with rfl | rfl | rfl | rfl | rfl | rfl | rfl | rfl | rfl | rfl | rfl | rfl | rfl | rfl | rfl | rfl
        · exact Stays.eq _
        · exact Stays.eq _
        · exact Stays.eq _
        · exact Stays.eq _
        · exact Stays.eq _
        · exact Stays.eq _
        · exact Stays.eq _
        · exact Stays.eq _
        · exact Stays.eq _
        · exact Stays.eq _
        · exact Stays.eq _
        · exact Stays.eq _
        · exact Stays.eq _
        · exact Stays.eq _
        · exact Stays.eq _
        · exact Stays.eq _
      · intro i o a W hi ho hB hf hd
        replace hi : i < 16 := hi
        rcases (show i = 0 ∨ i = 1 ∨ i = 2 ∨ i = 3 ∨ i = 4 ∨ i = 5 ∨ i = 6 ∨ i = 7 ∨ i = 8 ∨ i = 9 ∨ i = 10 ∨ i = 11 ∨ i = 12 ∨ i = 13 ∨ i = 14 ∨ i = 15 by omega) with rfl | rfl | rfl | rfl | rfl | rfl | rfl | rfl | rfl | rfl | rfl | rfl | rfl | rfl | rfl | rfl
        · replace ho := op_at ho (by rfl)
          subst ho
          have f12 : a.tmps.getD 12 undef = (.pointer (some ⟨pA, 0, none⟩)) := hf 12 (by kernel_rfl)
          have c0 := hiO_0 (stays KA.out hB)
          have c1 := hiO_1 (stays KA.out hB)
          refine .inl ⟨(fun j b h => by cases h), FlowOp.pure _ (by simp [go_sem, Act.eval, f12, c0, c1]) rfl⟩
        · replace ho := op_at ho (by rfl)
          subst ho
          have f14 : a.tmps.getD 14 undef = (.pointer (some ⟨pB, 0, none⟩)) := hf 14 (by kernel_rfl)
          have c0 := hiO_0 (stays KB.out hB)
          have c1 := hiO_1 (stays KB.out hB)
          refine .inl ⟨(fun j b h => by cases h), FlowOp.pure _ (by simp [go_sem, Act.eval, f14, c0, c1]) rfl⟩
        · replace ho := op_at ho (by rfl)
          subst ho
          have d0 : a.tmps.getD 41 undef = (.agg #[(.slice xA (addB bs cs x t).length cxA), (.slice yA (addC bs cs x t).length cyA)]) := hd 0 (by kernel_rfl)
          have d1 : a.tmps.getD 42 undef = (.agg #[(.slice xB (addB bs cs x t).length cxB), (.slice yB (addC bs cs x t).length cyB)]) := hd 1 (by kernel_rfl)
          refine .inl ⟨(fun j b h => by cases h), FlowOp.call 21 #[(hiV (.slice xA (addB bs cs x t).length cxA) (.slice yA (addC bs cs x t).length cyA)), (hiV (.slice xB (addB bs cs x t).length cxB) (.slice yB (addC bs cs x t).length cyB))] (by simp [go_sem, Act.eval, d0, d1]) ?_⟩
          have hsm := same_any (.slice xA (addB bs cs x t).length cxA) (.slice yA (addC bs cs x t).length cyA) (.slice xB (addB bs cs x t).length cxB) (.slice yB (addC bs cs x t).length cyB) (addB bs cs x t) (addC bs cs x t) (addB bs cs x t) (addC bs cs x t) W (QA.out.below hB).its (RA.out.below hB).its (QB.out.below hB).its (RB.out.below hB).its
          rw [decide_eq_true rfl, decide_eq_true rfl, Bool.and_self] at hsm
          refine hsm.mono ?_
          rintro e W' ⟨rfl, hBe⟩
          exact ⟨_, rfl, hBe, rfl⟩
        · replace ho := op_at ho (by rfl)
          subst ho
          have d2 : a.tmps.getD 43 undef = (.bool true) := hd 2 (by kernel_rfl)
          refine .inl ⟨(fun j b h => by cases h), FlowOp.pure _ (by simp [go_sem, Act.eval, d2]) rfl⟩
        · replace ho := op_at ho (by rfl)
          subst ho
          have d3 : a.tmps.getD 44 undef = (.bool false) := hd 3 (by kernel_rfl)
          refine .inl ⟨(fun j b h => by cases h), FlowOp.pure _ (by simp [go_sem, Act.eval, d3]) rfl⟩
        · replace ho := op_at ho (by rfl)
          subst ho
          have f13 : a.tmps.getD 13 undef = (.int .i64 (addE bs cs x t)) := hf 13 (by kernel_rfl)
          have d4 : a.tmps.getD 45 undef = (.bool false) := hd 4 (by kernel_rfl)
          refine .inl ⟨(fun j b h => by cases h; exact d4), FlowOp.pure _ (by simp [go_sem, Act.eval, f13]) rfl⟩
        · replace ho := op_at ho (by rfl)
          subst ho
          have f15 : a.tmps.getD 15 undef = (.int .i64 (addE bs cs x t)) := hf 15 (by kernel_rfl)
          have d4 : a.tmps.getD 45 undef = (.bool false) := hd 4 (by kernel_rfl)
          refine .inl ⟨(fun j b h => by cases h; exact d4), FlowOp.pure _ (by simp [go_sem, Act.eval, f15]) rfl⟩
        · replace ho := op_at ho (by rfl)
          subst ho
          have d5 : a.tmps.getD 46 undef = (.int .i64 (addE bs cs x t)) := hd 5 (by kernel_rfl)
          have d6 : a.tmps.getD 47 undef = (.int .i64 (addE bs cs x t)) := hd 6 (by kernel_rfl)
          have d4 : a.tmps.getD 45 undef = (.bool false) := hd 4 (by kernel_rfl)
          refine .inl ⟨(fun j b h => by cases h; exact d4), FlowOp.pure _ (by simp [go_sem, Act.eval, d5, d6]) rfl⟩
        · replace ho := op_at ho (by rfl)
          subst ho
          have d4 : a.tmps.getD 45 undef = (.bool false) := hd 4 (by kernel_rfl)
          have d7 : a.tmps.getD 48 undef = (.bool false) := hd 7 (by kernel_rfl)
          refine .inl ⟨(fun j b h => by cases h), FlowOp.pure _ (by simp [go_sem, Act.eval, d4, d7]) rfl⟩
        · replace ho := op_at ho (by rfl)
          subst ho
          have d8 : a.tmps.getD 49 undef = (.bool false) := hd 8 (by kernel_rfl)
          refine .inl ⟨(fun j b h => by cases h), FlowOp.pure _ (by simp [go_sem, Act.eval, d8]) rfl⟩
        · replace ho := op_at ho (by rfl)
          subst ho
          have f11 : a.tmps.getD 11 undef = (.pointer (some ⟨pO, 0, none⟩)) := hf 11 (by kernel_rfl)
          have d9 : a.tmps.getD 50 undef = (.bool false) := hd 9 (by kernel_rfl)
          have c0 := hiO_0 (stays (stays KO.out L6.out) hB)
          have c1 := hiO_1 (stays (stays KO.out L6.out) hB)
          refine .inl ⟨(fun j b h => by cases h; exact d9), FlowOp.pure _ (by simp [go_sem, Act.eval, f11, c0, c1]) rfl⟩
        · replace ho := op_at ho (by rfl)
          subst ho
          have d10 : a.tmps.getD 51 undef = (.agg #[(.slice ub nb cub), (.slice uc nc cuc)]) := hd 10 (by kernel_rfl)
          have d9 : a.tmps.getD 50 undef = (.bool false) := hd 9 (by kernel_rfl)
          refine .inl ⟨(fun j b h => by cases h; exact d9), FlowOp.call 29 #[(hiV (.slice ub nb cub) (.slice uc nc cuc))] (by simp [go_sem, Act.eval, d10]) ?_⟩
          refine (total_any _ _ bs cs W ((IV.out.kept L6.out).kept hB) (by have := FH.out.1.2.1; have := FH.out.2.1; omega) FH.out.cnt).mono ?_
          rintro e W' ⟨rfl, hBe⟩
          exact ⟨_, rfl, hBe, rfl⟩
        · replace ho := op_at ho (by rfl)
          subst ho
          have f5 : a.tmps.getD 5 undef = (.pointer (some ⟨w.heap.size, 0, none⟩)) := hf 5 (by kernel_rfl)
          have d9 : a.tmps.getD 50 undef = (.bool false) := hd 9 (by kernel_rfl)
          have c0 := hiO_0 (stays (stays KH.out L6.out) hB)
          have c1 := hiO_1 (stays (stays KH.out L6.out) hB)
          refine .inl ⟨(fun j b h => by cases h; exact d9), FlowOp.pure _ (by simp [go_sem, Act.eval, f5, c0, c1]) rfl⟩
        · replace ho := op_at ho (by rfl)
          subst ho
          have d12 : a.tmps.getD 53 undef = (.agg #[(.slice ab nb capb), (.slice ac nc capc)]) := hd 12 (by kernel_rfl)
          have d9 : a.tmps.getD 50 undef = (.bool false) := hd 9 (by kernel_rfl)
          refine .inl ⟨(fun j b h => by cases h; exact d9), FlowOp.call 34 #[(hiV (.slice ab nb capb) (.slice ac nc capc))] (by simp [go_sem, Act.eval, d12]) ?_⟩
          refine (rtotal_any _ _ bs cs W ((IC.out.kept L6.out).kept hB) (by have := FH.out.1.2.1; have := FH.out.2.1; omega) FH.out.cnt).mono ?_
          rintro e W' ⟨rfl, hBe⟩
          exact ⟨_, rfl, hBe, rfl⟩
        · replace ho := op_at ho (by rfl)
          subst ho
          have d11 : a.tmps.getD 52 undef = (.int .i64 cs.sum) := hd 11 (by kernel_rfl)
          have d13 : a.tmps.getD 54 undef = (.int .i64 cs.sum) := hd 13 (by kernel_rfl)
          have d9 : a.tmps.getD 50 undef = (.bool false) := hd 9 (by kernel_rfl)
          refine .inl ⟨(fun j b h => by cases h; exact d9), FlowOp.pure _ (by simp [go_sem, Act.eval, d11, d13]) rfl⟩
        · replace ho := op_at ho (by rfl)
          subst ho
          have d9 : a.tmps.getD 50 undef = (.bool false) := hd 9 (by kernel_rfl)
          have d14 : a.tmps.getD 55 undef = (.bool false) := hd 14 (by kernel_rfl)
          refine .inl ⟨(fun j b h => by cases h), FlowOp.pure _ (by simp [go_sem, Act.eval, d9, d14]) rfl⟩
      · intro vs7 W7 hB7 hv
        have h0 : vs7 0 = (.agg #[(.slice xA (addB bs cs x t).length cxA), (.slice yA (addC bs cs x t).length cyA)]) := hv 0 (show 0 < 16 by decide)
        have h1 : vs7 1 = (.agg #[(.slice xB (addB bs cs x t).length cxB), (.slice yB (addC bs cs x t).length cyB)]) := hv 1 (show 1 < 16 by decide)
        have h2 : vs7 2 = (.bool true) := hv 2 (show 2 < 16 by decide)
        have h3 : vs7 3 = (.bool false) := hv 3 (show 3 < 16 by decide)
        have h4 : vs7 4 = (.bool false) := hv 4 (show 4 < 16 by decide)
        have h5 : vs7 5 = (.int .i64 (addE bs cs x t)) := hv 5 (show 5 < 16 by decide)
        have h6 : vs7 6 = (.int .i64 (addE bs cs x t)) := hv 6 (show 6 < 16 by decide)
        have h7 : vs7 7 = (.bool false) := hv 7 (show 7 < 16 by decide)
        have h8 : vs7 8 = (.bool false) := hv 8 (show 8 < 16 by decide)
        have h9 : vs7 9 = (.bool false) := hv 9 (show 9 < 16 by decide)
        have h10 : vs7 10 = (.agg #[(.slice ub nb cub), (.slice uc nc cuc)]) := hv 10 (show 10 < 16 by decide)
        have h11 : vs7 11 = (.int .i64 cs.sum) := hv 11 (show 11 < 16 by decide)
        have h12 : vs7 12 = (.agg #[(.slice ab nb capb), (.slice ac nc capc)]) := hv 12 (show 12 < 16 by decide)
        have h13 : vs7 13 = (.int .i64 cs.sum) := hv 13 (show 13 < 16 by decide)
        have h14 : vs7 14 = (.bool false) := hv 14 (show 14 < 16 by decide)
        have h15 : vs7 15 = (.bool false) := hv 15 (show 15 < 16 by decide)
        clear hv
        show (_ : Exit → Act → World → Prop) Exit.normal (puts _ vs7 16 _) W7
        simp only [puts, h0, h1, h2, h3, h4, h5, h6, h7, h8, h9, h10, h11, h12, h13, h14, h15]
        clear h0 h1 h2 h3 h4 h5 h6 h7 h8 h9 h10 h11 h12 h13 h14 h15
        go_simp
        have L7 := Lib.hid (L6.out.trans (hB7.mono L6.out.size))
        replace KA := Lib.hid (stays KA.out hB7)
        replace KB := Lib.hid (stays KB.out hB7)
        clear hB7 QA RA QB RB
        have o0 := hiO_0 (stays KO.out L7.out)
        have o1 := hiO_1 (stays KO.out L7.out)
        have e0 := hiO_0 (stays KG.out L7.out)
        have e1 := hiO_1 (stays KG.out L7.out)
        have hcon := Lib.hid (merge_any (.slice ub nb cub) (.slice uc nc cuc) (.slice ad nd capd) (.slice ae ne cape) bs cs ds es _ (IU.out.kept L7.out) (IV.out.kept L7.out) (ID.out.kept L7.out) (IE.out.kept L7.out) FH.out FG.out)
        go_wp2_with (fail)
        with_reducible refine hcon.out.mono ?_
        rintro e w8 ⟨hR, hB⟩
        clear hcon
        obtain ⟨v1, v2, rfl, j1, j2⟩ := mrg_reads hR
        obtain ⟨xC, cxC, hv1, -⟩ := j1.its.slice
        obtain ⟨yC, cyC, hv2, -⟩ := j2.its.slice
        subst hv1 hv2
        have zA : Hid (pA < W7.heap.size) := (Array.getElem?_eq_some_iff.1 KA.out).1
        have zB : Hid (pB < W7.heap.size) := (Array.getElem?_eq_some_iff.1 KB.out).1
        have La := L7.out.trans (hB.mono L7.out.size)
        replace KA := Lib.hid (stays KA.out hB)
        replace KB := Lib.hid (stays KB.out hB)
        have r0 := hiO_0 KA.out
        have r1 := hiO_1 KA.out
        have z0 := hiF_0 KA.out
        have z1 := hiF_1 KA.out
        have hne : pB ≠ pA := Nat.ne_of_gt hAB.out
        replace KB := Lib.hid ((hist_set_other (.slice xC (mrgB bs cs ds es).length cxC) (.slice yC (mrgC bs cs ds es).length cyC) hne).trans KB.out)
        replace KA := Lib.hid (hist_set (.slice xC (mrgB bs cs ds es).length cxC) (.slice yC (mrgC bs cs ds es).length cyC) KA.out)
        have QA := Lib.hid (OwnI.set (o := 1) (u := (.slice yC (mrgC bs cs ds es).length cyC)) (OwnI.set (o := 0) (u := (.slice xC (mrgB bs cs ds es).length cxC)) j1 zA.out) zA.out)
        have RA := Lib.hid (OwnI.set (o := 1) (u := (.slice yC (mrgC bs cs ds es).length cyC)) (OwnI.set (o := 0) (u := (.slice xC (mrgB bs cs ds es).length cxC)) j2 zA.out) zA.out)
        have Lb : Hid (Below V.heap.size V ((w8.setCell ⟨pA, 0, none⟩ (.slice xC (mrgB bs cs ds es).length cxC)).setCell ⟨pA, 1, none⟩ (.slice yC (mrgC bs cs ds es).length cyC))) := bel_set hVA.out (bel_set hVA.out La)
        clear hR hB j1 j2 hne La o0 o1 e0 e1
        have a0 := hiO_0 (stays KH.out Lb.out)
        have a1 := hiO_1 (stays KH.out Lb.out)
        have e0 := hiO_0 (stays KG.out Lb.out)
        have e1 := hiO_1 (stays KG.out Lb.out)
        have hcon := Lib.hid (rmerge_any (.slice ab nb capb) (.slice ac nc capc) (.slice ad nd capd) (.slice ae ne cape) bs cs ds es _ (IB.out.kept Lb.out) (IC.out.kept Lb.out) (ID.out.kept Lb.out) (IE.out.kept Lb.out) FH.out FG.out)
        go_wp2_with (fail)
        with_reducible refine hcon.out.mono ?_
        rintro e w9 ⟨hR, hB⟩
        clear hcon
        obtain ⟨v1, v2, rfl, j1, j2⟩ := mrg_reads hR
        obtain ⟨xD, cxD, hv1, -⟩ := j1.its.slice
        obtain ⟨yD, cyD, hv2, -⟩ := j2.its.slice
        subst hv1 hv2
        have zC : Hid (pB < ((w8.setCell ⟨pA, 0, none⟩ (.slice xC (mrgB bs cs ds es).length cxC)).setCell ⟨pA, 1, none⟩ (.slice yC (mrgC bs cs ds es).length cyC)).heap.size) := (Array.getElem?_eq_some_iff.1 KB.out).1
        have La := Lb.out.trans (hB.mono Lb.out.size)
        replace KA := Lib.hid (stays KA.out hB)
        replace KB := Lib.hid (stays KB.out hB)
        replace QA := Lib.hid (OwnI.below QA.out hB)
        replace RA := Lib.hid (OwnI.below RA.out hB)
        clear r0 r1 z0 z1
        have r0 := hiO_0 KB.out
        have r1 := hiO_1 KB.out
        have z0 := hiF_0 KB.out
        have z1 := hiF_1 KB.out
        have hne : pA ≠ pB := Nat.ne_of_lt hAB.out
        replace KA := Lib.hid ((hist_set_other (.slice xD (mrgB bs cs ds es).length cxD) (.slice yD (mrgC bs cs ds es).length cyD) hne).trans KA.out)
        replace KB := Lib.hid (hist_set (.slice xD (mrgB bs cs ds es).length cxD) (.slice yD (mrgC bs cs ds es).length cyD) KB.out)
        replace QA := Lib.hid (OwnI.set (o := 1) (u := (.slice yD (mrgC bs cs ds es).length cyD)) (OwnI.set (o := 0) (u := (.slice xD (mrgB bs cs ds es).length cxD)) QA.out zB.out) zB.out)
        replace RA := Lib.hid (OwnI.set (o := 1) (u := (.slice yD (mrgC bs cs ds es).length cyD)) (OwnI.set (o := 0) (u := (.slice xD (mrgB bs cs ds es).length cxD)) RA.out zB.out) zB.out)
        have QB := Lib.hid (OwnI.set (o := 1) (u := (.slice yD (mrgC bs cs ds es).length cyD)) (OwnI.set (o := 0) (u := (.slice xD (mrgB bs cs ds es).length cxD)) j1 zC.out) zC.out)
        have RB := Lib.hid (OwnI.set (o := 1) (u := (.slice yD (mrgC bs cs ds es).length cyD)) (OwnI.set (o := 0) (u := (.slice xD (mrgB bs cs ds es).length cxD)) j2 zC.out) zC.out)
        have Lc : Hid (Below V.heap.size V ((w9.setCell ⟨pB, 0, none⟩ (.slice xD (mrgB bs cs ds es).length cxD)).setCell ⟨pB, 1, none⟩ (.slice yD (mrgC bs cs ds es).length cyD))) := bel_set hVB.out (bel_set hVB.out La)
        clear hR hB j1 j2 hne La Lb zA zB zC a0 a1 e0 e1
        have p0 := hiO_0 KA.out
        have p1 := hiO_1 KA.out
        have q0 := hiO_0 KB.out
        have q1 := hiO_1 KB.out
        have hsm := same_any _ _ _ _ (mrgB bs cs ds es) (mrgC bs cs ds es) (mrgB bs cs ds es) (mrgC bs cs ds es) _ QA.out.its RA.out.its QB.out.its RB.out.its
        rw [decide_eq_true rfl, decide_eq_true rfl, Bool.and_self] at hsm
        have hsm := Lib.hid hsm
        clear QA RA QB RB
        go_wp2_with (fail)
        with_reducible refine hsm.out.mono ?_
        rintro e w10 ⟨rfl, hB⟩
        have L11 := Lib.hid (Lc.out.trans (hB.mono Lc.out.size))
        replace KA := Lib.hid (stays KA.out hB)
        replace KB := Lib.hid (stays KB.out hB)
        clear hB hsm p0 p1 q0 q1 r0 r1 z0 z1 Lc
        have o0 := hiO_0 (stays KO.out L11.out)
        have o1 := hiO_1 (stays KO.out L11.out)
        have hcon := Lib.hid (coarse_any (.slice ub nb cub) (.slice uc nc cuc) (.slice ak nk capk) bs cs ks _ (IU.out.kept L11.out) (IV.out.kept L11.out) (IK.out.kept L11.out) FH.out HKL.out)
        go_wp2_with (fail)
        with_reducible refine hcon.out.mono ?_
        rintro e w12 ⟨hR, hB⟩
        clear hcon
        obtain ⟨v1, v2, rfl, j1, j2⟩ := crs_reads hR
        obtain ⟨xE, cxE, hv1, -⟩ := j1.its.slice
        obtain ⟨yE, cyE, hv2, -⟩ := j2.its.slice
        subst hv1 hv2
        have zA : Hid (pA < w10.heap.size) := (Array.getElem?_eq_some_iff.1 KA.out).1
        have zB : Hid (pB < w10.heap.size) := (Array.getElem?_eq_some_iff.1 KB.out).1
        have La := L11.out.trans (hB.mono L11.out.size)
        replace KA := Lib.hid (stays KA.out hB)
        replace KB := Lib.hid (stays KB.out hB)
        have r0 := hiO_0 KA.out
        have r1 := hiO_1 KA.out
        have z0 := hiF_0 KA.out
        have z1 := hiF_1 KA.out
        have hne : pB ≠ pA := Nat.ne_of_gt hAB.out
        replace KB := Lib.hid ((hist_set_other (.slice xE (crsB ks bs cs).length cxE) (.slice yE (crsC ks bs cs).length cyE) hne).trans KB.out)
        replace KA := Lib.hid (hist_set (.slice xE (crsB ks bs cs).length cxE) (.slice yE (crsC ks bs cs).length cyE) KA.out)
        have QA := Lib.hid (OwnI.set (o := 1) (u := (.slice yE (crsC ks bs cs).length cyE)) (OwnI.set (o := 0) (u := (.slice xE (crsB ks bs cs).length cxE)) j1 zA.out) zA.out)
        have RA := Lib.hid (OwnI.set (o := 1) (u := (.slice yE (crsC ks bs cs).length cyE)) (OwnI.set (o := 0) (u := (.slice xE (crsB ks bs cs).length cxE)) j2 zA.out) zA.out)
        have Lb : Hid (Below V.heap.size V ((w12.setCell ⟨pA, 0, none⟩ (.slice xE (crsB ks bs cs).length cxE)).setCell ⟨pA, 1, none⟩ (.slice yE (crsC ks bs cs).length cyE))) := bel_set hVA.out (bel_set hVA.out La)
        clear hR hB j1 j2 hne La o0 o1
        have a0 := hiO_0 (stays KH.out Lb.out)
        have a1 := hiO_1 (stays KH.out Lb.out)
        have hcon := Lib.hid (rcoarse_any (.slice ab nb capb) (.slice ac nc capc) (.slice ak nk capk) bs cs ks _ (IB.out.kept Lb.out) (IC.out.kept Lb.out) (IK.out.kept Lb.out) FH.out)
        go_wp2_with (fail)
        with_reducible refine hcon.out.mono ?_
        rintro e w13 ⟨hR, hB⟩
        clear hcon
        obtain ⟨v1, v2, rfl, j1, j2⟩ := crs_reads hR
        obtain ⟨xF, cxF, hv1, -⟩ := j1.its.slice
        obtain ⟨yF, cyF, hv2, -⟩ := j2.its.slice
        subst hv1 hv2
        have zC : Hid (pB < ((w12.setCell ⟨pA, 0, none⟩ (.slice xE (crsB ks bs cs).length cxE)).setCell ⟨pA, 1, none⟩ (.slice yE (crsC ks bs cs).length cyE)).heap.size) := (Array.getElem?_eq_some_iff.1 KB.out).1
        have La := Lb.out.trans (hB.mono Lb.out.size)
        replace KA := Lib.hid (stays KA.out hB)
        replace KB := Lib.hid (stays KB.out hB)
        replace QA := Lib.hid (OwnI.below QA.out hB)
        replace RA := Lib.hid (OwnI.below RA.out hB)
        clear r0 r1 z0 z1
        have r0 := hiO_0 KB.out
        have r1 := hiO_1 KB.out
        have z0 := hiF_0 KB.out
        have z1 := hiF_1 KB.out
        have hne : pA ≠ pB := Nat.ne_of_lt hAB.out
        replace KA := Lib.hid ((hist_set_other (.slice xF (crsB ks bs cs).length cxF) (.slice yF (crsC ks bs cs).length cyF) hne).trans KA.out)
        replace KB := Lib.hid (hist_set (.slice xF (crsB ks bs cs).length cxF) (.slice yF (crsC ks bs cs).length cyF) KB.out)
        replace QA := Lib.hid (OwnI.set (o := 1) (u := (.slice yF (crsC ks bs cs).length cyF)) (OwnI.set (o := 0) (u := (.slice xF (crsB ks bs cs).length cxF)) QA.out zB.out) zB.out)
        replace RA := Lib.hid (OwnI.set (o := 1) (u := (.slice yF (crsC ks bs cs).length cyF)) (OwnI.set (o := 0) (u := (.slice xF (crsB ks bs cs).length cxF)) RA.out zB.out) zB.out)
        have QB := Lib.hid (OwnI.set (o := 1) (u := (.slice yF (crsC ks bs cs).length cyF)) (OwnI.set (o := 0) (u := (.slice xF (crsB ks bs cs).length cxF)) j1 zC.out) zC.out)
        have RB := Lib.hid (OwnI.set (o := 1) (u := (.slice yF (crsC ks bs cs).length cyF)) (OwnI.set (o := 0) (u := (.slice xF (crsB ks bs cs).length cxF)) j2 zC.out) zC.out)
        have Lc : Hid (Below V.heap.size V ((w13.setCell ⟨pB, 0, none⟩ (.slice xF (crsB ks bs cs).length cxF)).setCell ⟨pB, 1, none⟩ (.slice yF (crsC ks bs cs).length cyF))) := bel_set hVB.out (bel_set hVB.out La)
        clear hR hB j1 j2 hne La Lb zA zB zC a0 a1
        have p0 := hiO_0 KA.out
        have p1 := hiO_1 KA.out
        have q0 := hiO_0 KB.out
        have q1 := hiO_1 KB.out
        have hsm := same_any _ _ _ _ (crsB ks bs cs) (crsC ks bs cs) (crsB ks bs cs) (crsC ks bs cs) _ QA.out.its RA.out.its QB.out.its RB.out.its
        rw [decide_eq_true rfl, decide_eq_true rfl, Bool.and_self] at hsm
        have hsm := Lib.hid hsm
        clear QA RA QB RB
        go_wp2_with (fail)
        with_reducible refine hsm.out.mono ?_
        rintro e w14 ⟨rfl, hB⟩
        have L15 := Lib.hid (Lc.out.trans (hB.mono Lc.out.size))
        replace KA := Lib.hid (stays KA.out hB)
        replace KB := Lib.hid (stays KB.out hB)
        clear hB hsm p0 p1 q0 q1 r0 r1 z0 z1 Lc
        have o0 := hiO_0 (stays KO.out L15.out)
        have o1 := hiO_1 (stays KO.out L15.out)
        have a0 := hiO_0 (stays KH.out L15.out)
        have a1 := hiO_1 (stays KH.out L15.out)
        have hsm := same_any _ _ _ _ bs cs bs cs _ (IU.out.kept L15.out) (IV.out.kept L15.out) (IB.out.kept L15.out) (IC.out.kept L15.out)
        rw [decide_eq_true rfl, decide_eq_true rfl, Bool.and_self] at hsm
        have hcon := Lib.hid (hsm)
        go_wp2_with (fail)
        with_reducible refine hcon.out.mono ?_
        rintro e w16 ⟨rfl, hB⟩
        clear hcon
        have L16 := Lib.hid (L15.out.trans (hB.mono L15.out.size))
        clear hB hsm o0 o1 a0 a1
        have hw := Lib.hid (awake_any _ (HT.out.below L16.out))
        go_wp2_with (fail)
        refine hw.out.mono ?_
        rintro e wq ⟨rfl, hBq⟩
        have Lq := Lib.hid ((L.out.trans (Below.mono (L16.out) L.out.size)).trans (hBq.mono (L.out.trans (Below.mono (L16.out) L.out.size)).size))
        clear hw hBq
        go_wp2
        go_ret
        exact ⟨by first | rfl | kernel_rfl, Lq.out⟩
    · rw [fitHB_f hfit] at hfg
      clear hfit
      go_wp2_with (fail)
      refine hfg.mono ?_
      rintro e w2 ⟨rfl, hB⟩
      have L2 := Lib.hid (L1.out.trans (hB.mono L1.out.size))
      clear hfg hB a0 a1 e0 e1
      have hw := Lib.hid (awake_any _ (HT.out.below L2.out))
      go_wp2_with (fail)
      refine hw.out.mono ?_
      rintro e wq ⟨rfl, hBq⟩
      have Lq := Lib.hid ((L.out.trans (Below.mono (L2.out) L.out.size)).trans (hBq.mono (L.out.trans (Below.mono (L2.out) L.out.size)).size))
      clear hw hBq
      go_wp2
      go_ret
      exact ⟨by first | rfl | kernel_rfl, Lq.out⟩
  · rw [fitHB_f hfit] at hfi
    clear hfit
    go_enter Tryd.func7, Tryd.ntmps7
    go_wp2_with (fail)
    refine hfi.mono ?_
    rintro e w1 ⟨rfl, hB⟩
    have L1 := Lib.hid hB
    clear hfi hB a0 a1 e0 e1
    have hw := Lib.hid (awake_any _ (HT.out.below L1.out))
    go_wp2_with (fail)
    refine hw.out.mono ?_
    rintro e wq ⟨rfl, hBq⟩
    have Lq := Lib.hid ((L.out.trans (Below.mono (L1.out) L.out.size)).trans (hBq.mono (L.out.trans (Below.mono (L1.out) L.out.size)).size))
    clear hw hBq
    go_wp2
    go_ret
    exact ⟨by first | rfl | kernel_rfl, Lq.out⟩

end Go.Proofs.YtghgnalbahneoaaDoor
