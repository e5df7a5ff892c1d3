/- Histograms: the document's Coarse (by program: wip/tools/gen_hist26.py). -/
import Derived.Test.YtghgnalbahneoaaDoorHist25
import Derived.Test.YtghgnalbahneoaaDoorFlowT
import Derived.Test.YtghgnalbahneoaaDoorFlow2
namespace Go.Proofs.YtghgnalbahneoaaDoor
open Go.RowKit

/-- the state between two rounds that put a range's count -/
structure RcSt (w W : World) (B p : Nat) (vb vc va vA : Value) (keep cs : List Int) : Prop where
  run : RunSt w W (w.heap.size + 1) B p va vA keep cs
  box : W.heap[w.heap.size]? = some (hiO vb vc)
theorem RcSt.below {w W W' : World} {B p : Nat} {vb vc va vA : Value} {keep cs : List Int} (h : RcSt w W B p vb vc va vA keep cs) (hb : Below W.heap.size W W') : RcSt w W' B p vb vc va vA keep cs := ⟨h.run.below hb, stays h.box hb⟩
/-- no partial count is too great, if none is at the end; and all are in bounds -/
theorem crs_fit (keep bs cs : List Int) (h : CntIn cs) (hr : Rising keep) (n : Nat) : FitH keep (crsF keep bs cs n) ↔ ∀ j, (crsF keep bs cs n).getD j 0 ≤ 1099511627776 := by
  constructor
  · intro hf j
    exact (hf.cnt j).2
  · intro hl
    refine ⟨hr, crsF_length keep bs cs n, fun c hc => ?_⟩
    obtain ⟨j, hj, rfl⟩ := List.getElem_of_mem hc
    have h1 := hl j
    have h2 := (crsF_in keep bs cs h n j).1
    rw [List.getD_eq_getElem?_getD, List.getElem?_eq_getElem hj] at h1 h2
    simp at h1 h2
    omega

set_option maxRecDepth 100000 in
set_option maxHeartbeats 2000000 in
theorem rcoarse_any (vb vc vk : Value) (bs cs keep : List Int) (w : World) (hb : Its w w.heap.size vb bs) (hc : Its w w.heap.size vc cs) (hk : Its w w.heap.size vk keep) (hfit : FitH bs cs) : Calls Tryd.prog 36 #[hiV vb vc, vk] w fun e w' => CoarseR keep bs cs w.heap.size e w' ∧ Below w.heap.size w w' := by
  obtain ⟨g0, k0⟩ := hist_new w vb vc
  obtain ⟨g1, k1⟩ := hist_new (w.alloc (.cells #[vb, vc] 24)) (.slice none 0 0) (.slice none 0 0)
  have L := Lib.hid (g0.trans (g1.mono g0.size))
  have K := Lib.hid (stays k0 g1)
  have HB := Lib.hid ((hb.kept g0).kept g1)
  have HC := Lib.hid ((hc.kept g0).kept g1)
  have HK := Lib.hid ((hk.kept g0).kept g1)
  simp only [World.size_alloc] at k1
  have KR := Lib.hid k1
  have HF := Lib.hid hfit
  clear g0 g1 k0 k1 hfit
  obtain ⟨ab, capb, hvb, -⟩ := hb.slice
  obtain ⟨ac, capc, hvc, -⟩ := hc.slice
  obtain ⟨ak, capk, hvk, hlk⟩ := hk.slice
  subst hvb hvc hvk
  obtain ⟨nb, hnb⟩ : ∃ n, n = bs.length := ⟨_, rfl⟩
  obtain ⟨nc, hnc⟩ : ∃ n, n = cs.length := ⟨_, rfl⟩
  obtain ⟨nk, hnk⟩ : ∃ n, n = keep.length := ⟨_, rfl⟩
  rw [← hnb, ← hnc] at K L HB HC HK KR ⊢
  rw [← hnk] at HK ⊢
  have NB := Lib.hid hnb
  have NC := Lib.hid hnc
  have NK := Lib.hid hnk
  have BND : Hid (nb ≤ 64 ∧ nc = nb + 1) := by have := HF.out.1.2.1; have := HF.out.2.1; have := NB.out; have := NC.out; show _ ∧ _; omega
  clear hb hc hk hnb hnc hnk hlk
  have hbo := Lib.hid (rbounds_any (.slice ak nk capk) keep _ HK.out)
  have x0 := hiO_0 KR.out
  have x1 := hiO_1 KR.out
  have z0 := hiF_0 KR.out
  have z1 := hiF_1 KR.out
  go_enter Tryd.func36, Tryd.ntmps36
  by_cases hris : Rising keep
  · rw [risB_t hris] at hbo
    have HRIS := Lib.hid hris
    clear hris
    go_wp2_with (fail)
    refine hbo.out.mono ?_
    rintro e w1 ⟨rfl, dn, rfl⟩
    clear hbo x0 x1 z0 z1
    have gd := bdN ((w.alloc (.cells #[(.slice ab nb capb), (.slice ac nc capc)] 24)).alloc (.cells #[.slice none 0 0, .slice none 0 0] 24)).heap.size ((w.alloc (.cells #[(.slice ab nb capb), (.slice ac nc capc)] 24)).alloc (.cells #[.slice none 0 0, .slice none 0 0] 24)) dn
    replace L := Lib.hid (L.out.trans (gd.mono L.out.size))
    replace K := Lib.hid (stays K.out gd)
    replace KR := Lib.hid (stays KR.out gd)
    replace HB := Lib.hid (HB.out.kept gd)
    replace HC := Lib.hid (HC.out.kept gd)
    replace HK := Lib.hid (HK.out.kept gd)
    clear gd
    generalize ((w.alloc (.cells #[(.slice ab nb capb), (.slice ac nc capc)] 24)).alloc (.cells #[.slice none 0 0, .slice none 0 0] 24)).drewN dn = W0 at *
    have KB : Hid (1 ≤ nk ∧ nk ≤ 64) := by have := HRIS.out.1; have := HRIS.out.2.1; have := NK.out; show _ ∧ _; omega
    have hk64 : nk ≤ 64 := KB.out.2
    go_wp2
    go_loopw [6] (fun i wr => ∃ k : Nat, k ≤ nk ∧ i = .int .i64 (k : Int) ∧ Hid (∀ j, j < k → keep.getD j 0 ∈ bs) ∧ Hid (Below W0.heap.size W0 wr)) (fun i _ => nk - (intOf i).toNat)
    case atStart => exact ⟨0, Nat.zero_le _, rfl, fun j hj => absurd hj (by omega), Below.refl _ _⟩
    case round =>
      obtain ⟨k, hk, rfl, HIN, HBW⟩ := hrel
      replace L := Lib.hid (L.out.trans (HBW.out.mono L.out.size))
      replace K := Lib.hid (stays K.out HBW.out)
      replace KR := Lib.hid (stays KR.out HBW.out)
      replace HB := Lib.hid (HB.out.kept HBW.out)
      replace HC := Lib.hid (HC.out.kept HBW.out)
      replace HK := Lib.hid (HK.out.kept HBW.out)
      by_cases hlt : k < nk
      · obtain ⟨x, hx⟩ : ∃ c, c = keep.getD k 0 := ⟨_, rfl⟩
        obtain ⟨bk, ok, hak, hbk, hck⟩ : ∃ b off, ak = some ⟨b, off, none⟩ ∧ b < wr.heap.size ∧ wr.cell? ⟨b, off + k, none⟩ = some (.int .i64 x) := by
          rcases HK.out.form with ⟨h0, -⟩ | ⟨hpos, b, off, cap', he, -, -, hb, hc2⟩
          · exfalso; rw [h0] at NK; have := NK.out; simp at this; omega
          · exact ⟨b, off, (Value.slice.inj he).1, hb, by rw [hx]; exact hc2 k (by have := NK.out; omega)⟩
        subst hak
        have hki : 0 ≤ (k : Int) ∧ (k : Int) < (nk : Int) := by omega
        have HX := Lib.hid hx
        clear hx
        go_wp2_with (fail)
        refine wp_flow2 (by kernel_rfl) (by kernel_rfl) (fun i => 21 + i) (by kernel_rfl) (by kernel_rfl) (by kernel_rfl) (fun i v W => ([(fun zv _ => zv = (.pointer (some ⟨w.heap.size, 0, none⟩))), (fun zv _ => zv = (.slice ab nb capb)), (fun zv _ => zv = (.slice (some ⟨bk, ok, none⟩) nk capk)), (fun zv _ => zv = (.int .i64 ((k : Int)))), (fun zv _ => zv = (.pointer (some ⟨bk, ok + k, none⟩))), (fun zv _ => zv = (.int .i64 (x))), (fun zv _ => zv = (.bool (decide (x ∈ bs)))), (fun zv _ => zv = (.bool (!decide (x ∈ bs))))] : List (Value → World → Prop)).getD i (fun _ _ => True) v W) ?_ ?_ (by kernel_rfl) ?_
        · intro i hi
          replace hi : i < 8 := hi
          rcases (show i = 0 ∨ i = 1 ∨ i = 2 ∨ i = 3 ∨ i = 4 ∨ i = 5 ∨ i = 6 ∨ i = 7 by omega) with rfl | rfl | rfl | rfl | rfl | rfl | rfl | rfl
          · exact Stays.eq _
          · exact Stays.eq _
          · exact Stays.eq _
          · exact Stays.eq _
          · exact Stays.eq _
          · exact Stays.eq _
          · exact Stays.eq _
          · exact Stays.eq _
        · intro i o a W hi ho hB hf hd
          replace hi : i < 8 := hi
          rcases (show i = 0 ∨ i = 1 ∨ i = 2 ∨ i = 3 ∨ i = 4 ∨ i = 5 ∨ i = 6 ∨ i = 7 by omega) with rfl | rfl | rfl | rfl | rfl | rfl | rfl | rfl
          · replace ho := op_at ho (by rfl)
            subst ho
            have f2 : a.tmps.getD 2 undef = (.pointer (some ⟨w.heap.size, 0, none⟩)) := hf 2 (by kernel_rfl)
            refine .inl ⟨(fun j b h => by cases h), FlowOp.pure _ (by simp [go_sem, Act.eval, f2]) rfl⟩
          · replace ho := op_at ho (by rfl)
            subst ho
            have d0 : a.tmps.getD 21 undef = (.pointer (some ⟨w.heap.size, 0, none⟩)) := hd 0 (by kernel_rfl)
            have c0 := hiO_0 (stays K.out hB)
            refine .inl ⟨(fun j b h => by cases h), FlowOp.pure _ (by simp [go_sem, Act.eval, d0, c0]) rfl⟩
          · replace ho := op_at ho (by rfl)
            subst ho
            have f1 : a.tmps.getD 1 undef = (.slice (some ⟨bk, ok, none⟩) nk capk) := hf 1 (by kernel_rfl)
            refine .inl ⟨(fun j b h => by cases h), FlowOp.pure _ (by simp [go_sem, Act.eval, f1]) rfl⟩
          · replace ho := op_at ho (by rfl)
            subst ho
            have f6 : a.tmps.getD 6 undef = (.int .i64 ((k : Int))) := hf 6 (by kernel_rfl)
            refine .inl ⟨(fun j b h => by cases h), FlowOp.pure _ (by simp [go_sem, Act.eval, f6]) rfl⟩
          · replace ho := op_at ho (by rfl)
            subst ho
            have d2 : a.tmps.getD 23 undef = (.slice (some ⟨bk, ok, none⟩) nk capk) := hd 2 (by kernel_rfl)
            have d3 : a.tmps.getD 24 undef = (.int .i64 ((k : Int))) := hd 3 (by kernel_rfl)
            refine .inl ⟨(fun j b h => by cases h), FlowOp.pure _ (by first | (simp [go_sem, Act.eval, d2, d3, hki]; done) | (simp [go_sem, Act.eval, d2, d3, hki]; omega)) rfl⟩
          · replace ho := op_at ho (by rfl)
            subst ho
            have d4 : a.tmps.getD 25 undef = (.pointer (some ⟨bk, ok + k, none⟩)) := hd 4 (by kernel_rfl)
            have ck := (hB.cell (p := ⟨bk, ok + k, none⟩) hbk).trans hck
            refine .inl ⟨(fun j b h => by cases h), FlowOp.pure _ (by simp [go_sem, Act.eval, d4, ck]) rfl⟩
          · replace ho := op_at ho (by rfl)
            subst ho
            have d1 : a.tmps.getD 22 undef = (.slice ab nb capb) := hd 1 (by kernel_rfl)
            have d5 : a.tmps.getD 26 undef = (.int .i64 (x)) := hd 5 (by kernel_rfl)
            refine .inl ⟨(fun j b h => by cases h), FlowOp.call 61 #[(.slice ab nb capb), (.int .i64 (x))] (by simp [go_sem, Act.eval, d1, d5]) ?_⟩
            refine (has_any _ bs x W (HB.out.kept hB)).mono ?_
            rintro e W' ⟨rfl, rfl⟩
            exact ⟨_, rfl, Below.refl _ _, rfl⟩
          · replace ho := op_at ho (by rfl)
            subst ho
            have d6 : a.tmps.getD 27 undef = (.bool (decide (x ∈ bs))) := hd 6 (by kernel_rfl)
            refine .inl ⟨(fun j b h => by cases h), FlowOp.pure _ (by simp [go_sem, Act.eval, d6]) rfl⟩
        · intro vs6 W6 hB6 hv
          have h0 : vs6 0 = (.pointer (some ⟨w.heap.size, 0, none⟩)) := hv 0 (show 0 < 8 by decide)
          have h1 : vs6 1 = (.slice ab nb capb) := hv 1 (show 1 < 8 by decide)
          have h2 : vs6 2 = (.slice (some ⟨bk, ok, none⟩) nk capk) := hv 2 (show 2 < 8 by decide)
          have h3 : vs6 3 = (.int .i64 ((k : Int))) := hv 3 (show 3 < 8 by decide)
          have h4 : vs6 4 = (.pointer (some ⟨bk, ok + k, none⟩)) := hv 4 (show 4 < 8 by decide)
          have h5 : vs6 5 = (.int .i64 (x)) := hv 5 (show 5 < 8 by decide)
          have h6 : vs6 6 = (.bool (decide (x ∈ bs))) := hv 6 (show 6 < 8 by decide)
          have h7 : vs6 7 = (.bool (!decide (x ∈ bs))) := hv 7 (show 7 < 8 by decide)
          clear hv
          show (_ : Exit → Act → World → Prop) Exit.normal (puts _ vs6 8 _) W6
          simp only [puts, h0, h1, h2, h3, h4, h5, h6, h7]
          clear h0 h1 h2 h3 h4 h5 h6 h7
          by_cases hmem : x ∈ bs
          · have HM := Lib.hid hmem
            rw [decide_eq_true hmem]
            have HB6 := Lib.hid (HBW.out.trans (hB6.mono HBW.out.size))
            have HIN2 : Hid (∀ j, j < k + 1 → keep.getD j 0 ∈ bs) := fun j hj => by
              rcases Nat.lt_or_ge j k with h | h
              · exact HIN.out j h
              · obtain rfl : j = k := by omega
                rw [← HX.out]; exact HM.out
            clear hB6 hmem
            go_simp
            go_wp2
            go_roundw
            case rel => exact ⟨k + 1, by omega, by go_num, HIN2, HB6⟩
            case measure => simp [intOf]; omega
          · have HBAD : Hid (¬ KeepOk keep bs) := fun h => hmem (h.2 x (by
              rw [HX.out, List.getD_eq_getElem?_getD, List.getElem?_eq_getElem (show k < keep.length by have := NK.out; omega)]
              exact List.getElem_mem _))
            rw [decide_eq_false hmem]
            have KR6 := Lib.hid (stays KR.out hB6)
            have L6 := Lib.hid (L.out.trans (hB6.mono L.out.size))
            have x0 := hiO_0 KR6.out
            have x1 := hiO_1 KR6.out
            have z0 := hiF_0 KR6.out
            have z1 := hiF_1 KR6.out
            clear hB6 hmem hbk hck
            go_simp
            go_wp2
            exact bodyPost_ret (v := .tuple #[hiV (.slice none 0 0) (.slice none 0 0), .int .i64 20]) (by simp [results, Tryd.results36, go_sem, *]) rfl ⟨.inl ⟨HBAD.out, rfl⟩, bel_set (by omega) (bel_set (by omega) L6.out)⟩
      · have HOK : Hid (KeepOk keep bs) := ⟨HRIS.out, fun x hx => by
          obtain ⟨j, hj, rfl⟩ := List.getElem_of_mem hx
          have := HIN.out j (by have := NK.out; omega)
          rw [List.getD_eq_getElem?_getD, List.getElem?_eq_getElem hj] at this
          exact this⟩
        have hkn : ¬ ((k : Int) < (nk : Int)) := by omega
        have HN := Lib.hid (rnew_any (.slice ak nk capk) keep wr HK.out)
        clear hlt hk
        go_wp2_with (fail)
        clear hkn
        refine HN.out.mono ?_
        rintro e w1 ⟨hR, hB1⟩
        clear HN
        rcases hR with ⟨hnr, -⟩ | ⟨-, va, vA, rfl, ho⟩
        · exact absurd HRIS.out hnr
        obtain ⟨gb, cpb, hva, hgb, -, -⟩ := ho.b.blk HRIS.out.1
        obtain ⟨gc, cpc, hvA, hgc, hgcs, -⟩ := ho.c.blk (by simp)
        rw [← NK.out] at hva
        obtain ⟨n2, hn2⟩ : ∃ n, n = (List.replicate (keep.length + 1) (0 : Int)).length := ⟨_, rfl⟩
        rw [← hn2] at hvA
        have N2 : Hid (n2 = keep.length + 1) := by show _ = _; rw [hn2]; simp
        subst hva hvA
        clear hn2
        obtain ⟨g2, k2⟩ := hist_new w1 (.slice (some ⟨gb, 0, none⟩) nk cpb) (.slice (some ⟨gc, 0, none⟩) n2 cpc)
        have hst : RcSt w (w1.alloc (.cells #[(.slice (some ⟨gb, 0, none⟩) nk cpb), (.slice (some ⟨gc, 0, none⟩) n2 cpc)] 24)) wr.heap.size w1.heap.size (.slice ab nb capb) (.slice ac nc capc) (.slice (some ⟨gb, 0, none⟩) nk cpb) (.slice (some ⟨gc, 0, none⟩) n2 cpc) keep (crsF keep bs cs 0) :=
          ⟨⟨L.out.trans ((hB1.trans (g2.mono hB1.size)).mono L.out.size), k2, stays (stays KR.out hB1) g2, ho.below g2, Nat.le_trans hB1.size g2.size, (fun e => by simp only [Value.ownBlock, Option.some.injEq] at e; omega), (Array.getElem?_eq_some_iff.1 KR.out).1, L.out.size⟩, stays (stays K.out hB1) g2⟩
        have HST := Lib.hid hst
        have HB1 := Lib.hid (hB1.trans (g2.mono hB1.size))
        clear hst g2 k2 ho hB1 hgb hgc hgcs
        go_wp2
        generalize wr = R0 at *
        generalize w1.heap.size = p at *
        generalize w1.alloc (.cells #[(.slice (some ⟨gb, 0, none⟩) nk cpb), (.slice (some ⟨gc, 0, none⟩) n2 cpc)] 24) = W1 at *
        have hn65 : nc ≤ 65 := by have := BND.out; omega
        go_loopw [9] (fun i wr => ∃ k : Nat, k ≤ nc ∧ i = .int .i64 (k : Int) ∧ Hid (RcSt w wr R0.heap.size p (.slice ab nb capb) (.slice ac nc capc) (.slice (some ⟨gb, 0, none⟩) nk cpb) (.slice (some ⟨gc, 0, none⟩) n2 cpc) keep (crsF keep bs cs k)) ∧ Hid (Below R0.heap.size R0 wr)) (fun i _ => nc - (intOf i).toNat)
        case atStart => exact ⟨0, Nat.zero_le _, rfl, HST, HB1⟩
        case round =>
          obtain ⟨k, hk, rfl, HS, HWS⟩ := hrel
          have a0 := hiO_0 HS.out.box
          have a1 := hiO_1 HS.out.box
          by_cases hlt : k < nc
          · obtain ⟨c, hcc⟩ : ∃ c, c = cs.getD k 0 := ⟨_, rfl⟩
            obtain ⟨bc, oc, hac, hblr, hcellr⟩ : ∃ b off, ac = some ⟨b, off, none⟩ ∧ b < R0.heap.size ∧ R0.cell? ⟨b, off + k, none⟩ = some (.int .i64 c) := by
              rcases HC.out.form with ⟨h0, -⟩ | ⟨hpos, b, off, cap', he, -, -, hb, hc2⟩
              · exfalso; rw [h0] at NC; have := NC.out; simp at this; omega
              · exact ⟨b, off, (Value.slice.inj he).1, hb, by rw [hcc]; exact hc2 k (by have := NC.out; omega)⟩
            subst hac
            have hcin := HF.out.cnt k
            rw [← hcc] at hcin
            have HCC := Lib.hid hcc
            have HCIN := Lib.hid hcin
            have HCELL := Lib.hid (And.intro hblr hcellr)
            have hki : 0 ≤ (k : Int) ∧ (k : Int) < (nc : Int) := by omega
            clear hcc hcin hblr hcellr
            obtain ⟨j, hj⟩ : ∃ j, j = crsJ keep bs k := ⟨_, rfl⟩
            have HJJ := Lib.hid hj
            have hjl := crsJ_lt keep bs k
            rw [← hj] at hjl
            have HJL : Hid (j < n2) := by show _ < _; rw [N2.out]; exact hjl
            clear hjl
            by_cases h0k : 0 < k
            · have h0k' : 0 < (k : Int) := by omega
              unfold crsJ at hj
              rw [if_pos h0k] at hj
              obtain ⟨y0, hy0⟩ : ∃ y, y = bs.getD (k - 1) 0 := ⟨_, rfl⟩
              rw [← hy0] at hj
              obtain ⟨bb, ob, hab, e1⟩ : ∃ b off, ab = some ⟨b, off, none⟩ ∧ wr.cell? ⟨b, off + (k - 1), none⟩ = some (.int .i64 y0) := by
                rcases (HB.out.below HWS.out HWS.out.size).form with ⟨h0, -⟩ | ⟨hpos, b, off, cap', he, -, -, hb, hc2⟩
                · exfalso; rw [h0] at NB; have h := NB.out; simp at h; have := BND.out; omega
                · exact ⟨b, off, (Value.slice.inj he).1, by rw [hy0]; exact hc2 (k - 1) (by have := NB.out; have := BND.out; omega)⟩
              subst hab
              have ek : (k : Int) - 1 = ((k - 1 : Nat) : Int) := by omega
              have hkb : 0 ≤ (((k - 1 : Nat) : Int)) ∧ (((k - 1 : Nat) : Int)) < (nb : Int) := by have := BND.out; omega
              have hbk := Lib.hid (rbucket_any (.slice ak nk capk) keep y0 wr (HK.out.below HWS.out HWS.out.size))
              rw [← hj] at hbk
              clear hy0 hj h0k
              go_wp2_with (fail)
              refine hbk.out.mono ?_
              rintro e w5 ⟨rfl, rfl⟩
              clear hbk e1 ek hkb h0k'
              go_wp2_with (fail)
              have KP := Lib.hid HS.out.run.box
              have KH := Lib.hid HS.out.box
              obtain ⟨y, hy⟩ : ∃ y, y = (crsF keep bs cs k).getD j 0 := ⟨_, rfl⟩
              have hin := crsF_in keep bs cs HF.out.cnt k j
              rw [← hy] at hin
              have hn2 : n2 = (crsF keep bs cs k).length := by rw [crsF_length]; exact N2.out
              have hcj := OwnI.cellAt HS.out.run.own.c hn2 j HJL.out
              rw [← hy] at hcj
              have hcf := OwnI.frozenAt HS.out.run.own.c hn2 j
              have HY := Lib.hid hy
              have HN2 := Lib.hid hn2
              have hgcl : gc < wr.heap.size := (World.ownsRow.lt HS.out.run.own.c gc rfl).2
              have hbl : bc < wr.heap.size := by have := HCELL.out.1; have := HWS.out.size; omega
              have hcell := (HWS.out.cell (p := ⟨bc, oc + k, none⟩) HCELL.out.1).trans HCELL.out.2
              have hji : 0 ≤ (j : Int) ∧ (j : Int) < (n2 : Int) := by have := HJL.out; omega
              have hn0 : n2 ≠ 0 := by have := N2.out; omega
              have hc0 := HCIN.out.1
              have hc1 := HCIN.out.2
              have hw : IntKind.i64.wrap (y + c) = y + c := by rw [IntKind.wrap_i64]; omega
              have HGC := Lib.hid hgcl
              have HCF := Lib.hid hcf
              clear hy hn2 a0 a1 hin hcf
              refine wp_flow_tail (by kernel_rfl) (by kernel_rfl) 15 (by decide) (by kernel_rfl) (fun i => 52 + i) (by kernel_rfl) (by kernel_rfl) (by kernel_rfl) (fun i v W => ([(fun zv _ => zv = (.pointer (some ⟨p, 1, none⟩))), (fun zv _ => zv = (.slice (some ⟨gc, 0, none⟩) n2 cpc)), (fun zv _ => zv = (.int .i64 ((j : Int)))), (fun zv _ => zv = (.pointer (some ⟨p, 1, none⟩))), (fun zv _ => zv = (.slice (some ⟨gc, 0, none⟩) n2 cpc)), (fun zv _ => zv = (.int .i64 ((j : Int)))), (fun zv _ => zv = (.pointer (some ⟨gc, j, none⟩))), (fun zv _ => zv = (.int .i64 (y))), (fun zv _ => zv = (.pointer (some ⟨w.heap.size, 1, none⟩))), (fun zv _ => zv = (.slice (some ⟨bc, oc, none⟩) nc capc)), (fun zv _ => zv = (.int .i64 ((k : Int)))), (fun zv _ => zv = (.pointer (some ⟨bc, oc + k, none⟩))), (fun zv _ => zv = (.int .i64 (c))), (fun zv _ => zv = (.int .i64 (y + c))), (fun zv _ => zv = (.pointer (some ⟨gc, j, none⟩)))] : List (Value → World → Prop)).getD i (fun _ _ => True) v W) ?_ (fun i => false) ?_ (by kernel_rfl) ?_
              · intro i hi
                replace hi : i < 15 := hi
                rcases (show i = 0 ∨ i = 1 ∨ i = 2 ∨ i = 3 ∨ i = 4 ∨ i = 5 ∨ i = 6 ∨ i = 7 ∨ i = 8 ∨ i = 9 ∨ i = 10 ∨ i = 11 ∨ i = 12 ∨ i = 13 ∨ i = 14 by omega) with rfl | rfl | rfl | rfl | rfl | rfl | rfl | rfl | rfl | rfl | rfl | rfl | rfl | rfl | rfl
                · exact Stays.eq _
                · exact Stays.eq _
                · exact Stays.eq _
                · exact Stays.eq _
                · exact Stays.eq _
                · exact Stays.eq _
                · exact Stays.eq _
                · exact Stays.eq _
                · exact Stays.eq _
                · exact Stays.eq _
                · exact Stays.eq _
                · exact Stays.eq _
                · exact Stays.eq _
                · exact Stays.eq _
                · exact Stays.eq _
              · intro i o a W hi ho hB hf hd hq
                replace hi : i < 15 := hi
                rcases (show i = 0 ∨ i = 1 ∨ i = 2 ∨ i = 3 ∨ i = 4 ∨ i = 5 ∨ i = 6 ∨ i = 7 ∨ i = 8 ∨ i = 9 ∨ i = 10 ∨ i = 11 ∨ i = 12 ∨ i = 13 ∨ i = 14 by omega) with rfl | rfl | rfl | rfl | rfl | rfl | rfl | rfl | rfl | rfl | rfl | rfl | rfl | rfl | rfl
                · replace ho := op_at ho (by rfl)
                  subst ho
                  have f7 : a.tmps.getD 7 undef = (.pointer (some ⟨p, 0, none⟩)) := hf 7 (by kernel_rfl)
                  refine .inl ⟨(fun j b h => by cases h), FlowOp.pure _ (by simp [go_sem, Act.eval, f7]) ⟨rfl, fun h => by cases h⟩⟩
                · replace ho := op_at ho (by rfl)
                  subst ho
                  have d0 : a.tmps.getD 52 undef = (.pointer (some ⟨p, 1, none⟩)) := hd 0 (by kernel_rfl)
                  have c0 := hiO_1 (stays KP.out hB)
                  refine .inl ⟨(fun j b h => by cases h), FlowOp.pure _ (by simp [go_sem, Act.eval, d0, c0]) ⟨rfl, fun h => by cases h⟩⟩
                · replace ho := op_at ho (by rfl)
                  subst ho
                  have f10 : a.tmps.getD 10 undef = (.int .i64 ((j : Int))) := hf 10 (by kernel_rfl)
                  refine .inl ⟨(fun j b h => by cases h), FlowOp.pure _ (by simp [go_sem, Act.eval, f10]) ⟨rfl, fun h => by cases h⟩⟩
                · replace ho := op_at ho (by rfl)
                  subst ho
                  have f7 : a.tmps.getD 7 undef = (.pointer (some ⟨p, 0, none⟩)) := hf 7 (by kernel_rfl)
                  refine .inl ⟨(fun j b h => by cases h), FlowOp.pure _ (by simp [go_sem, Act.eval, f7]) ⟨rfl, fun h => by cases h⟩⟩
                · replace ho := op_at ho (by rfl)
                  subst ho
                  have d3 : a.tmps.getD 55 undef = (.pointer (some ⟨p, 1, none⟩)) := hd 3 (by kernel_rfl)
                  have c0 := hiO_1 (stays KP.out hB)
                  refine .inl ⟨(fun j b h => by cases h), FlowOp.pure _ (by simp [go_sem, Act.eval, d3, c0]) ⟨rfl, fun h => by cases h⟩⟩
                · replace ho := op_at ho (by rfl)
                  subst ho
                  have f10 : a.tmps.getD 10 undef = (.int .i64 ((j : Int))) := hf 10 (by kernel_rfl)
                  refine .inl ⟨(fun j b h => by cases h), FlowOp.pure _ (by simp [go_sem, Act.eval, f10]) ⟨rfl, fun h => by cases h⟩⟩
                · replace ho := op_at ho (by rfl)
                  subst ho
                  have d4 : a.tmps.getD 56 undef = (.slice (some ⟨gc, 0, none⟩) n2 cpc) := hd 4 (by kernel_rfl)
                  have d5 : a.tmps.getD 57 undef = (.int .i64 ((j : Int))) := hd 5 (by kernel_rfl)
                  refine .inl ⟨(fun j b h => by cases h), FlowOp.pure _ (by simp [go_sem, Act.eval, d4, d5, hji, hn0]) ⟨rfl, fun h => by cases h⟩⟩
                · replace ho := op_at ho (by rfl)
                  subst ho
                  have d6 : a.tmps.getD 58 undef = (.pointer (some ⟨gc, j, none⟩)) := hd 6 (by kernel_rfl)
                  have cj := (hB.cell (p := ⟨gc, j, none⟩) hgcl).trans hcj
                  refine .inl ⟨(fun j b h => by cases h), FlowOp.pure _ (by simp [go_sem, Act.eval, d6, cj]) ⟨rfl, fun h => by cases h⟩⟩
                · replace ho := op_at ho (by rfl)
                  subst ho
                  have f2 : a.tmps.getD 2 undef = (.pointer (some ⟨w.heap.size, 0, none⟩)) := hf 2 (by kernel_rfl)
                  refine .inl ⟨(fun j b h => by cases h), FlowOp.pure _ (by simp [go_sem, Act.eval, f2]) ⟨rfl, fun h => by cases h⟩⟩
                · replace ho := op_at ho (by rfl)
                  subst ho
                  have d8 : a.tmps.getD 60 undef = (.pointer (some ⟨w.heap.size, 1, none⟩)) := hd 8 (by kernel_rfl)
                  have c0 := hiO_1 (stays KH.out hB)
                  refine .inl ⟨(fun j b h => by cases h), FlowOp.pure _ (by simp [go_sem, Act.eval, d8, c0]) ⟨rfl, fun h => by cases h⟩⟩
                · replace ho := op_at ho (by rfl)
                  subst ho
                  have f9 : a.tmps.getD 9 undef = (.int .i64 ((k : Int))) := hf 9 (by kernel_rfl)
                  refine .inl ⟨(fun j b h => by cases h), FlowOp.pure _ (by simp [go_sem, Act.eval, f9]) ⟨rfl, fun h => by cases h⟩⟩
                · replace ho := op_at ho (by rfl)
                  subst ho
                  have d9 : a.tmps.getD 61 undef = (.slice (some ⟨bc, oc, none⟩) nc capc) := hd 9 (by kernel_rfl)
                  have d10 : a.tmps.getD 62 undef = (.int .i64 ((k : Int))) := hd 10 (by kernel_rfl)
                  refine .inl ⟨(fun j b h => by cases h), FlowOp.pure _ (by simp [go_sem, Act.eval, d9, d10, hki]) ⟨rfl, fun h => by cases h⟩⟩
                · replace ho := op_at ho (by rfl)
                  subst ho
                  have d11 : a.tmps.getD 63 undef = (.pointer (some ⟨bc, oc + k, none⟩)) := hd 11 (by kernel_rfl)
                  have cc := (hB.cell (p := ⟨bc, oc + k, none⟩) hbl).trans hcell
                  refine .inl ⟨(fun j b h => by cases h), FlowOp.pure _ (by simp [go_sem, Act.eval, d11, cc]) ⟨rfl, fun h => by cases h⟩⟩
                · replace ho := op_at ho (by rfl)
                  subst ho
                  have d7 : a.tmps.getD 59 undef = (.int .i64 (y)) := hd 7 (by kernel_rfl)
                  have d12 : a.tmps.getD 64 undef = (.int .i64 (c)) := hd 12 (by kernel_rfl)
                  refine .inl ⟨(fun j b h => by cases h), FlowOp.pure _ (by simp [go_sem, Act.eval, d7, d12, hw]) ⟨rfl, fun h => by cases h⟩⟩
                · replace ho := op_at ho (by rfl)
                  subst ho
                  have d1 : a.tmps.getD 53 undef = (.slice (some ⟨gc, 0, none⟩) n2 cpc) := hd 1 (by kernel_rfl)
                  have d2 : a.tmps.getD 54 undef = (.int .i64 ((j : Int))) := hd 2 (by kernel_rfl)
                  refine .inl ⟨(fun j b h => by cases h), FlowOp.pure _ (by simp [go_sem, Act.eval, d1, d2, hji, hn0]) ⟨rfl, fun h => by cases h⟩⟩
              · intro vs5 W5 hB5 hv hSS
                have h0 : vs5 0 = (.pointer (some ⟨p, 1, none⟩)) := hv 0 (show 0 < 15 by decide)
                have h1 : vs5 1 = (.slice (some ⟨gc, 0, none⟩) n2 cpc) := hv 1 (show 1 < 15 by decide)
                have h2 : vs5 2 = (.int .i64 ((j : Int))) := hv 2 (show 2 < 15 by decide)
                have h3 : vs5 3 = (.pointer (some ⟨p, 1, none⟩)) := hv 3 (show 3 < 15 by decide)
                have h4 : vs5 4 = (.slice (some ⟨gc, 0, none⟩) n2 cpc) := hv 4 (show 4 < 15 by decide)
                have h5 : vs5 5 = (.int .i64 ((j : Int))) := hv 5 (show 5 < 15 by decide)
                have h6 : vs5 6 = (.pointer (some ⟨gc, j, none⟩)) := hv 6 (show 6 < 15 by decide)
                have h7 : vs5 7 = (.int .i64 (y)) := hv 7 (show 7 < 15 by decide)
                have h8 : vs5 8 = (.pointer (some ⟨w.heap.size, 1, none⟩)) := hv 8 (show 8 < 15 by decide)
                have h9 : vs5 9 = (.slice (some ⟨bc, oc, none⟩) nc capc) := hv 9 (show 9 < 15 by decide)
                have h10 : vs5 10 = (.int .i64 ((k : Int))) := hv 10 (show 10 < 15 by decide)
                have h11 : vs5 11 = (.pointer (some ⟨bc, oc + k, none⟩)) := hv 11 (show 11 < 15 by decide)
                have h12 : vs5 12 = (.int .i64 (c)) := hv 12 (show 12 < 15 by decide)
                have h13 : vs5 13 = (.int .i64 (y + c)) := hv 13 (show 13 < 15 by decide)
                have h14 : vs5 14 = (.pointer (some ⟨gc, j, none⟩)) := hv 14 (show 14 < 15 by decide)
                clear hv
                simp only [List.drop_succ_cons, List.drop_zero]
                simp only [puts, h0, h1, h2, h3, h4, h5, h6, h7, h8, h9, h10, h11, h12, h13, h14]
                clear h0 h1 h2 h3 h4 h5 h6 h7 h8 h9 h10 h11 h12 h13 h14
                have hcj2 := (hB5.cell (p := ⟨gc, j, none⟩) hgcl).trans hcj
                have HS5 := Lib.hid (HS.out.below hB5)
                have hcf2 := OwnI.frozenAt HS5.out.run.own.c HN2.out j
                have HW5 := Lib.hid (HWS.out.trans (hB5.mono HWS.out.size))
                have hgw : R0.heap.size ≤ gc := (World.ownsRow.lt HS.out.run.own.c gc rfl).1
                have HGW := Lib.hid hgw
                clear hB5 hSS hgw hcj hcell hbl hgcl
                go_simp
                gi_wp2
                have HS6 : Hid (RcSt w (W5.setCell ⟨gc, j, none⟩ (.int .i64 (y + c))) R0.heap.size p (.slice (some ⟨bb, ob, none⟩) nb capb) (.slice (some ⟨bc, oc, none⟩) nc capc) (.slice (some ⟨gb, 0, none⟩) nk cpb) (.slice (some ⟨gc, 0, none⟩) n2 cpc) keep (crsF keep bs cs (k + 1))) := by
                  have hne : gc ≠ p := fun e => HS5.out.run.ne (by rw [← e]; rfl)
                  have hL := HS5.out.run.wB
                  have hrB := HS5.out.run.rB
                  have ho : HOwn (W5.setCell ⟨gc, j, none⟩ (.int .i64 (y + c))) R0.heap.size (.slice (some ⟨gb, 0, none⟩) nk cpb) (.slice (some ⟨gc, 0, none⟩) n2 cpc) keep (crsF keep bs cs (k + 1)) := by
                    have := HOwn.stored HS5.out.run.own HN2.out j (y + c)
                    rw [crsF, ← HJJ.out, ← HCC.out]
                    unfold addAt
                    rw [← HY.out]; exact this
                  refine ⟨⟨bel_set (by have := HGW.out; omega) HS5.out.run.low, ?_, ?_, ho, ?_, HS5.out.run.ne, hrB, hL⟩, ?_⟩
                  · exact (Below.heap_setCell _ _ _ _ (Ne.symm hne)).trans HS5.out.run.box
                  · exact (Below.heap_setCell _ _ _ _ (show w.heap.size + 1 ≠ gc by have := HGW.out; omega)).trans HS5.out.run.res
                  · have := HS5.out.run.siz; simpa [World.setCell, World.drew] using this
                  · exact (Below.heap_setCell _ _ _ _ (show w.heap.size ≠ gc by have := HGW.out; omega)).trans HS5.out.box
                have HW6 : Hid (Below R0.heap.size R0 (W5.setCell ⟨gc, j, none⟩ (.int .i64 (y + c)))) := bel_set HGW.out HW5.out
                clear hcj2 hcf2 hji hki hw hc0 hc1
                go_wp2
                go_roundw
                case rel => exact ⟨k + 1, by omega, by go_num, HS6, HW6⟩
                case measure => simp [intOf]; omega
            · have hj0 : j = 0 := by rw [hj]; unfold crsJ; rw [if_neg h0k]
              have h0k' : ¬ (0 < (k : Int)) := by omega
              clear hj h0k
              subst hj0
              go_wp2_with (fail)
              clear h0k'
              have KP := Lib.hid HS.out.run.box
              have KH := Lib.hid HS.out.box
              obtain ⟨y, hy⟩ : ∃ y, y = (crsF keep bs cs k).getD 0 0 := ⟨_, rfl⟩
              have hin := crsF_in keep bs cs HF.out.cnt k 0
              rw [← hy] at hin
              have hn2 : n2 = (crsF keep bs cs k).length := by rw [crsF_length]; exact N2.out
              have hcj := OwnI.cellAt HS.out.run.own.c hn2 0 HJL.out
              rw [← hy] at hcj
              have hcf := OwnI.frozenAt HS.out.run.own.c hn2 0
              have HY := Lib.hid hy
              have HN2 := Lib.hid hn2
              have hgcl : gc < wr.heap.size := (World.ownsRow.lt HS.out.run.own.c gc rfl).2
              have hbl : bc < wr.heap.size := by have := HCELL.out.1; have := HWS.out.size; omega
              have hcell := (HWS.out.cell (p := ⟨bc, oc + k, none⟩) HCELL.out.1).trans HCELL.out.2
              have hji : 0 ≤ (0 : Int) ∧ (0 : Int) < (n2 : Int) := by have := HJL.out; omega
              have hn0 : n2 ≠ 0 := by have := N2.out; omega
              have hc0 := HCIN.out.1
              have hc1 := HCIN.out.2
              have hw : IntKind.i64.wrap (y + c) = y + c := by rw [IntKind.wrap_i64]; omega
              have HGC := Lib.hid hgcl
              have HCF := Lib.hid hcf
              clear hy hn2 a0 a1 hin hcf
              refine wp_flow_tail (by kernel_rfl) (by kernel_rfl) 15 (by decide) (by kernel_rfl) (fun i => 52 + i) (by kernel_rfl) (by kernel_rfl) (by kernel_rfl) (fun i v W => ([(fun zv _ => zv = (.pointer (some ⟨p, 1, none⟩))), (fun zv _ => zv = (.slice (some ⟨gc, 0, none⟩) n2 cpc)), (fun zv _ => zv = (.int .i64 ((0 : Int)))), (fun zv _ => zv = (.pointer (some ⟨p, 1, none⟩))), (fun zv _ => zv = (.slice (some ⟨gc, 0, none⟩) n2 cpc)), (fun zv _ => zv = (.int .i64 ((0 : Int)))), (fun zv _ => zv = (.pointer (some ⟨gc, 0, none⟩))), (fun zv _ => zv = (.int .i64 (y))), (fun zv _ => zv = (.pointer (some ⟨w.heap.size, 1, none⟩))), (fun zv _ => zv = (.slice (some ⟨bc, oc, none⟩) nc capc)), (fun zv _ => zv = (.int .i64 ((k : Int)))), (fun zv _ => zv = (.pointer (some ⟨bc, oc + k, none⟩))), (fun zv _ => zv = (.int .i64 (c))), (fun zv _ => zv = (.int .i64 (y + c))), (fun zv _ => zv = (.pointer (some ⟨gc, 0, none⟩)))] : List (Value → World → Prop)).getD i (fun _ _ => True) v W) ?_ (fun i => false) ?_ (by kernel_rfl) ?_
              · intro i hi
                replace hi : i < 15 := hi
                rcases (show i = 0 ∨ i = 1 ∨ i = 2 ∨ i = 3 ∨ i = 4 ∨ i = 5 ∨ i = 6 ∨ i = 7 ∨ i = 8 ∨ i = 9 ∨ i = 10 ∨ i = 11 ∨ i = 12 ∨ i = 13 ∨ i = 14 by omega) with rfl | rfl | rfl | rfl | rfl | rfl | rfl | rfl | rfl | rfl | rfl | rfl | rfl | rfl | rfl
                · exact Stays.eq _
                · exact Stays.eq _
                · exact Stays.eq _
                · exact Stays.eq _
                · exact Stays.eq _
                · exact Stays.eq _
                · exact Stays.eq _
                · exact Stays.eq _
                · exact Stays.eq _
                · exact Stays.eq _
                · exact Stays.eq _
                · exact Stays.eq _
                · exact Stays.eq _
                · exact Stays.eq _
                · exact Stays.eq _
              · intro i o a W hi ho hB hf hd hq
                replace hi : i < 15 := hi
                rcases (show i = 0 ∨ i = 1 ∨ i = 2 ∨ i = 3 ∨ i = 4 ∨ i = 5 ∨ i = 6 ∨ i = 7 ∨ i = 8 ∨ i = 9 ∨ i = 10 ∨ i = 11 ∨ i = 12 ∨ i = 13 ∨ i = 14 by omega) with rfl | rfl | rfl | rfl | rfl | rfl | rfl | rfl | rfl | rfl | rfl | rfl | rfl | rfl | rfl
                · replace ho := op_at ho (by rfl)
                  subst ho
                  have f7 : a.tmps.getD 7 undef = (.pointer (some ⟨p, 0, none⟩)) := hf 7 (by kernel_rfl)
                  refine .inl ⟨(fun 0 b h => by cases h), FlowOp.pure _ (by simp [go_sem, Act.eval, f7]) ⟨rfl, fun h => by cases h⟩⟩
                · replace ho := op_at ho (by rfl)
                  subst ho
                  have d0 : a.tmps.getD 52 undef = (.pointer (some ⟨p, 1, none⟩)) := hd 0 (by kernel_rfl)
                  have c0 := hiO_1 (stays KP.out hB)
                  refine .inl ⟨(fun 0 b h => by cases h), FlowOp.pure _ (by simp [go_sem, Act.eval, d0, c0]) ⟨rfl, fun h => by cases h⟩⟩
                · replace ho := op_at ho (by rfl)
                  subst ho
                  have f10 : a.tmps.getD 10 undef = (.int .i64 ((0 : Int))) := hf 10 (by kernel_rfl)
                  refine .inl ⟨(fun 0 b h => by cases h), FlowOp.pure _ (by simp [go_sem, Act.eval, f10]) ⟨rfl, fun h => by cases h⟩⟩
                · replace ho := op_at ho (by rfl)
                  subst ho
                  have f7 : a.tmps.getD 7 undef = (.pointer (some ⟨p, 0, none⟩)) := hf 7 (by kernel_rfl)
                  refine .inl ⟨(fun 0 b h => by cases h), FlowOp.pure _ (by simp [go_sem, Act.eval, f7]) ⟨rfl, fun h => by cases h⟩⟩
                · replace ho := op_at ho (by rfl)
                  subst ho
                  have d3 : a.tmps.getD 55 undef = (.pointer (some ⟨p, 1, none⟩)) := hd 3 (by kernel_rfl)
                  have c0 := hiO_1 (stays KP.out hB)
                  refine .inl ⟨(fun 0 b h => by cases h), FlowOp.pure _ (by simp [go_sem, Act.eval, d3, c0]) ⟨rfl, fun h => by cases h⟩⟩
                · replace ho := op_at ho (by rfl)
                  subst ho
                  have f10 : a.tmps.getD 10 undef = (.int .i64 ((0 : Int))) := hf 10 (by kernel_rfl)
                  refine .inl ⟨(fun 0 b h => by cases h), FlowOp.pure _ (by simp [go_sem, Act.eval, f10]) ⟨rfl, fun h => by cases h⟩⟩
                · replace ho := op_at ho (by rfl)
                  subst ho
                  have d4 : a.tmps.getD 56 undef = (.slice (some ⟨gc, 0, none⟩) n2 cpc) := hd 4 (by kernel_rfl)
                  have d5 : a.tmps.getD 57 undef = (.int .i64 ((0 : Int))) := hd 5 (by kernel_rfl)
                  refine .inl ⟨(fun 0 b h => by cases h), FlowOp.pure _ (by simp [go_sem, Act.eval, d4, d5, hji, hn0]) ⟨rfl, fun h => by cases h⟩⟩
                · replace ho := op_at ho (by rfl)
                  subst ho
                  have d6 : a.tmps.getD 58 undef = (.pointer (some ⟨gc, 0, none⟩)) := hd 6 (by kernel_rfl)
                  have cj := (hB.cell (p := ⟨gc, 0, none⟩) hgcl).trans hcj
                  refine .inl ⟨(fun 0 b h => by cases h), FlowOp.pure _ (by simp [go_sem, Act.eval, d6, cj]) ⟨rfl, fun h => by cases h⟩⟩
                · replace ho := op_at ho (by rfl)
                  subst ho
                  have f2 : a.tmps.getD 2 undef = (.pointer (some ⟨w.heap.size, 0, none⟩)) := hf 2 (by kernel_rfl)
                  refine .inl ⟨(fun 0 b h => by cases h), FlowOp.pure _ (by simp [go_sem, Act.eval, f2]) ⟨rfl, fun h => by cases h⟩⟩
                · replace ho := op_at ho (by rfl)
                  subst ho
                  have d8 : a.tmps.getD 60 undef = (.pointer (some ⟨w.heap.size, 1, none⟩)) := hd 8 (by kernel_rfl)
                  have c0 := hiO_1 (stays KH.out hB)
                  refine .inl ⟨(fun 0 b h => by cases h), FlowOp.pure _ (by simp [go_sem, Act.eval, d8, c0]) ⟨rfl, fun h => by cases h⟩⟩
                · replace ho := op_at ho (by rfl)
                  subst ho
                  have f9 : a.tmps.getD 9 undef = (.int .i64 ((k : Int))) := hf 9 (by kernel_rfl)
                  refine .inl ⟨(fun 0 b h => by cases h), FlowOp.pure _ (by simp [go_sem, Act.eval, f9]) ⟨rfl, fun h => by cases h⟩⟩
                · replace ho := op_at ho (by rfl)
                  subst ho
                  have d9 : a.tmps.getD 61 undef = (.slice (some ⟨bc, oc, none⟩) nc capc) := hd 9 (by kernel_rfl)
                  have d10 : a.tmps.getD 62 undef = (.int .i64 ((k : Int))) := hd 10 (by kernel_rfl)
                  refine .inl ⟨(fun 0 b h => by cases h), FlowOp.pure _ (by simp [go_sem, Act.eval, d9, d10, hki]) ⟨rfl, fun h => by cases h⟩⟩
                · replace ho := op_at ho (by rfl)
                  subst ho
                  have d11 : a.tmps.getD 63 undef = (.pointer (some ⟨bc, oc + k, none⟩)) := hd 11 (by kernel_rfl)
                  have cc := (hB.cell (p := ⟨bc, oc + k, none⟩) hbl).trans hcell
                  refine .inl ⟨(fun 0 b h => by cases h), FlowOp.pure _ (by simp [go_sem, Act.eval, d11, cc]) ⟨rfl, fun h => by cases h⟩⟩
                · replace ho := op_at ho (by rfl)
                  subst ho
                  have d7 : a.tmps.getD 59 undef = (.int .i64 (y)) := hd 7 (by kernel_rfl)
                  have d12 : a.tmps.getD 64 undef = (.int .i64 (c)) := hd 12 (by kernel_rfl)
                  refine .inl ⟨(fun 0 b h => by cases h), FlowOp.pure _ (by simp [go_sem, Act.eval, d7, d12, hw]) ⟨rfl, fun h => by cases h⟩⟩
                · replace ho := op_at ho (by rfl)
                  subst ho
                  have d1 : a.tmps.getD 53 undef = (.slice (some ⟨gc, 0, none⟩) n2 cpc) := hd 1 (by kernel_rfl)
                  have d2 : a.tmps.getD 54 undef = (.int .i64 ((0 : Int))) := hd 2 (by kernel_rfl)
                  refine .inl ⟨(fun 0 b h => by cases h), FlowOp.pure _ (by simp [go_sem, Act.eval, d1, d2, hji, hn0]) ⟨rfl, fun h => by cases h⟩⟩
              · intro vs5 W5 hB5 hv hSS
                have h0 : vs5 0 = (.pointer (some ⟨p, 1, none⟩)) := hv 0 (show 0 < 15 by decide)
                have h1 : vs5 1 = (.slice (some ⟨gc, 0, none⟩) n2 cpc) := hv 1 (show 1 < 15 by decide)
                have h2 : vs5 2 = (.int .i64 ((0 : Int))) := hv 2 (show 2 < 15 by decide)
                have h3 : vs5 3 = (.pointer (some ⟨p, 1, none⟩)) := hv 3 (show 3 < 15 by decide)
                have h4 : vs5 4 = (.slice (some ⟨gc, 0, none⟩) n2 cpc) := hv 4 (show 4 < 15 by decide)
                have h5 : vs5 5 = (.int .i64 ((0 : Int))) := hv 5 (show 5 < 15 by decide)
                have h6 : vs5 6 = (.pointer (some ⟨gc, 0, none⟩)) := hv 6 (show 6 < 15 by decide)
                have h7 : vs5 7 = (.int .i64 (y)) := hv 7 (show 7 < 15 by decide)
                have h8 : vs5 8 = (.pointer (some ⟨w.heap.size, 1, none⟩)) := hv 8 (show 8 < 15 by decide)
                have h9 : vs5 9 = (.slice (some ⟨bc, oc, none⟩) nc capc) := hv 9 (show 9 < 15 by decide)
                have h10 : vs5 10 = (.int .i64 ((k : Int))) := hv 10 (show 10 < 15 by decide)
                have h11 : vs5 11 = (.pointer (some ⟨bc, oc + k, none⟩)) := hv 11 (show 11 < 15 by decide)
                have h12 : vs5 12 = (.int .i64 (c)) := hv 12 (show 12 < 15 by decide)
                have h13 : vs5 13 = (.int .i64 (y + c)) := hv 13 (show 13 < 15 by decide)
                have h14 : vs5 14 = (.pointer (some ⟨gc, 0, none⟩)) := hv 14 (show 14 < 15 by decide)
                clear hv
                simp only [List.drop_succ_cons, List.drop_zero]
                simp only [puts, h0, h1, h2, h3, h4, h5, h6, h7, h8, h9, h10, h11, h12, h13, h14]
                clear h0 h1 h2 h3 h4 h5 h6 h7 h8 h9 h10 h11 h12 h13 h14
                have hcj2 := (hB5.cell (p := ⟨gc, 0, none⟩) hgcl).trans hcj
                have HS5 := Lib.hid (HS.out.below hB5)
                have hcf2 := OwnI.frozenAt HS5.out.run.own.c HN2.out 0
                have HW5 := Lib.hid (HWS.out.trans (hB5.mono HWS.out.size))
                have hgw : R0.heap.size ≤ gc := (World.ownsRow.lt HS.out.run.own.c gc rfl).1
                have HGW := Lib.hid hgw
                clear hB5 hSS hgw hcj hcell hbl hgcl
                go_simp
                gi_wp2
                have HS6 : Hid (RcSt w (W5.setCell ⟨gc, 0, none⟩ (.int .i64 (y + c))) R0.heap.size p (.slice ab nb capb) (.slice (some ⟨bc, oc, none⟩) nc capc) (.slice (some ⟨gb, 0, none⟩) nk cpb) (.slice (some ⟨gc, 0, none⟩) n2 cpc) keep (crsF keep bs cs (k + 1))) := by
                  have hne : gc ≠ p := fun e => HS5.out.run.ne (by rw [← e]; rfl)
                  have hL := HS5.out.run.wB
                  have hrB := HS5.out.run.rB
                  have ho : HOwn (W5.setCell ⟨gc, 0, none⟩ (.int .i64 (y + c))) R0.heap.size (.slice (some ⟨gb, 0, none⟩) nk cpb) (.slice (some ⟨gc, 0, none⟩) n2 cpc) keep (crsF keep bs cs (k + 1)) := by
                    have := HOwn.stored HS5.out.run.own HN2.out 0 (y + c)
                    rw [crsF, ← HJJ.out, ← HCC.out]
                    unfold addAt
                    rw [← HY.out]; exact this
                  refine ⟨⟨bel_set (by have := HGW.out; omega) HS5.out.run.low, ?_, ?_, ho, ?_, HS5.out.run.ne, hrB, hL⟩, ?_⟩
                  · exact (Below.heap_setCell _ _ _ _ (Ne.symm hne)).trans HS5.out.run.box
                  · exact (Below.heap_setCell _ _ _ _ (show w.heap.size + 1 ≠ gc by have := HGW.out; omega)).trans HS5.out.run.res
                  · have := HS5.out.run.siz; simpa [World.setCell, World.drew] using this
                  · exact (Below.heap_setCell _ _ _ _ (show w.heap.size ≠ gc by have := HGW.out; omega)).trans HS5.out.box
                have HW6 : Hid (Below R0.heap.size R0 (W5.setCell ⟨gc, 0, none⟩ (.int .i64 (y + c)))) := bel_set HGW.out HW5.out
                clear hcj2 hcf2 hji hki hw hc0 hc1
                go_wp2
                go_roundw
                case rel => exact ⟨k + 1, by omega, by go_num, HS6, HW6⟩
                case measure => simp [intOf]; omega
          · have hkn : k = nc := by omega
            have HE : Hid (crsF keep bs cs k = crsF keep bs cs cs.length) := by show _ = _; rw [hkn, NC.out]
            have hkn' : ¬ ((k : Int) < (nc : Int)) := by omega
            have p0 := hiO_0 HS.out.run.box
            have p1 := hiO_1 HS.out.run.box
            have HFI := Lib.hid (rfit_any (.slice (some ⟨gb, 0, none⟩) nk cpb) (.slice (some ⟨gc, 0, none⟩) n2 cpc) keep (crsF keep bs cs k) wr HS.out.run.own.b.its HS.out.run.own.c.its)
            have HIFF := Lib.hid (crs_fit keep bs cs HF.out.cnt HRIS.out k)
            clear hlt hk hkn
            by_cases hfi : FitH keep (crsF keep bs cs k)
            · rw [fitHB_t hfi] at HFI
              have HLIM : Hid (∀ j, (crsF keep bs cs cs.length).getD j 0 ≤ 1099511627776) := by
                have := HIFF.out.1 hfi
                rw [HE.out] at this; exact this
              clear hfi
              go_wp2_with (fail)
              refine HFI.out.mono ?_
              rintro e w6 ⟨rfl, hB6⟩
              have HS6 := Lib.hid (HS.out.below hB6)
              clear HFI hB6 p0 p1 a0 a1 hkn'
              have p0 := hiO_0 HS6.out.run.box
              have p1 := hiO_1 HS6.out.run.box
              have x0 := hiO_0 HS6.out.run.res
              have x1 := hiO_1 HS6.out.run.res
              have z0 := hiF_0 HS6.out.run.res
              have z1 := hiF_1 HS6.out.run.res
              have hrB := HS6.out.run.rB
              go_wp2
              refine bodyPost_ret (v := .tuple #[hiV (.slice (some ⟨gb, 0, none⟩) nk cpb) (.slice (some ⟨gc, 0, none⟩) n2 cpc), .int .i64 0]) (by simp [results, Tryd.results36, go_sem, *]) rfl ⟨.inr (.inr ⟨HOK.out, HLIM.out, _, _, rfl, ?_⟩), bel_set (by omega) (bel_set (by omega) HS6.out.run.low)⟩
              rw [← HE.out]
              exact HOwn.mono (HOwn.set (HOwn.set HS6.out.run.own hrB) hrB) HS6.out.run.wB
            · rw [fitHB_f hfi] at HFI
              have HBAD : Hid (∃ j, 1099511627776 < (crsF keep bs cs cs.length).getD j 0) := by
                obtain ⟨j, hj⟩ := Classical.not_forall.1 (fun h => hfi (HIFF.out.2 h))
                rw [HE.out] at hj
                exact ⟨j, by omega⟩
              clear hfi
              go_wp2_with (fail)
              refine HFI.out.mono ?_
              rintro e w6 ⟨rfl, hB6⟩
              have HS6 := Lib.hid (HS.out.below hB6)
              clear HFI hB6 p0 p1 a0 a1 hkn'
              have x0 := hiO_0 HS6.out.run.res
              have x1 := hiO_1 HS6.out.run.res
              have z0 := hiF_0 HS6.out.run.res
              have z1 := hiF_1 HS6.out.run.res
              go_wp2
              exact bodyPost_ret (v := .tuple #[hiV (.slice none 0 0) (.slice none 0 0), .int .i64 10]) (by simp [results, Tryd.results36, go_sem, *]) rfl ⟨.inr (.inl ⟨HOK.out, HBAD.out, rfl⟩), bel_set (by omega) (bel_set (by omega) HS6.out.run.low)⟩
  · rw [risB_f hris] at hbo
    have HBAD : Hid (¬ KeepOk keep bs) := fun h => hris h.1
    clear hris
    go_wp2_with (fail)
    refine hbo.out.mono ?_
    rintro e w1 ⟨rfl, dn, rfl⟩
    clear hbo
    go_wp2
    exact bodyPost_ret (v := .tuple #[hiV (.slice none 0 0) (.slice none 0 0), .int .i64 20]) (by simp [results, Tryd.results36, go_sem, *]) rfl ⟨.inl ⟨HBAD.out, rfl⟩, by first | exact bel_drew L.out | exact bel_set (by omega) (bel_set (by omega) (bel_drew L.out))⟩

end Go.Proofs.YtghgnalbahneoaaDoor
