/- HistCounts: the law, walked (by program: wip/tools/gen_histcounts.py). -/
import Derived.Test.YtghgnalbahneoaaDoorHist22
import Derived.Test.YtghgnalbahneoaaDoorCntM
import Derived.Test.YtghgnalbahneoaaDoorFlow2
namespace Go.Proofs.YtghgnalbahneoaaDoor
open Go.RowKit

theorem fit_cnt' {bs : List Int} (l : List Int) (h : Rising bs) (hl : l.length ≤ 1099511627776) : FitH bs (cntF bs l) := by
  refine ⟨h, cntF_length bs l, fun c hc => ?_⟩
  obtain ⟨j, hj, rfl⟩ := List.getElem_of_mem hc
  have := cntF_in bs l j
  rw [List.getD_eq_getElem?_getD, List.getElem?_eq_getElem hj] at this
  simp at this
  omega

set_option maxRecDepth 100000 in
set_option maxHeartbeats 4000000 in
theorem law_HistCounts (vb va vd vk : Value) (bs a b keep : List Int) (w : World) (hb : Its w w.heap.size vb bs) (ha : Its w w.heap.size va a) (hd : Its w w.heap.size vd b) (hk : Its w w.heap.size vk keep)
    (hbl : bs.length ≤ 140737488355328) (hkl : keep.length ≤ 140737488355328) (ht : TabT w) :
    Calls Tryd.prog 6 #[vb, va, vd, vk] w fun e w' => e = .returned (.bool true) ∧ Below w.heap.size w w' := by
  have HB := Lib.hid hb
  have HA := Lib.hid ha
  have HD := Lib.hid hd
  have HK := Lib.hid hk
  have HBL := Lib.hid hbl
  have HKL := Lib.hid hkl
  have HT := Lib.hid ht
  obtain ⟨ab, capb, hvb, -⟩ := hb.slice
  obtain ⟨aa, capa, hva, -⟩ := ha.slice
  obtain ⟨ad, capd, hvd, -⟩ := hd.slice
  obtain ⟨ak, capk, hvk, -⟩ := hk.slice
  subst hvb hva hvd hvk
  obtain ⟨nb, hnb⟩ : ∃ n, n = bs.length := ⟨_, rfl⟩
  obtain ⟨na, hna⟩ : ∃ n, n = a.length := ⟨_, rfl⟩
  obtain ⟨nd, hnd⟩ : ∃ n, n = b.length := ⟨_, rfl⟩
  obtain ⟨nk, hnk⟩ : ∃ n, n = keep.length := ⟨_, rfl⟩
  rw [← hnb] at HB ⊢
  rw [← hna] at HA ⊢
  rw [← hnd] at HD ⊢
  rw [← hnk] at HK ⊢
  have NA := Lib.hid hna
  have ND := Lib.hid hnd
  clear hb ha hd hk hbl hkl ht hnb hna hnd hnk
  have L : Hid (Below w.heap.size w w) := Below.refl _ _
  by_cases hbig : 300 < na ∨ 300 < nd
  · rcases (show 300 < na ∨ (¬ 300 < na ∧ 300 < nd) by omega) with h1 | ⟨h1, h2⟩
    · have h1' : (300 : Int) < (na : Int) := by omega
      clear hbig h1
      go_enter Tryd.func6, Tryd.ntmps6
      have hw := Lib.hid (awake_any _ (HT.out.below L.out))
      go_wp2_with (fail)
      refine hw.out.mono ?_
      rintro e wq ⟨rfl, hBq⟩
      have Lq := Lib.hid (L.out.trans (hBq.mono L.out.size))
      clear hw hBq
      go_wp2
      go_ret
      exact ⟨by first | rfl | kernel_rfl, Lq.out⟩
    · have h1' : ¬ ((300 : Int) < (na : Int)) := by omega
      have h2' : (300 : Int) < (nd : Int) := by omega
      clear hbig h1 h2
      go_enter Tryd.func6, Tryd.ntmps6
      have hw := Lib.hid (awake_any _ (HT.out.below L.out))
      go_wp2_with (fail)
      refine hw.out.mono ?_
      rintro e wq ⟨rfl, hBq⟩
      have Lq := Lib.hid (L.out.trans (hBq.mono L.out.size))
      clear hw hBq
      go_wp2
      go_ret
      exact ⟨by first | rfl | kernel_rfl, Lq.out⟩
  · have h1' : ¬ ((300 : Int) < (na : Int)) := by omega
    have h2' : ¬ ((300 : Int) < (nd : Int)) := by omega
    have HSM : Hid (a.length ≤ 300 ∧ b.length ≤ 300) := by have := NA.out; have := ND.out; show _ ∧ _; omega
    clear hbig
    go_enter Tryd.func6, Tryd.ntmps6
    have hcon := Lib.hid (of_any (.slice ab nb capb) (.slice aa na capa) bs a w HB.out HA.out (by have := HSM.out; omega) HBL.out)
    go_wp2_with (fail)
    clear h1' h2'
    refine hcon.out.mono ?_
    rintro e w1 ⟨hR, hB⟩
    clear hcon
    rcases hR with ⟨hn, rfl⟩ | ⟨hris, v1, v2, rfl, ho⟩
    · have L1 : Hid (Below w.heap.size w (w1.alloc (.cells #[.slice none 0 0, .slice none 0 0] 24))) := bel_alloc hB hB.size
      clear hn hB
      have hw := Lib.hid (awake_any _ (HT.out.below L1.out))
      go_wp2_with (fail)
      refine hw.out.mono ?_
      rintro e wq ⟨rfl, hBq⟩
      have Lq := Lib.hid (L1.out.trans (hBq.mono L1.out.size))
      clear hw hBq
      go_wp2
      go_ret
      exact ⟨by first | rfl | kernel_rfl, Lq.out⟩
    · have HRIS := Lib.hid hris
      obtain ⟨LA, hLA⟩ : ∃ L, L = cntF bs a := ⟨_, rfl⟩
      obtain ⟨LB, hLB⟩ : ∃ L, L = cntF bs b := ⟨_, rfl⟩
      obtain ⟨AL, hAL⟩ : ∃ L, L = b ++ a := ⟨_, rfl⟩
      obtain ⟨LZ, hLZ⟩ : ∃ L, L = cntF bs AL := ⟨_, rfl⟩
      have EA := Lib.hid hLA
      have EB := Lib.hid hLB
      have EL := Lib.hid hAL
      have EZ := Lib.hid hLZ
      have FA : Hid (FitH bs LA) := by show FitH _ _; rw [hLA]; exact fit_cnt' a hris (by have := HSM.out; omega)
      have FB : Hid (FitH bs LB) := by show FitH _ _; rw [hLB]; exact fit_cnt' b hris (by have := HSM.out; omega)
      have NL : Hid (AL.length ≤ 600) := by show _ ≤ _; rw [hAL, List.length_append]; have := HSM.out; omega
      have FZ : Hid (FitH bs LZ) := by show FitH _ _; rw [hLZ]; exact fit_cnt' AL hris (by have := NL.out; omega)
      have SZ : Hid (LZ.sum = (AL.length : Int)) := by show _ = _; rw [hLZ]; exact sum_cnt bs AL
      rw [← hLA] at ho
      have j1 := ho.b.its
      have j2 := ho.c.its
      clear hLA hLB hAL hLZ hris ho
      obtain ⟨xX, cxX, hv1, -⟩ := j1.slice
      obtain ⟨yX, cyX, hv2, -⟩ := j2.slice
      subst hv1 hv2
      have IX := Lib.hid j1
      have JX := Lib.hid j2
      have L1a := Lib.hid (L.out.trans (hB.mono L.out.size))
      clear hB j1 j2
      obtain ⟨hB, kX⟩ := hist_new w1 (.slice xX bs.length cxX) (.slice yX LA.length cyX)
      have L1 := Lib.hid (L1a.out.trans (hB.mono L1a.out.size))
      replace IX := Lib.hid (IX.out.kept hB)
      replace JX := Lib.hid (JX.out.kept hB)
      have KX := Lib.hid kX
      clear hB kX
      have hcon := Lib.hid (of_any (.slice ab nb capb) (.slice ad nd capd) bs b _ (HB.out.below L1.out L1.out.size) (HD.out.below L1.out L1.out.size) (by have := HSM.out; omega) HBL.out)
      go_wp2_with (fail)
      refine hcon.out.mono ?_
      rintro e w2 ⟨hR, hB⟩
      clear hcon
      rcases hR with ⟨hn, rfl⟩ | ⟨-, v1, v2, rfl, ho⟩
      · exact absurd HRIS.out hn
      rw [← EB.out] at ho
      have j1 := ho.b.its
      have j2 := ho.c.its
      clear ho
      obtain ⟨xY, cxY, hv1, -⟩ := j1.slice
      obtain ⟨yY, cyY, hv2, -⟩ := j2.slice
      subst hv1 hv2
      have IY := Lib.hid j1
      have JY := Lib.hid j2
      have L2a := Lib.hid (L1.out.trans (hB.mono L1.out.size))
      replace KX := Lib.hid (stays KX.out hB)
      replace IX := Lib.hid (IX.out.kept hB)
      replace JX := Lib.hid (JX.out.kept hB)
      clear hB j1 j2
      generalize w1.heap.size = pX at *
      obtain ⟨hB, kY⟩ := hist_new w2 (.slice xY bs.length cxY) (.slice yY LB.length cyY)
      have L2 := Lib.hid (L2a.out.trans (hB.mono L2a.out.size))
      replace KX := Lib.hid (stays KX.out hB)
      replace IX := Lib.hid (IX.out.kept hB)
      replace JX := Lib.hid (JX.out.kept hB)
      replace IY := Lib.hid (IY.out.kept hB)
      replace JY := Lib.hid (JY.out.kept hB)
      have KY := Lib.hid kY
      clear hB kY
      go_wp2_with (at_builtin; (generalize hgoal : wpList _ _ _ _ _ _ = G))
      subst hgoal
      refine wpList_append_its rfl _ _ rfl (w2.alloc (.cells #[(.slice xY bs.length cxY), (.slice yY LB.length cyY)] 24)).heap.size _ [] rfl (OwnI.nil _ _) (.slice ad nd capd) b rfl (HD.out.below L2.out L2.out.size) (by have := HSM.out; rw [List.length_nil]; omega) (Nat.le_refl _) ?_
      intro v3 w3 hown3 hg3
      have hB3 : Below (w2.alloc (.cells #[(.slice xY bs.length cxY), (.slice yY LB.length cyY)] 24)).heap.size (w2.alloc (.cells #[(.slice xY bs.length cxY), (.slice yY LB.length cyY)] 24)) w3 := (Below.refl _ _).grown hg3 (Nat.le_refl _) (fun k e => by cases e)
      have hA3 : Its w3 w3.heap.size (.slice aa na capa) a := HA.out.below (L2.out.trans (hB3.mono L2.out.size)) (Nat.le_trans L2.out.size hB3.size)
      have HO3 := Lib.hid hown3
      have HG3 := Lib.hid hB3
      have HA3 := Lib.hid hA3
      clear hown3 hg3 hB3 hA3
      go_wp2_with (at_builtin; (generalize hgoal : wpList _ _ _ _ _ _ = G))
      subst hgoal
      refine wpList_append_its rfl _ _ rfl (w2.alloc (.cells #[(.slice xY bs.length cxY), (.slice yY LB.length cyY)] 24)).heap.size _ _ rfl HO3.out (.slice aa na capa) a rfl HA3.out (by have := HSM.out; rw [List.nil_append]; omega) HG3.out.size ?_
      intro v4 w4 hown4 hg4
      have hB : Below (w2.alloc (.cells #[(.slice xY bs.length cxY), (.slice yY LB.length cyY)] 24)).heap.size (w2.alloc (.cells #[(.slice xY bs.length cxY), (.slice yY LB.length cyY)] 24)) w4 := HG3.out.grown hg4 HG3.out.size (fun k e => (World.ownsRow.lt HO3.out k e).1)
      rw [List.nil_append, ← EL.out] at hown4
      obtain ⟨ag, cg, hv4, -⟩ := hown4.its.slice
      subst hv4
      have IG := Lib.hid hown4.its
      clear hown4 hg4 HO3 HG3 HA3
      have L4 := Lib.hid (L2.out.trans (hB.mono L2.out.size))
      replace KX := Lib.hid (stays KX.out hB)
      replace KY := Lib.hid (stays KY.out hB)
      replace IX := Lib.hid (IX.out.kept hB)
      replace JX := Lib.hid (JX.out.kept hB)
      replace IY := Lib.hid (IY.out.kept hB)
      replace JY := Lib.hid (JY.out.kept hB)
      clear hB
      generalize w2.heap.size = pY at *
      have hcon := Lib.hid (of_any (.slice ab nb capb) (.slice ag AL.length cg) bs AL w4 (HB.out.below L4.out L4.out.size) IG.out (by have := NL.out; omega) HBL.out)
      go_wp2_with (fail)
      refine hcon.out.mono ?_
      rintro e w5 ⟨hR, hB⟩
      clear hcon
      rcases hR with ⟨hn, rfl⟩ | ⟨-, v1, v2, rfl, ho⟩
      · exact absurd HRIS.out hn
      rw [← EZ.out] at ho
      have j1 := ho.b.its
      have j2 := ho.c.its
      clear ho
      obtain ⟨xZ, cxZ, hv1, -⟩ := j1.slice
      obtain ⟨yZ, cyZ, hv2, -⟩ := j2.slice
      subst hv1 hv2
      have IZ := Lib.hid j1
      have JZ := Lib.hid j2
      have L5a := Lib.hid (L4.out.trans (hB.mono L4.out.size))
      replace KX := Lib.hid (stays KX.out hB)
      replace KY := Lib.hid (stays KY.out hB)
      replace IX := Lib.hid (IX.out.kept hB)
      replace JX := Lib.hid (JX.out.kept hB)
      replace IY := Lib.hid (IY.out.kept hB)
      replace JY := Lib.hid (JY.out.kept hB)
      replace IG := Lib.hid (IG.out.kept hB)
      clear hB j1 j2
      obtain ⟨hB, kZ⟩ := hist_new w5 (.slice xZ bs.length cxZ) (.slice yZ LZ.length cyZ)
      have L5 := Lib.hid (L5a.out.trans (hB.mono L5a.out.size))
      replace KX := Lib.hid (stays KX.out hB)
      replace KY := Lib.hid (stays KY.out hB)
      replace IX := Lib.hid (IX.out.kept hB)
      replace JX := Lib.hid (JX.out.kept hB)
      replace IY := Lib.hid (IY.out.kept hB)
      replace JY := Lib.hid (JY.out.kept hB)
      replace IG := Lib.hid (IG.out.kept hB)
      replace IZ := Lib.hid (IZ.out.kept hB)
      replace JZ := Lib.hid (JZ.out.kept hB)
      have KZ := Lib.hid kZ
      clear hB kZ
      have cX0 := hiO_0 KX.out
      have cX1 := hiO_1 KX.out
      have cY0 := hiO_0 KY.out
      have cY1 := hiO_1 KY.out
      have hcon := Lib.hid (merge_any (.slice xX bs.length cxX) (.slice yX LA.length cyX) (.slice xY bs.length cxY) (.slice yY LB.length cyY) bs LA bs LB _ IX.out JX.out IY.out JY.out FA.out FB.out)
      go_wp2_with (fail)
      refine hcon.out.mono ?_
      rintro e w6 ⟨hR, hB⟩
      clear hcon
      rcases hR with ⟨hn, -⟩ | ⟨-, ⟨j, -, hj⟩, -⟩ | ⟨-, -, v1, v2, rfl, ho⟩
      · exact absurd rfl hn
      · exfalso
        have h1 := cnt_le_len bs a j
        have h2 := cnt_le_len bs b j
        rw [← EA.out] at h1
        rw [← EB.out] at h2
        have := HSM.out
        omega
      have hmz : mrgF LA LB LA.length = LZ := by rw [EA.out, EB.out, merge_cnt, ← EL.out, ← EZ.out]
      rw [hmz] at ho
      have j1 := ho.b.its
      have j2 := ho.c.its
      clear ho hmz
      clear cX0 cX1 cY0 cY1
      clear IX JX IY JY KX KY
      obtain ⟨xM, cxM, hv1, -⟩ := j1.slice
      obtain ⟨yM, cyM, hv2, -⟩ := j2.slice
      subst hv1 hv2
      have IM := Lib.hid j1
      have JM := Lib.hid j2
      have L6a := Lib.hid (L5.out.trans (hB.mono L5.out.size))
      replace KZ := Lib.hid (stays KZ.out hB)
      replace IG := Lib.hid (IG.out.kept hB)
      replace IZ := Lib.hid (IZ.out.kept hB)
      replace JZ := Lib.hid (JZ.out.kept hB)
      clear hB j1 j2
      generalize w5.heap.size = pZ at *
      obtain ⟨hB, kM⟩ := hist_new w6 (.slice xM bs.length cxM) (.slice yM LZ.length cyM)
      have L6 := Lib.hid (L6a.out.trans (hB.mono L6a.out.size))
      replace KZ := Lib.hid (stays KZ.out hB)
      replace IG := Lib.hid (IG.out.kept hB)
      replace IZ := Lib.hid (IZ.out.kept hB)
      replace JZ := Lib.hid (JZ.out.kept hB)
      replace IM := Lib.hid (IM.out.kept hB)
      replace JM := Lib.hid (JM.out.kept hB)
      have KM := Lib.hid kM
      clear hB kM
      have cM0 := hiO_0 KM.out
      have cM1 := hiO_1 KM.out
      have cZ0 := hiO_0 KZ.out
      have cZ1 := hiO_1 KZ.out
      have hsm := same_any (.slice xM bs.length cxM) (.slice yM LZ.length cyM) (.slice xZ bs.length cxZ) (.slice yZ LZ.length cyZ) bs LZ bs LZ _ IM.out JM.out IZ.out JZ.out
      rw [decide_eq_true rfl, decide_eq_true rfl, Bool.and_self] at hsm
      have hcon := Lib.hid (hsm)
      go_wp2_with (fail)
      refine hcon.out.mono ?_
      rintro e w7 ⟨rfl, hB⟩
      clear hcon
      clear hsm
      clear cM0 cM1 cZ0 cZ1
      have L7 := Lib.hid (L6.out.trans (hB.mono L6.out.size))
      replace KZ := Lib.hid (stays KZ.out hB)
      replace KM := Lib.hid (stays KM.out hB)
      replace IG := Lib.hid (IG.out.kept hB)
      replace IZ := Lib.hid (IZ.out.kept hB)
      replace JZ := Lib.hid (JZ.out.kept hB)
      replace IM := Lib.hid (IM.out.kept hB)
      replace JM := Lib.hid (JM.out.kept hB)
      clear hB
      generalize w6.heap.size = pM at *
      clear IM JM KM
      have cZ0 := hiO_0 KZ.out
      have cZ1 := hiO_1 KZ.out
      have htt := total_any (.slice xZ bs.length cxZ) (.slice yZ LZ.length cyZ) bs LZ w7 JZ.out (by have := FZ.out.1.2.1; have := FZ.out.2.1; omega) FZ.out.cnt
      rw [SZ.out] at htt
      have hcon := Lib.hid (htt)
      go_wp2_with (fail)
      refine hcon.out.mono ?_
      rintro e w8 ⟨rfl, hB⟩
      clear hcon
      clear htt
      clear cZ0 cZ1
      have L8 := Lib.hid (L7.out.trans (hB.mono L7.out.size))
      replace KZ := Lib.hid (stays KZ.out hB)
      replace IG := Lib.hid (IG.out.kept hB)
      replace IZ := Lib.hid (IZ.out.kept hB)
      replace JZ := Lib.hid (JZ.out.kept hB)
      clear hB
      have cZ0 := hiO_0 KZ.out
      have cZ1 := hiO_1 KZ.out
      have hcon := Lib.hid (coarse_any (.slice xZ bs.length cxZ) (.slice yZ LZ.length cyZ) (.slice ak nk capk) bs LZ keep w8 IZ.out JZ.out (HK.out.below L8.out L8.out.size) FZ.out HKL.out)
      go_wp2_with (fail)
      refine hcon.out.mono ?_
      rintro e w9 ⟨hR, hB⟩
      clear hcon
      clear cZ0 cZ1
      rcases hR with ⟨hn, rfl⟩ | ⟨hok, ⟨j, hj⟩, -⟩ | ⟨hok, -, v1, v2, rfl, ho⟩
      · have L9a := Lib.hid (L8.out.trans (hB.mono L8.out.size))
        have L9 : Hid (Below w.heap.size w (w9.alloc (.cells #[.slice none 0 0, .slice none 0 0] 24))) := bel_alloc L9a.out L9a.out.size
        clear hn hB
        have hw := Lib.hid (awake_any _ (HT.out.below L9.out))
        go_wp2_with (fail)
        refine hw.out.mono ?_
        rintro e wq ⟨rfl, hBq⟩
        have Lq := Lib.hid (L9.out.trans (hBq.mono L9.out.size))
        clear hw hBq
        go_wp2
        go_ret
        exact ⟨by first | rfl | kernel_rfl, Lq.out⟩
      · exfalso
        rw [EZ.out, coarse_cnt HRIS.out.srt hok.2] at hj
        have := cnt_le_len keep AL j
        have := NL.out
        omega
      obtain ⟨LC, hLC⟩ : ∃ L, L = cntF keep AL := ⟨_, rfl⟩
      have EC := Lib.hid hLC
      have hcc : crsF keep bs LZ LZ.length = LC := by rw [EZ.out, coarse_cnt HRIS.out.srt hok.2, ← EC.out]
      rw [hcc] at ho
      have HOK := Lib.hid hok
      have FC : Hid (FitH keep LC) := by show FitH _ _; rw [hLC]; exact fit_cnt' AL hok.1 (by have := NL.out; omega)
      have SC : Hid (LC.sum = (AL.length : Int)) := by show _ = _; rw [hLC]; exact sum_cnt keep AL
      have j1 := ho.b.its
      have j2 := ho.c.its
      clear ho hcc hok hLC
      obtain ⟨xC, cxC, hv1, -⟩ := j1.slice
      obtain ⟨yC, cyC, hv2, -⟩ := j2.slice
      subst hv1 hv2
      have IC := Lib.hid j1
      have JC := Lib.hid j2
      have L9a := Lib.hid (L8.out.trans (hB.mono L8.out.size))
      replace KZ := Lib.hid (stays KZ.out hB)
      replace IG := Lib.hid (IG.out.kept hB)
      replace IZ := Lib.hid (IZ.out.kept hB)
      replace JZ := Lib.hid (JZ.out.kept hB)
      clear hB j1 j2
      obtain ⟨hB, kC⟩ := hist_new w9 (.slice xC keep.length cxC) (.slice yC LC.length cyC)
      have L9 := Lib.hid (L9a.out.trans (hB.mono L9a.out.size))
      replace KZ := Lib.hid (stays KZ.out hB)
      replace IG := Lib.hid (IG.out.kept hB)
      replace IZ := Lib.hid (IZ.out.kept hB)
      replace JZ := Lib.hid (JZ.out.kept hB)
      replace IC := Lib.hid (IC.out.kept hB)
      replace JC := Lib.hid (JC.out.kept hB)
      have KC := Lib.hid kC
      clear hB kC
      have hcon := Lib.hid (of_any (.slice ak nk capk) (.slice ag AL.length cg) keep AL _ (HK.out.below L9.out L9.out.size) IG.out (by have := NL.out; omega) HKL.out)
      go_wp2_with (fail)
      refine hcon.out.mono ?_
      rintro e w10 ⟨hR, hB⟩
      clear hcon
      rcases hR with ⟨hn, rfl⟩ | ⟨-, v1, v2, rfl, ho⟩
      · exact absurd HOK.out.1 hn
      rw [← EC.out] at ho
      have j1 := ho.b.its
      have j2 := ho.c.its
      clear ho
      obtain ⟨xD, cxD, hv1, -⟩ := j1.slice
      obtain ⟨yD, cyD, hv2, -⟩ := j2.slice
      subst hv1 hv2
      have ID := Lib.hid j1
      have JD := Lib.hid j2
      have L10a := Lib.hid (L9.out.trans (hB.mono L9.out.size))
      replace KZ := Lib.hid (stays KZ.out hB)
      replace KC := Lib.hid (stays KC.out hB)
      replace IG := Lib.hid (IG.out.kept hB)
      replace IZ := Lib.hid (IZ.out.kept hB)
      replace JZ := Lib.hid (JZ.out.kept hB)
      replace IC := Lib.hid (IC.out.kept hB)
      replace JC := Lib.hid (JC.out.kept hB)
      clear hB j1 j2
      generalize w9.heap.size = pC at *
      obtain ⟨hB, kD⟩ := hist_new w10 (.slice xD keep.length cxD) (.slice yD LC.length cyD)
      have L10 := Lib.hid (L10a.out.trans (hB.mono L10a.out.size))
      replace KZ := Lib.hid (stays KZ.out hB)
      replace KC := Lib.hid (stays KC.out hB)
      replace IG := Lib.hid (IG.out.kept hB)
      replace IZ := Lib.hid (IZ.out.kept hB)
      replace JZ := Lib.hid (JZ.out.kept hB)
      replace IC := Lib.hid (IC.out.kept hB)
      replace JC := Lib.hid (JC.out.kept hB)
      replace ID := Lib.hid (ID.out.kept hB)
      replace JD := Lib.hid (JD.out.kept hB)
      have KD := Lib.hid kD
      clear hB kD
      go_wp2_with (fail)
      generalize w10.heap.size = pD at *
      generalize w10.alloc (.cells #[(.slice xD keep.length cxD), (.slice yD LC.length cyD)] 24) = V at *
      refine wp_flow2 (by kernel_rfl) (by kernel_rfl) (fun i => if i = 17 then 8 else 99 + i) (by kernel_rfl) (by kernel_rfl) (by kernel_rfl) (fun i v W => ([(fun zv _ => zv = (.int .i64 0)), (fun zv _ => zv = (.bool true)), (fun zv _ => zv = (.bool true)), (fun zv _ => zv = (.agg #[(.slice xC keep.length cxC), (.slice yC LC.length cyC)])), (fun zv _ => zv = (.agg #[(.slice xD keep.length cxD), (.slice yD LC.length cyD)])), (fun zv _ => zv = (.bool true)), (fun zv _ => zv = (.bool true)), (fun zv _ => zv = (.bool true)), (fun zv _ => zv = (.agg #[(.slice xC keep.length cxC), (.slice yC LC.length cyC)])), (fun zv _ => zv = (.int .i64 (AL.length : Int))), (fun zv _ => zv = (.agg #[(.slice xZ bs.length cxZ), (.slice yZ LZ.length cyZ)])), (fun zv _ => zv = (.int .i64 (AL.length : Int))), (fun zv _ => zv = (.bool true)), (fun zv _ => zv = (.bool true)), (fun zv _ => zv = (.bool true)), (fun zv _ => zv = (.bool true)), (fun zv _ => zv = (.bool true)), (fun zv _ => zv = (.bool true))] : List (Value → World → Prop)).getD i (fun _ _ => True) v W) ?_ ?_ (by kernel_rfl) ?_
      · intro i hi
        replace hi : i < 18 := hi
        rcases (show i = 0 ∨ i = 1 ∨ i = 2 ∨ i = 3 ∨ i = 4 ∨ i = 5 ∨ i = 6 ∨ i = 7 ∨ i = 8 ∨ i = 9 ∨ i = 10 ∨ i = 11 ∨ i = 12 ∨ i = 13 ∨ i = 14 ∨ i = 15 ∨ i = 16 ∨ i = 17 by omega) with rfl | rfl | rfl | rfl | rfl | rfl | rfl | rfl | rfl | rfl | rfl | rfl | rfl | rfl | rfl | rfl | rfl | rfl
        · exact Stays.eq _
        · exact Stays.eq _
        · exact Stays.eq _
        · exact Stays.eq _
        · exact Stays.eq _
        · exact Stays.eq _
        · exact Stays.eq _
        · exact Stays.eq _
        · exact Stays.eq _
        · exact Stays.eq _
        · exact Stays.eq _
        · exact Stays.eq _
        · exact Stays.eq _
        · exact Stays.eq _
        · exact Stays.eq _
        · exact Stays.eq _
        · exact Stays.eq _
        · exact Stays.eq _
      · intro i o a W hi ho hB hf hd
        replace hi : i < 18 := hi
        rcases (show i = 0 ∨ i = 1 ∨ i = 2 ∨ i = 3 ∨ i = 4 ∨ i = 5 ∨ i = 6 ∨ i = 7 ∨ i = 8 ∨ i = 9 ∨ i = 10 ∨ i = 11 ∨ i = 12 ∨ i = 13 ∨ i = 14 ∨ i = 15 ∨ i = 16 ∨ i = 17 by omega) with rfl | rfl | rfl | rfl | rfl | rfl | rfl | rfl | rfl | rfl | rfl | rfl | rfl | rfl | rfl | rfl | rfl | rfl
        · replace ho := op_at ho (by rfl)
          subst ho
          have f12 : a.tmps.getD 12 undef = (.int .i64 0) := hf 12 (by kernel_rfl)
          refine .inl ⟨(fun j b h => by cases h), FlowOp.pure _ (by simp [go_sem, Act.eval, f12]) rfl⟩
        · replace ho := op_at ho (by rfl)
          subst ho
          have d0 : a.tmps.getD 99 undef = (.int .i64 0) := hd 0 (by kernel_rfl)
          refine .inl ⟨(fun j b h => by cases h), FlowOp.pure _ (by simp [go_sem, Act.eval, d0]) rfl⟩
        · replace ho := op_at ho (by rfl)
          subst ho
          have d1 : a.tmps.getD 100 undef = (.bool true) := hd 1 (by kernel_rfl)
          refine .inl ⟨(fun j b h => by cases h), FlowOp.pure _ (by simp [go_sem, Act.eval, d1]) rfl⟩
        · replace ho := op_at ho (by rfl)
          subst ho
          have f18 : a.tmps.getD 18 undef = (.pointer (some ⟨pC, 0, none⟩)) := hf 18 (by kernel_rfl)
          have d2 : a.tmps.getD 101 undef = (.bool true) := hd 2 (by kernel_rfl)
          have c0 := hiO_0 (stays KC.out hB)
          have c1 := hiO_1 (stays KC.out hB)
          refine .inl ⟨(fun j b h => by cases h; exact d2), FlowOp.pure _ (by simp [go_sem, Act.eval, f18, c0, c1]) rfl⟩
        · replace ho := op_at ho (by rfl)
          subst ho
          have f19 : a.tmps.getD 19 undef = (.pointer (some ⟨pD, 0, none⟩)) := hf 19 (by kernel_rfl)
          have d2 : a.tmps.getD 101 undef = (.bool true) := hd 2 (by kernel_rfl)
          have c0 := hiO_0 (stays KD.out hB)
          have c1 := hiO_1 (stays KD.out hB)
          refine .inl ⟨(fun j b h => by cases h; exact d2), FlowOp.pure _ (by simp [go_sem, Act.eval, f19, c0, c1]) rfl⟩
        · replace ho := op_at ho (by rfl)
          subst ho
          have d3 : a.tmps.getD 102 undef = (.agg #[(.slice xC keep.length cxC), (.slice yC LC.length cyC)]) := hd 3 (by kernel_rfl)
          have d4 : a.tmps.getD 103 undef = (.agg #[(.slice xD keep.length cxD), (.slice yD LC.length cyD)]) := hd 4 (by kernel_rfl)
          have d2 : a.tmps.getD 101 undef = (.bool true) := hd 2 (by kernel_rfl)
          refine .inl ⟨(fun j b h => by cases h; exact d2), FlowOp.call 21 #[(hiV (.slice xC keep.length cxC) (.slice yC LC.length cyC)), (hiV (.slice xD keep.length cxD) (.slice yD LC.length cyD))] (by simp [go_sem, Act.eval, d3, d4]) ?_⟩
          have hsm := same_any (.slice xC keep.length cxC) (.slice yC LC.length cyC) (.slice xD keep.length cxD) (.slice yD LC.length cyD) keep LC keep LC W (IC.out.kept hB) (JC.out.kept hB) (ID.out.kept hB) (JD.out.kept hB)
          rw [decide_eq_true rfl, decide_eq_true rfl, Bool.and_self] at hsm
          refine hsm.mono ?_
          rintro e W' ⟨rfl, hBe⟩
          exact ⟨_, rfl, hBe, rfl⟩
        · replace ho := op_at ho (by rfl)
          subst ho
          have d2 : a.tmps.getD 101 undef = (.bool true) := hd 2 (by kernel_rfl)
          have d5 : a.tmps.getD 104 undef = (.bool true) := hd 5 (by kernel_rfl)
          refine .inl ⟨(fun j b h => by cases h), FlowOp.pure _ (by simp [go_sem, Act.eval, d2, d5]) rfl⟩
        · replace ho := op_at ho (by rfl)
          subst ho
          have d6 : a.tmps.getD 105 undef = (.bool true) := hd 6 (by kernel_rfl)
          refine .inl ⟨(fun j b h => by cases h), FlowOp.pure _ (by simp [go_sem, Act.eval, d6]) rfl⟩
        · replace ho := op_at ho (by rfl)
          subst ho
          have f18 : a.tmps.getD 18 undef = (.pointer (some ⟨pC, 0, none⟩)) := hf 18 (by kernel_rfl)
          have d7 : a.tmps.getD 106 undef = (.bool true) := hd 7 (by kernel_rfl)
          have c0 := hiO_0 (stays KC.out hB)
          have c1 := hiO_1 (stays KC.out hB)
          refine .inl ⟨(fun j b h => by cases h; exact d7), FlowOp.pure _ (by simp [go_sem, Act.eval, f18, c0, c1]) rfl⟩
        · replace ho := op_at ho (by rfl)
          subst ho
          have d8 : a.tmps.getD 107 undef = (.agg #[(.slice xC keep.length cxC), (.slice yC LC.length cyC)]) := hd 8 (by kernel_rfl)
          have d7 : a.tmps.getD 106 undef = (.bool true) := hd 7 (by kernel_rfl)
          refine .inl ⟨(fun j b h => by cases h; exact d7), FlowOp.call 29 #[(hiV (.slice xC keep.length cxC) (.slice yC LC.length cyC))] (by simp [go_sem, Act.eval, d8]) ?_⟩
          have htt := total_any (.slice xC keep.length cxC) (.slice yC LC.length cyC) keep LC W (JC.out.kept hB) (by have := FC.out.1.2.1; have := FC.out.2.1; omega) FC.out.cnt
          rw [SC.out] at htt
          refine htt.mono ?_
          rintro e W' ⟨rfl, hBe⟩
          exact ⟨_, rfl, hBe, rfl⟩
        · replace ho := op_at ho (by rfl)
          subst ho
          have f14 : a.tmps.getD 14 undef = (.pointer (some ⟨pZ, 0, none⟩)) := hf 14 (by kernel_rfl)
          have d7 : a.tmps.getD 106 undef = (.bool true) := hd 7 (by kernel_rfl)
          have c0 := hiO_0 (stays KZ.out hB)
          have c1 := hiO_1 (stays KZ.out hB)
          refine .inl ⟨(fun j b h => by cases h; exact d7), FlowOp.pure _ (by simp [go_sem, Act.eval, f14, c0, c1]) rfl⟩
        · replace ho := op_at ho (by rfl)
          subst ho
          have d10 : a.tmps.getD 109 undef = (.agg #[(.slice xZ bs.length cxZ), (.slice yZ LZ.length cyZ)]) := hd 10 (by kernel_rfl)
          have d7 : a.tmps.getD 106 undef = (.bool true) := hd 7 (by kernel_rfl)
          refine .inl ⟨(fun j b h => by cases h; exact d7), FlowOp.call 29 #[(hiV (.slice xZ bs.length cxZ) (.slice yZ LZ.length cyZ))] (by simp [go_sem, Act.eval, d10]) ?_⟩
          have htt := total_any (.slice xZ bs.length cxZ) (.slice yZ LZ.length cyZ) bs LZ W (JZ.out.kept hB) (by have := FZ.out.1.2.1; have := FZ.out.2.1; omega) FZ.out.cnt
          rw [SZ.out] at htt
          refine htt.mono ?_
          rintro e W' ⟨rfl, hBe⟩
          exact ⟨_, rfl, hBe, rfl⟩
        · replace ho := op_at ho (by rfl)
          subst ho
          have d9 : a.tmps.getD 108 undef = (.int .i64 (AL.length : Int)) := hd 9 (by kernel_rfl)
          have d11 : a.tmps.getD 110 undef = (.int .i64 (AL.length : Int)) := hd 11 (by kernel_rfl)
          have d7 : a.tmps.getD 106 undef = (.bool true) := hd 7 (by kernel_rfl)
          refine .inl ⟨(fun j b h => by cases h; exact d7), FlowOp.pure _ (by simp [go_sem, Act.eval, d9, d11]) rfl⟩
        · replace ho := op_at ho (by rfl)
          subst ho
          have d7 : a.tmps.getD 106 undef = (.bool true) := hd 7 (by kernel_rfl)
          have d12 : a.tmps.getD 111 undef = (.bool true) := hd 12 (by kernel_rfl)
          refine .inl ⟨(fun j b h => by cases h), FlowOp.pure _ (by simp [go_sem, Act.eval, d7, d12]) rfl⟩
        · replace ho := op_at ho (by rfl)
          subst ho
          have d13 : a.tmps.getD 112 undef = (.bool true) := hd 13 (by kernel_rfl)
          refine .inl ⟨(fun j b h => by cases h), FlowOp.pure _ (by simp [go_sem, Act.eval, d13]) rfl⟩
        · replace ho := op_at ho (by rfl)
          subst ho
          have d14 : a.tmps.getD 113 undef = (.bool true) := hd 14 (by kernel_rfl)
          refine .inl ⟨(fun j b h => by cases h; exact d14), FlowOp.call 9 #[] (by simp [go_sem, Act.eval]) ?_⟩
          refine (awake_any W (HT.out.below (L10.out.trans (hB.mono L10.out.size)))).mono ?_
          rintro e W' ⟨rfl, hBe⟩
          exact ⟨_, rfl, hBe, rfl⟩
        · replace ho := op_at ho (by rfl)
          subst ho
          have d14 : a.tmps.getD 113 undef = (.bool true) := hd 14 (by kernel_rfl)
          have d15 : a.tmps.getD 114 undef = (.bool true) := hd 15 (by kernel_rfl)
          refine .inl ⟨(fun j b h => by cases h), FlowOp.pure _ (by simp [go_sem, Act.eval, d14, d15]) rfl⟩
        · replace ho := op_at ho (by rfl)
          subst ho
          have d16 : a.tmps.getD 115 undef = (.bool true) := hd 16 (by kernel_rfl)
          refine .inl ⟨(fun j b h => by cases h), FlowOp.pure _ (by simp [go_sem, Act.eval, d16]) rfl⟩
      · intro vs9f W9f hB9f hv
        have h0 : vs9f 0 = (.int .i64 0) := hv 0 (show 0 < 18 by decide)
        have h1 : vs9f 1 = (.bool true) := hv 1 (show 1 < 18 by decide)
        have h2 : vs9f 2 = (.bool true) := hv 2 (show 2 < 18 by decide)
        have h3 : vs9f 3 = (.agg #[(.slice xC keep.length cxC), (.slice yC LC.length cyC)]) := hv 3 (show 3 < 18 by decide)
        have h4 : vs9f 4 = (.agg #[(.slice xD keep.length cxD), (.slice yD LC.length cyD)]) := hv 4 (show 4 < 18 by decide)
        have h5 : vs9f 5 = (.bool true) := hv 5 (show 5 < 18 by decide)
        have h6 : vs9f 6 = (.bool true) := hv 6 (show 6 < 18 by decide)
        have h7 : vs9f 7 = (.bool true) := hv 7 (show 7 < 18 by decide)
        have h8 : vs9f 8 = (.agg #[(.slice xC keep.length cxC), (.slice yC LC.length cyC)]) := hv 8 (show 8 < 18 by decide)
        have h9 : vs9f 9 = (.int .i64 (AL.length : Int)) := hv 9 (show 9 < 18 by decide)
        have h10 : vs9f 10 = (.agg #[(.slice xZ bs.length cxZ), (.slice yZ LZ.length cyZ)]) := hv 10 (show 10 < 18 by decide)
        have h11 : vs9f 11 = (.int .i64 (AL.length : Int)) := hv 11 (show 11 < 18 by decide)
        have h12 : vs9f 12 = (.bool true) := hv 12 (show 12 < 18 by decide)
        have h13 : vs9f 13 = (.bool true) := hv 13 (show 13 < 18 by decide)
        have h14 : vs9f 14 = (.bool true) := hv 14 (show 14 < 18 by decide)
        have h15 : vs9f 15 = (.bool true) := hv 15 (show 15 < 18 by decide)
        have h16 : vs9f 16 = (.bool true) := hv 16 (show 16 < 18 by decide)
        have h17 : vs9f 17 = (.bool true) := hv 17 (show 17 < 18 by decide)
        clear hv
        show (_ : Exit → Act → World → Prop) Exit.normal (puts _ vs9f 18 _) W9f
        simp only [puts, h0, h1, h2, h3, h4, h5, h6, h7, h8, h9, h10, h11, h12, h13, h14, h15, h16, h17]
        clear h0 h1 h2 h3 h4 h5 h6 h7 h8 h9 h10 h11 h12 h13 h14 h15 h16 h17
        go_wp2
        go_ret
        exact ⟨by kernel_rfl, L10.out.trans (hB9f.mono L10.out.size)⟩

end Go.Proofs.YtghgnalbahneoaaDoor
