/- FracTerms: the law, walked (by program: wip/tools/gen_fterms.py). -/
import Derived.Test.YtckedklopgnloaaDoorFracFrom
namespace Go.Proofs.YtckedklopgnloaaDoor
open Go.RowKit

theorem RowI.its {w : World} {v : Value} {xs : List Int} (h : RowI w v xs) (hl : xs.length ≤ 9223372036854775807) (hc : ∀ g n cap, v = .slice (some ⟨g, 0, none⟩) n cap → n ≤ cap) : Its w w.heap.size v xs := by
  obtain ⟨g, cap, hv, hg, hcell⟩ := h
  exact ⟨_, cap, hv, hc _ _ _ hv, hl, fun _ => ⟨g, 0, rfl, hg, fun i hi => by rw [Nat.zero_add]; exact hcell i hi⟩⟩
theorem OwnI.caps {w : World} {B : Nat} {v : Value} {xs : List Int} (h : OwnI w B v xs) : ∀ g n cap, v = .slice (some ⟨g, 0, none⟩) n cap → n ≤ cap := by
  intro g n cap he
  rcases h.2 with ⟨hv, h0⟩ | ⟨g', cap', cur, hv, hb, hg, hn, hcm, hcs, htake⟩
  · rw [hv] at he; cases he
  · rw [hv] at he; cases he; exact hn
theorem termsI_pos (n d : Int) : 0 < (termsI n d).length := by
  rw [termsI]; split <;> simp

set_option maxRecDepth 100000 in
set_option maxHeartbeats 4000000 in
theorem law_FracTerms (an ad : Int) (v : Value) (l : List Int) (w : World) (han0 : -9223372036854775808 ≤ an) (han1 : an < 9223372036854775808) (had0 : -9223372036854775808 ≤ ad) (had1 : ad < 9223372036854775808) (hI : Its w w.heap.size v l) (ht : TabT w) :
    Calls Tryd.prog 10 #[frV an ad, v] w fun e w' => e = .returned (.bool true) ∧ Below w.heap.size w w' := by
  obtain ⟨⟨⟨gn, gd⟩, gc⟩, hg⟩ : ∃ r, fromF l = r := ⟨_, rfl⟩
  have c1 : ∀ W, Below w.heap.size w W → _ := fun W hB => from_any v l W (hI.below hB hB.size)
  have c2 : ∀ W, Below w.heap.size w W → _ := fun W hB => rfrom_any v l W (hI.below hB hB.size)
  rw [hg] at c1 c2
  clear hg
  have HI := Lib.hid hI
  clear hI
  have v0 : ∀ W, _ := fun W => rvalid_any an ad W han0 han1 had0 had1
  by_cases q0 : Val an ad
  · have e0 := (valB_iff an ad).2 q0
    rw [e0] at v0
    clear e0
    obtain ⟨g0, kA⟩ := enter1 w an ad
    have L := Lib.hid g0
    replace kA := Lib.hid kA
    clear g0
    have A0 := frO_0 kA.out
    have A1 := frO_1 kA.out
    go_enter Tryd.func10, Tryd.ntmps10
    go_wp2_with (fail)
    refine (c1 _ L.out).mono ?_
    rintro e w1 ⟨rfl, hB⟩
    replace L := Lib.hid (L.out.trans (hB.mono L.out.size))
    replace kA := Lib.hid (stays kA.out hB)
    clear hB A0 A1
    simp only [mkV]
    obtain ⟨gN, kF⟩ := box_new w1 (gn) (gd)
    replace kA := Lib.hid (stays kA.out gN)
    replace kF := Lib.hid kF
    have A0 := frO_0 kA.out
    have A1 := frO_1 kA.out
    have F0 := frO_0 kF.out
    have F1 := frO_1 kF.out
    go_wp2_with (fail)
    refine (c2 _ (L.out.trans (gN.mono L.out.size))).mono ?_
    rintro e w2 ⟨rfl, hB⟩
    replace L := Lib.hid (L.out.trans ((gN.trans (hB.mono gN.size)).mono L.out.size))
    replace kA := Lib.hid (stays kA.out hB)
    replace kF := Lib.hid (stays kF.out hB)
    generalize w1.heap.size = xF at *
    clear gN
    clear hB A0 A1 F0 F1
    simp only [mkV]
    obtain ⟨gN, kG⟩ := box_new w2 (gn) (gd)
    replace kA := Lib.hid (stays kA.out gN)
    replace kF := Lib.hid (stays kF.out gN)
    replace kG := Lib.hid kG
    have A0 := frO_0 kA.out
    have A1 := frO_1 kA.out
    have F0 := frO_0 kF.out
    have F1 := frO_1 kF.out
    have G0 := frO_0 kG.out
    have G1 := frO_1 kG.out
    go_wp2_with (fail)
    refine (v0 _).mono ?_
    rintro e w3 ⟨rfl, hB⟩
    replace L := Lib.hid (L.out.trans ((gN.trans (hB.mono gN.size)).mono L.out.size))
    replace kA := Lib.hid (stays kA.out hB)
    replace kF := Lib.hid (stays kF.out hB)
    replace kG := Lib.hid (stays kG.out hB)
    generalize w2.heap.size = xG at *
    clear gN
    clear hB A0 A1 F0 F1 G0 G1
    have A0 := frO_0 kA.out
    have A1 := frO_1 kA.out
    have F0 := frO_0 kF.out
    have F1 := frO_1 kF.out
    have G0 := frO_0 kG.out
    have G1 := frO_1 kG.out
    go_wp2_with (fail)
    refine (terms_any an ad _ (by have := q0.1; omega) (by have := q0.2.1; omega) (by have := q0.2.2.1; omega) (by have := q0.2.2.2.1; omega)).mono ?_
    rintro e w4 ⟨v1, rfl, hO1, hB⟩
    replace L := Lib.hid (L.out.trans (hB.mono L.out.size))
    replace kA := Lib.hid (stays kA.out hB)
    replace kF := Lib.hid (stays kF.out hB)
    replace kG := Lib.hid (stays kG.out hB)
    clear hB A0 A1 F0 F1 G0 G1
    have R1 := Lib.hid (hO1.row (termsI_pos an ad))
    have K1 := Lib.hid hO1.caps
    clear hO1
    have A0 := frO_0 kA.out
    have A1 := frO_1 kA.out
    have F0 := frO_0 kF.out
    have F1 := frO_1 kF.out
    have G0 := frO_0 kG.out
    have G1 := frO_1 kG.out
    go_wp2_with (fail)
    refine (rterms_any an ad _ (by have := q0.1; omega) (by have := q0.2.1; omega) (by have := q0.2.2.1; omega) (by have := q0.2.2.2.1; omega)).mono ?_
    rintro e w5 ⟨v2, rfl, hO2, hB⟩
    have R1 := Lib.hid (R1.out.below hB)
    replace L := Lib.hid (L.out.trans (hB.mono L.out.size))
    replace kA := Lib.hid (stays kA.out hB)
    replace kF := Lib.hid (stays kF.out hB)
    replace kG := Lib.hid (stays kG.out hB)
    clear hB A0 A1 F0 F1 G0 G1
    have R2 := Lib.hid (hO2.row (termsI_pos an ad))
    clear hO2
    have A0 := frO_0 kA.out
    have A1 := frO_1 kA.out
    have F0 := frO_0 kF.out
    have F1 := frO_1 kF.out
    have G0 := frO_0 kG.out
    have G1 := frO_1 kG.out
    obtain ⟨g1, cap1, hv1, hg1, hc1⟩ := R1.out
    obtain ⟨g2, cap2, hv2, hg2, hc2⟩ := R2.out
    subst hv1 hv2
    have hT := termsI_len an ad (by have := q0.1; omega)
    have hF := (from_terms an ad q0).1
    have hFF : fromF (termsI an ad) = ((an, ad), 0) := by
      unfold fromF
      rw [if_neg (by intro h; have := termsI_pos an ad; rw [h] at this; simp at this), if_pos (List.all_eq_true.2 fun x hx => decide_eq_true ((from_terms an ad q0).2 x hx)), hF]
    have hd2 := q0.2.1
    generalize termsI an ad = T at *
    have c5 : ∀ W, Below w5.heap.size w5 W → _ := fun W hB => from_any _ T W ((R1.out.below hB).its (by omega) K1.out)
    rw [hFF] at c5
    obtain ⟨m, hm⟩ : ∃ m, m = T.length := ⟨_, rfl⟩
    rw [← hm] at hc1 hc2 hT c5 ⊢
    have HC1 := Lib.hid hc1
    have HC2 := Lib.hid hc2
    clear hc1 hc2 hm hF hFF
    go_wp2_with (fail)
    go_loopw [11] (fun i wr => ∃ k : Nat, k ≤ m ∧ i = .int .i64 (k : Int) ∧ Hid (∃ n, wr = w5.drewN n)) (fun i _ => m - (intOf i).toNat)
    case atStart => exact ⟨0, Nat.zero_le _, rfl, 0, rfl⟩
    case round =>
      obtain ⟨k, hk, rfl, HW⟩ := hrel
      obtain ⟨nd, rfl⟩ := HW.out
      by_cases hlt : k < m
      · have e1 := HC1.out k hlt
        have e2 := HC2.out k hlt
        have hki : (k : Int) < (m : Int) := by omega
        go_wp2
        go_quiet (fail)
        go_wp2
        go_roundw
        case rel => exact ⟨k + 1, by omega, by go_num, _, rfl⟩
        case measure => simp [intOf]; omega
      · obtain rfl : k = m := by omega
        clear hlt
        have c6 := c5 (w5.drewN nd) (bdN _ _ _)
        replace L := Lib.hid (bel_drew (k := nd) L.out)
        replace kA := Lib.hid (stays kA.out (bdN w5.heap.size w5 nd))
        replace kF := Lib.hid (stays kF.out (bdN w5.heap.size w5 nd))
        replace kG := Lib.hid (stays kG.out (bdN w5.heap.size w5 nd))
        clear A0 A1 F0 F1 G0 G1 c5
        generalize w5.drewN nd = w5 at *
        have A0 := frO_0 kA.out
        have A1 := frO_1 kA.out
        have F0 := frO_0 kF.out
        have F1 := frO_1 kF.out
        have G0 := frO_0 kG.out
        have G1 := frO_1 kG.out
        go_wp2_with (fail)
        refine (c6).mono ?_
        rintro e w6 ⟨rfl, hB⟩
        replace L := Lib.hid (L.out.trans (hB.mono L.out.size))
        replace kA := Lib.hid (stays kA.out hB)
        replace kF := Lib.hid (stays kF.out hB)
        replace kG := Lib.hid (stays kG.out hB)
        clear hB A0 A1 F0 F1 G0 G1
        simp only [mkV]
        obtain ⟨gN, kH⟩ := box_new w6 (an) (ad)
        replace kA := Lib.hid (stays kA.out gN)
        replace kF := Lib.hid (stays kF.out gN)
        replace kG := Lib.hid (stays kG.out gN)
        replace kH := Lib.hid kH
        have A0 := frO_0 kA.out
        have A1 := frO_1 kA.out
        have F0 := frO_0 kF.out
        have F1 := frO_1 kF.out
        have G0 := frO_0 kG.out
        have G1 := frO_1 kG.out
        have H0 := frO_0 kH.out
        have H1 := frO_1 kH.out
        go_wp2_with (fail)
        refine (awake_any _ (ht.below (L.out.trans (gN.mono L.out.size)))).mono ?_
        rintro e w7 ⟨rfl, hB⟩
        replace L := Lib.hid (L.out.trans ((gN.trans (hB.mono gN.size)).mono L.out.size))
        replace kA := Lib.hid (stays kA.out hB)
        replace kF := Lib.hid (stays kF.out hB)
        replace kG := Lib.hid (stays kG.out hB)
        replace kH := Lib.hid (stays kH.out hB)
        generalize w6.heap.size = xH at *
        clear gN
        clear hB A0 A1 F0 F1 G0 G1 H0 H1
        have A0 := frO_0 kA.out
        have A1 := frO_1 kA.out
        have F0 := frO_0 kF.out
        have F1 := frO_1 kF.out
        have G0 := frO_0 kG.out
        have G1 := frO_1 kG.out
        have H0 := frO_0 kH.out
        have H1 := frO_1 kH.out
        go_wp2
        go_ret
        exact ⟨rfl, L.out⟩
  · have e0 : valB an ad = false := by rw [valB, decide_eq_false_iff_not]; exact q0
    rw [e0] at v0
    clear e0
    obtain ⟨g0, kA⟩ := enter1 w an ad
    have L := Lib.hid g0
    replace kA := Lib.hid kA
    clear g0
    have A0 := frO_0 kA.out
    have A1 := frO_1 kA.out
    go_enter Tryd.func10, Tryd.ntmps10
    go_wp2_with (fail)
    refine (c1 _ L.out).mono ?_
    rintro e w1 ⟨rfl, hB⟩
    replace L := Lib.hid (L.out.trans (hB.mono L.out.size))
    replace kA := Lib.hid (stays kA.out hB)
    clear hB A0 A1
    simp only [mkV]
    obtain ⟨gN, kF⟩ := box_new w1 (gn) (gd)
    replace kA := Lib.hid (stays kA.out gN)
    replace kF := Lib.hid kF
    have A0 := frO_0 kA.out
    have A1 := frO_1 kA.out
    have F0 := frO_0 kF.out
    have F1 := frO_1 kF.out
    go_wp2_with (fail)
    refine (c2 _ (L.out.trans (gN.mono L.out.size))).mono ?_
    rintro e w2 ⟨rfl, hB⟩
    replace L := Lib.hid (L.out.trans ((gN.trans (hB.mono gN.size)).mono L.out.size))
    replace kA := Lib.hid (stays kA.out hB)
    replace kF := Lib.hid (stays kF.out hB)
    generalize w1.heap.size = xF at *
    clear gN
    clear hB A0 A1 F0 F1
    simp only [mkV]
    obtain ⟨gN, kG⟩ := box_new w2 (gn) (gd)
    replace kA := Lib.hid (stays kA.out gN)
    replace kF := Lib.hid (stays kF.out gN)
    replace kG := Lib.hid kG
    have A0 := frO_0 kA.out
    have A1 := frO_1 kA.out
    have F0 := frO_0 kF.out
    have F1 := frO_1 kF.out
    have G0 := frO_0 kG.out
    have G1 := frO_1 kG.out
    go_wp2_with (fail)
    refine (v0 _).mono ?_
    rintro e w3 ⟨rfl, hB⟩
    replace L := Lib.hid (L.out.trans ((gN.trans (hB.mono gN.size)).mono L.out.size))
    replace kA := Lib.hid (stays kA.out hB)
    replace kF := Lib.hid (stays kF.out hB)
    replace kG := Lib.hid (stays kG.out hB)
    generalize w2.heap.size = xG at *
    clear gN
    clear hB A0 A1 F0 F1 G0 G1
    have A0 := frO_0 kA.out
    have A1 := frO_1 kA.out
    have F0 := frO_0 kF.out
    have F1 := frO_1 kF.out
    have G0 := frO_0 kG.out
    have G1 := frO_1 kG.out
    go_wp2_with (fail)
    refine (awake_any _ (ht.below L.out)).mono ?_
    rintro e w4 ⟨rfl, hB⟩
    replace L := Lib.hid (L.out.trans (hB.mono L.out.size))
    replace kA := Lib.hid (stays kA.out hB)
    replace kF := Lib.hid (stays kF.out hB)
    replace kG := Lib.hid (stays kG.out hB)
    clear hB A0 A1 F0 F1 G0 G1
    have A0 := frO_0 kA.out
    have A1 := frO_1 kA.out
    have F0 := frO_0 kF.out
    have F1 := frO_1 kF.out
    have G0 := frO_0 kG.out
    have G1 := frO_1 kG.out
    go_wp2
    go_ret
    exact ⟨rfl, L.out⟩

end Go.Proofs.YtckedklopgnloaaDoor
