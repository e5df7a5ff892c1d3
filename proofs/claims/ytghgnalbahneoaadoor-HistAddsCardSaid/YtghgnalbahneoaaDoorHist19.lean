/- Histograms: the document's Text (by program: wip/tools/gen_hist19.py). -/
import Derived.Test.YtghgnalbahneoaaDoorHist18
namespace Go.Proofs.YtghgnalbahneoaaDoor
open Go.RowKit

theorem rgK_inv {bs : List Int} {k : Nat} {b1 b2 : Bool} {l1 l2 : Int} (h : rgK bs k = rgV b1 l1 b2 l2) : b1 = decide (0 < k) ∧ l1 = (if 0 < k then bs.getD (k - 1) 0 else 0) ∧ b2 = decide (k < bs.length) ∧ l2 = (if k < bs.length then bs.getD k 0 else 0) := by
  unfold rgK rgV at h
  simp only [Value.agg.injEq, Array.mk.injEq, List.cons.injEq, Value.bool.injEq, Value.int.injEq, true_and, and_true] at h
  exact ⟨h.1.symm, h.2.1.symm, h.2.2.1.symm, h.2.2.2.symm⟩

set_option maxRecDepth 100000 in
set_option maxHeartbeats 4000000 in
theorem rtextH_any (vb vc : Value) (bs cs : List Int) (x : Int) (w : World) (hb : Its w w.heap.size vb bs) (hc : Its w w.heap.size vc cs) (hfit : FitH bs cs) (h64 : In64 bs) (hx0 : -9223372036854775808 ≤ x) (hx1 : x ≤ 9223372036854775807) (ht : TabT w) :
    Calls Tryd.prog 15 #[hiV vb vc, .int .i64 x] w fun e w' => e = .returned (.string ⟨(textF bs cs x).toArray⟩) ∧ Below w.heap.size w w' := by
  obtain ⟨g0, k0⟩ := hist_new w vb vc
  have L := Lib.hid g0
  have K := Lib.hid k0
  have HB := Lib.hid (hb.kept g0)
  have HC := Lib.hid (hc.kept g0)
  have HT := Lib.hid (ht.below g0)
  have HF := Lib.hid hfit
  have H64 := Lib.hid h64
  clear g0 k0 hfit ht h64
  obtain ⟨ab, capb, hvb, -⟩ := hb.slice
  obtain ⟨ac, capc, hvc, -⟩ := hc.slice
  subst hvb hvc
  obtain ⟨nb, hnb⟩ : ∃ n, n = bs.length := ⟨_, rfl⟩
  obtain ⟨nc, hnc⟩ : ∃ n, n = cs.length := ⟨_, rfl⟩
  rw [← hnb, ← hnc] at K HB HC L HT ⊢
  have NB := Lib.hid hnb
  have NC := Lib.hid hnc
  have BND : Hid (1 ≤ nb ∧ nb ≤ 64 ∧ nc = nb + 1) := by have := HF.out.1.1; have := HF.out.1.2.1; have := HF.out.2.1; have := NB.out; have := NC.out; show _ ∧ _; omega
  clear hb hc hnb hnc
  have hwd := widF_in x
  have HWE : Hid (widF x = min (max x 0) 100) := rfl
  obtain ⟨wd, hwe⟩ : ∃ n, n = widF x := ⟨_, rfl⟩
  have HW := Lib.hid hwe
  rw [← hwe] at hwd
  have HWD := Lib.hid hwd
  clear hwe hwd
  go_enter Tryd.func15, Tryd.ntmps15
  go_wp2_with (fail)
  rw [← HWE.out, ← HW.out]
  generalize w.alloc (.cells #[.slice ab nb capb, .slice ac nc capc] 24) = W0 at *
  have a0 := hiO_0 K.out
  have a1 := hiO_1 K.out
  have hn65 : nc ≤ 65 := by have := BND.out; omega
  go_loop [5, 6] (fun mv i => ∃ (k : Nat) (m : Int), k ≤ nc ∧ 0 ≤ m ∧ m ≤ 1099511627776 ∧ i = .int .i64 (k : Int) ∧ mv = .int .i64 m ∧ Hid (m = mostF cs k)) (fun _ i => nc - (intOf i).toNat)
  case atStart => exact ⟨0, 0, Nat.zero_le _, by omega, by omega, rfl, rfl, rfl⟩
  case round =>
    obtain ⟨k, m, hk, hm0, hm1, rfl, rfl, HM⟩ := hrel
    by_cases hlt : k < nc
    · obtain ⟨c, hcc⟩ : ∃ c, c = cs.getD k 0 := ⟨_, rfl⟩
      obtain ⟨bc, oc, hac, e1⟩ : ∃ b off, ac = some ⟨b, off, none⟩ ∧ W0.cell? ⟨b, off + k, none⟩ = some (.int .i64 c) := by
        rcases HC.out.form with ⟨h0, -⟩ | ⟨hpos, b, off, cap', he, -, -, hb, hc2⟩
        · exfalso; rw [h0] at NC; have := NC.out; simp at this; omega
        · exact ⟨b, off, (Value.slice.inj he).1, by rw [hcc]; exact hc2 k (by have := NC.out; omega)⟩
      subst hac
      have hcin := HF.out.cnt k
      rw [← hcc] at hcin
      have HM2 : Hid (max m c = mostF cs (k + 1)) := by show _ = _; rw [HM.out, hcc]; rfl
      have hki : 0 ≤ (k : Int) ∧ (k : Int) < (nc : Int) := by omega
      clear hcc
      go_wp2
      go_round
      case rel => exact ⟨k + 1, max m c, by omega, by omega, by omega, by go_num, rfl, HM2⟩
      case measure => simp [intOf]; omega
    · have HMM : Hid (m = mostF cs cs.length) := by show _ = _; rw [HM.out, ← NC.out]; congr 1; omega
      have hmge : ∀ k, k < nc → cs.getD k 0 ≤ m := fun k hk => by rw [HMM.out]; exact mostF_ge cs k _ (by have := NC.out; omega)
      have HGE := Lib.hid hmge
      clear hmge HM
      have hkn : ¬ ((k : Int) < (nc : Int)) := by omega
      clear hlt hk
      go_wp2
      clear hkn
      go_loopw [7, 8] (fun sv i wr => ∃ (k : Nat) (s : List UInt8), k ≤ nc ∧ s.length ≤ 170 * k ∧ i = .int .i64 (k : Int) ∧ sv = .string ⟨s.toArray⟩ ∧ Hid (s = textN bs cs m wd k) ∧ Hid (Below W0.heap.size W0 wr)) (fun _ i _ => nc - (intOf i).toNat)
      case atStart => exact ⟨0, [], Nat.zero_le _, by simp, rfl, rfl, rfl, Below.refl _ _⟩
      case round =>
        obtain ⟨k, s, hk, hsl, rfl, rfl, HS, HBW⟩ := hrel
        by_cases hlt : k < nc
        · have HBr := Lib.hid (HB.out.kept HBW.out)
          have HCr := Lib.hid (HC.out.kept HBW.out)
          have HKr := Lib.hid (stays K.out HBW.out)
          have HTr := Lib.hid (HT.out.below HBW.out)
          have a0 := hiO_0 HKr.out
          have a1 := hiO_1 HKr.out
          have cb := rbucketR_any (.slice ab nb capb) (.slice ac nc capc) bs k wr HBr.out (by have := NB.out; have := BND.out; omega) (by have := NB.out; have := BND.out; omega)
          obtain ⟨b1, l1, b2, l2, hrg⟩ : ∃ b1 l1 b2 l2, rgK bs k = rgV b1 l1 b2 l2 := ⟨_, _, _, _, rfl⟩
          have HRG := Lib.hid hrg
          rw [hrg] at cb
          simp only [rgV] at cb
          clear hrg
          have hki : 0 ≤ (k : Int) ∧ (k : Int) < (nc : Int) := by omega
          go_wp2_with (fail)
          refine cb.mono ?_
          rintro e w3 ⟨rfl, hB3⟩
          have HB3 := Lib.hid (HBW.out.trans (hB3.mono HBW.out.size))
          replace HKr := Lib.hid (stays HKr.out hB3)
          replace HTr := Lib.hid (HTr.out.below hB3)
          clear a0 a1 cb hB3 HBr HCr
          obtain ⟨c, hcc⟩ : ∃ c, c = cs.getD k 0 := ⟨_, rfl⟩
          obtain ⟨bc, oc, hac, hbl, hcell⟩ : ∃ b off, ac = some ⟨b, off, none⟩ ∧ b < W0.heap.size ∧ W0.cell? ⟨b, off + k, none⟩ = some (.int .i64 c) := by
            rcases HC.out.form with ⟨h0, -⟩ | ⟨hpos, b, off, cap', he, -, -, hb, hc2⟩
            · exfalso; rw [h0] at NC; have := NC.out; simp at this; omega
            · exact ⟨b, off, (Value.slice.inj he).1, hb, by rw [hcc]; exact hc2 k (by have := NC.out; omega)⟩
          subst hac
          have hcin := HF.out.cnt k
          have hcm := HGE.out k hlt
          rw [← hcc] at hcin hcm
          have HCC := Lib.hid hcc
          have hc0 : 0 ≤ c := hcin.1
          have hc1 : c ≤ 1099511627776 := hcin.2
          have HIL := Lib.hid (Lib.itoa_length_le c (by omega) (by omega))
          clear hcc hcin
          obtain ⟨rb1, rl1, rb2, rl2⟩ := rgK_inv HRG.out
          have HL1 : Hid (-9223372036854775808 ≤ l1 ∧ l1 ≤ 9223372036854775807) := by show _ ∧ _; have := H64.out (k - 1); rw [rl1]; split <;> omega
          have HL2 : Hid (-9223372036854775808 ≤ l2 ∧ l2 ≤ 9223372036854775807) := by show _ ∧ _; have := H64.out k; rw [rl2]; split <;> omega
          obtain ⟨lo, hlo⟩ : ∃ l, l = lowF bs k := ⟨_, rfl⟩
          obtain ⟨hi, hhi⟩ : ∃ l, l = highF bs k := ⟨_, rfl⟩
          have h1l := lowF_length bs H64.out k
          have h2l := highF_length bs H64.out k
          rw [← hlo] at h1l
          rw [← hhi] at h2l
          have HLO := Lib.hid hlo
          have HHI := Lib.hid hhi
          have HLO2 : Hid (lo = if b1 then Lib.itoa l1 else [45]) := by
            show _ = _; rw [hlo, rb1, rl1]; unfold lowF; by_cases h : 0 < k <;> simp [h]
          have HHI2 : Hid (hi = if b2 then Lib.itoa l2 else [43]) := by
            show _ = _; rw [hhi, rb2, rl2]; unfold highF; by_cases h : k < bs.length <;> simp [h]
          clear hlo hhi rb1 rl1 rb2 rl2 HRG
          have g4 : Below w3.heap.size w3 (w3.alloc (.cells #[.bool b1, .int .i64 l1, .bool b2, .int .i64 l2] 28)) := bel_alloc (Below.refl _ _) (Nat.le_refl _)
          have HB4 := Lib.hid (HB3.out.trans (g4.mono HB3.out.size))
          have HK4 := Lib.hid (stays HKr.out g4)
          have HT4 := Lib.hid (HTr.out.below g4)
          have KG4 := Lib.hid (heap_alloc_new w3 (.cells #[.bool b1, .int .i64 l1, .bool b2, .int .i64 l2] 28))
          clear g4 HKr HTr HB3
          have a0 := hiO_0 HK4.out
          have a1 := hiO_1 HK4.out
          have hL1 := Lib.itoa_length_le l1 HL1.out.1 HL1.out.2
          have hL2 := Lib.itoa_length_le l2 HL2.out.1 HL2.out.2
          have hLc := HIL.out
          have hsl2 : s.length ≤ 11050 := by omega
          clear h1l h2l
          cases b1 <;> cases b2
          · -- 0 0
            have e1 := (HB4.out.cell (p := ⟨bc, oc + k, none⟩) hbl).trans hcell
            have cn := rnum_any c (by omega) (by omega) _ HT4.out
            go_wp2_with (fail)
            refine cn.mono ?_
            rintro e w7 ⟨rfl, hB7⟩
            have HB7 := Lib.hid (HB4.out.trans (hB7.mono HB4.out.size))
            have HK7 := Lib.hid (stays HK4.out hB7)
            have HT7 := Lib.hid (HT4.out.below hB7)
            have KG7 := Lib.hid (stays KG4.out hB7)
            clear cn hB7 a0 a1
            have a0 := hiO_0 HK7.out
            have a1 := hiO_1 HK7.out
            have HBE := HB7
            clear HK7 HT7 KG7
            have e1 := (HB7.out.cell (p := ⟨bc, oc + k, none⟩) hbl).trans hcell
            by_cases hm : 0 < m
            · have hmul0 : 0 ≤ c * wd := Int.mul_nonneg hc0 HWD.out.1
              have hmul1 : c * wd ≤ 1099511627776 * 100 := Int.mul_le_mul hc1 HWD.out.2 HWD.out.1 (by omega)
              have hb := barF_in m wd c hc0 hcm HWD.out.1 HWD.out.2
              have HBF : Hid (barF m wd c = c * wd / m) := by show _ = _; unfold barF; rw [if_pos hm]
              rw [HBF.out] at hb
              have w1' : IntKind.i64.wrap (c * wd) = c * wd := by rw [IntKind.wrap_i64]; omega
              have w2' : (c * wd).tdiv m = c * wd / m := Int.tdiv_eq_ediv_of_nonneg hmul0
              have hm0' : m ≠ 0 := by omega
              obtain ⟨nn, hnn⟩ : ∃ nn : Nat, c * wd / m = (nn : Int) := ⟨(c * wd / m).toNat, by omega⟩
              rw [hnn] at w2' hb HBF
              have w3' : IntKind.i64.wrap (nn : Int) = (nn : Int) := by rw [IntKind.wrap_i64]; omega
              have hn100 : nn ≤ 100 := by omega
              have HNN := Lib.hid hn100
              clear hb hnn hmul0 hmul1 hm1
              by_cases hn : 0 < nn
              · have HBL : Hid (barL (barF m wd c) = [32] ++ List.replicate nn 35) := by show _ = _; rw [HBF.out]; unfold barL; rw [if_pos (by omega)]; simp
                have hn' : 0 < (nn : Int) := by omega
                go_wp2
                go_loop [7, 13] (fun sv i => ∃ (j : Nat) (T : List UInt8), j ≤ nn ∧ T.length ≤ 12000 + j ∧ i = .int .i64 (j : Int) ∧ sv = .string ⟨T.toArray⟩ ∧ Hid (T = s ++ (headF lo hi (Lib.itoa c) ++ ([32] ++ List.replicate j 35)))) (fun _ i => nn - (intOf i).toNat)
                case atStart =>
                  refine ⟨0, s ++ (headF lo hi (Lib.itoa c) ++ ([32] ++ List.replicate 0 35)), Nat.zero_le _, ?_, rfl, ?_, rfl⟩
                  · have := headF_length lo hi (Lib.itoa c)
                    have h1l := lowF_length bs H64.out k
                    have h2l := highF_length bs H64.out k
                    rw [← HLO.out] at h1l
                    rw [← HHI.out] at h2l
                    simp only [List.length_append, List.length_cons, List.length_nil, List.length_replicate]
                    omega
                  · rw [HLO2.out, HHI2.out]
                    congr 1 <;> exact ByteArray.ext (by simp [ByteArray.data_append, headF])
                case round =>
                  obtain ⟨j, T, hj, hT, rfl, rfl, HT⟩ := hrel
                  by_cases hjn : j < nn
                  · have hjn2 : (j : Int) < (nn : Int) := by omega
                    go_wp2
                    go_round
                    case rel =>
                      refine ⟨j + 1, T ++ [35], by omega, by simp; omega, by go_num, ?_, ?_⟩
                      · congr 1 <;> exact ByteArray.ext (by simp [ByteArray.data_append])
                      · show _ = _
                        rw [HT.out]; simp [List.replicate_succ']
                    case measure => simp [intOf]; omega
                  · have hjn2 : ¬ ((j : Int) < (nn : Int)) := by omega
                    go_wp2
                    have HJN : Hid (j = nn) := by show _ = _; omega
                    go_roundw
                    case rel =>
                      refine ⟨k + 1, T ++ [10], by omega, ?_, by go_num, ?_, ?_, HBE⟩
                      · have := headF_length lo hi (Lib.itoa c)
                        have h1l := lowF_length bs H64.out k
                        have h2l := highF_length bs H64.out k
                        rw [← HLO.out] at h1l
                        rw [← HHI.out] at h2l
                        have h3l := HIL.out
                        have := HNN.out
                        have := HJN.out
                        rw [HT.out]
                        simp only [List.length_append, List.length_cons, List.length_nil, List.length_replicate]
                        omega
                      · congr 1 <;> exact ByteArray.ext (by simp [ByteArray.data_append])
                      · show _ = _
                        rw [HT.out, HS.out, textN, lineF, ← HCC.out, HLO.out, HHI.out, HJN.out, HBL.out]
                        simp
                    case measure => simp [intOf]; omega
              · have HBL : Hid (barL (barF m wd c) = [] ++ List.replicate nn 35) := by show _ = _; rw [HBF.out, show nn = 0 by omega]; rfl
                have hn' : ¬ (0 < (nn : Int)) := by omega
                go_wp2
                go_loop [7, 13] (fun sv i => ∃ (j : Nat) (T : List UInt8), j ≤ nn ∧ T.length ≤ 12000 + j ∧ i = .int .i64 (j : Int) ∧ sv = .string ⟨T.toArray⟩ ∧ Hid (T = s ++ (headF lo hi (Lib.itoa c) ++ ([] ++ List.replicate j 35)))) (fun _ i => nn - (intOf i).toNat)
                case atStart =>
                  refine ⟨0, s ++ (headF lo hi (Lib.itoa c) ++ ([] ++ List.replicate 0 35)), Nat.zero_le _, ?_, rfl, ?_, rfl⟩
                  · have := headF_length lo hi (Lib.itoa c)
                    have h1l := lowF_length bs H64.out k
                    have h2l := highF_length bs H64.out k
                    rw [← HLO.out] at h1l
                    rw [← HHI.out] at h2l
                    simp only [List.length_append, List.length_cons, List.length_nil, List.length_replicate]
                    omega
                  · rw [HLO2.out, HHI2.out]
                    congr 1 <;> exact ByteArray.ext (by simp [ByteArray.data_append, headF])
                case round =>
                  obtain ⟨j, T, hj, hT, rfl, rfl, HT⟩ := hrel
                  have hjn2 : ¬ ((j : Int) < (nn : Int)) := by omega
                  go_wp2
                  have HJN : Hid (j = nn) := by show _ = _; omega
                  go_roundw
                  case rel =>
                    refine ⟨k + 1, T ++ [10], by omega, ?_, by go_num, ?_, ?_, HBE⟩
                    · have := headF_length lo hi (Lib.itoa c)
                      have h1l := lowF_length bs H64.out k
                      have h2l := highF_length bs H64.out k
                      rw [← HLO.out] at h1l
                      rw [← HHI.out] at h2l
                      have h3l := HIL.out
                      have := HNN.out
                      have := HJN.out
                      rw [HT.out]
                      simp only [List.length_append, List.length_cons, List.length_nil, List.length_replicate]
                      omega
                    · congr 1 <;> exact ByteArray.ext (by simp [ByteArray.data_append])
                    · show _ = _
                      rw [HT.out, HS.out, textN, lineF, ← HCC.out, HLO.out, HHI.out, HJN.out, HBL.out]
                      simp
                  case measure => simp [intOf]; omega
            · have HBL : Hid (barL (barF m wd c) = [] ++ List.replicate 0 35) := by show _ = _; unfold barF; rw [if_neg hm]; rfl
              have HNN : Hid (0 ≤ 100) := by show _ ≤ _; omega
              go_wp2
              go_loop [7, 13] (fun sv i => ∃ (j : Nat) (T : List UInt8), j ≤ 0 ∧ T.length ≤ 12000 + j ∧ i = .int .i64 (j : Int) ∧ sv = .string ⟨T.toArray⟩ ∧ Hid (T = s ++ (headF lo hi (Lib.itoa c) ++ ([] ++ List.replicate j 35)))) (fun _ i => 0 - (intOf i).toNat)
              case atStart =>
                refine ⟨0, s ++ (headF lo hi (Lib.itoa c) ++ ([] ++ List.replicate 0 35)), Nat.zero_le _, ?_, rfl, ?_, rfl⟩
                · have := headF_length lo hi (Lib.itoa c)
                  have h1l := lowF_length bs H64.out k
                  have h2l := highF_length bs H64.out k
                  rw [← HLO.out] at h1l
                  rw [← HHI.out] at h2l
                  simp only [List.length_append, List.length_cons, List.length_nil, List.length_replicate]
                  omega
                · rw [HLO2.out, HHI2.out]
                  congr 1 <;> exact ByteArray.ext (by simp [ByteArray.data_append, headF])
              case round =>
                obtain ⟨j, T, hj, hT, rfl, rfl, HT⟩ := hrel
                have hjn2 : ¬ ((j : Int) < 0) := by omega
                go_wp2
                have HJN : Hid (j = 0) := by show _ = _; omega
                go_roundw
                case rel =>
                  refine ⟨k + 1, T ++ [10], by omega, ?_, by go_num, ?_, ?_, HBE⟩
                  · have := headF_length lo hi (Lib.itoa c)
                    have h1l := lowF_length bs H64.out k
                    have h2l := highF_length bs H64.out k
                    rw [← HLO.out] at h1l
                    rw [← HHI.out] at h2l
                    have h3l := HIL.out
                    have := HNN.out
                    have := HJN.out
                    rw [HT.out]
                    simp only [List.length_append, List.length_cons, List.length_nil, List.length_replicate]
                    omega
                  · congr 1 <;> exact ByteArray.ext (by simp [ByteArray.data_append])
                  · show _ = _
                    rw [HT.out, HS.out, textN, lineF, ← HCC.out, HLO.out, HHI.out, HJN.out, HBL.out]
                    simp
                case measure => simp [intOf]; omega
          · -- 0 1
            have cn := rnum_any l2 HL2.out.1 HL2.out.2 _ HT4.out
            go_wp2_with (fail)
            refine cn.mono ?_
            rintro e w6 ⟨rfl, hB6⟩
            have HB6 := Lib.hid (HB4.out.trans (hB6.mono HB4.out.size))
            have HK6 := Lib.hid (stays HK4.out hB6)
            have HT6 := Lib.hid (HT4.out.below hB6)
            have KG6 := Lib.hid (stays KG4.out hB6)
            clear cn hB6 a0 a1
            have a0 := hiO_0 HK6.out
            have a1 := hiO_1 HK6.out
            have e1 := (HB6.out.cell (p := ⟨bc, oc + k, none⟩) hbl).trans hcell
            have cn := rnum_any c (by omega) (by omega) _ HT6.out
            go_wp2_with (fail)
            refine cn.mono ?_
            rintro e w7 ⟨rfl, hB7⟩
            have HB7 := Lib.hid (HB6.out.trans (hB7.mono HB6.out.size))
            have HK7 := Lib.hid (stays HK6.out hB7)
            have HT7 := Lib.hid (HT6.out.below hB7)
            have KG7 := Lib.hid (stays KG6.out hB7)
            clear cn hB7 a0 a1
            have a0 := hiO_0 HK7.out
            have a1 := hiO_1 HK7.out
            have HBE := HB7
            clear HK7 HT7 KG7
            have e1 := (HB7.out.cell (p := ⟨bc, oc + k, none⟩) hbl).trans hcell
            by_cases hm : 0 < m
            · have hmul0 : 0 ≤ c * wd := Int.mul_nonneg hc0 HWD.out.1
              have hmul1 : c * wd ≤ 1099511627776 * 100 := Int.mul_le_mul hc1 HWD.out.2 HWD.out.1 (by omega)
              have hb := barF_in m wd c hc0 hcm HWD.out.1 HWD.out.2
              have HBF : Hid (barF m wd c = c * wd / m) := by show _ = _; unfold barF; rw [if_pos hm]
              rw [HBF.out] at hb
              have w1' : IntKind.i64.wrap (c * wd) = c * wd := by rw [IntKind.wrap_i64]; omega
              have w2' : (c * wd).tdiv m = c * wd / m := Int.tdiv_eq_ediv_of_nonneg hmul0
              have hm0' : m ≠ 0 := by omega
              obtain ⟨nn, hnn⟩ : ∃ nn : Nat, c * wd / m = (nn : Int) := ⟨(c * wd / m).toNat, by omega⟩
              rw [hnn] at w2' hb HBF
              have w3' : IntKind.i64.wrap (nn : Int) = (nn : Int) := by rw [IntKind.wrap_i64]; omega
              have hn100 : nn ≤ 100 := by omega
              have HNN := Lib.hid hn100
              clear hb hnn hmul0 hmul1 hm1
              by_cases hn : 0 < nn
              · have HBL : Hid (barL (barF m wd c) = [32] ++ List.replicate nn 35) := by show _ = _; rw [HBF.out]; unfold barL; rw [if_pos (by omega)]; simp
                have hn' : 0 < (nn : Int) := by omega
                go_wp2
                go_loop [7, 13] (fun sv i => ∃ (j : Nat) (T : List UInt8), j ≤ nn ∧ T.length ≤ 12000 + j ∧ i = .int .i64 (j : Int) ∧ sv = .string ⟨T.toArray⟩ ∧ Hid (T = s ++ (headF lo hi (Lib.itoa c) ++ ([32] ++ List.replicate j 35)))) (fun _ i => nn - (intOf i).toNat)
                case atStart =>
                  refine ⟨0, s ++ (headF lo hi (Lib.itoa c) ++ ([32] ++ List.replicate 0 35)), Nat.zero_le _, ?_, rfl, ?_, rfl⟩
                  · have := headF_length lo hi (Lib.itoa c)
                    have h1l := lowF_length bs H64.out k
                    have h2l := highF_length bs H64.out k
                    rw [← HLO.out] at h1l
                    rw [← HHI.out] at h2l
                    simp only [List.length_append, List.length_cons, List.length_nil, List.length_replicate]
                    omega
                  · rw [HLO2.out, HHI2.out]
                    congr 1 <;> exact ByteArray.ext (by simp [ByteArray.data_append, headF])
                case round =>
                  obtain ⟨j, T, hj, hT, rfl, rfl, HT⟩ := hrel
                  by_cases hjn : j < nn
                  · have hjn2 : (j : Int) < (nn : Int) := by omega
                    go_wp2
                    go_round
                    case rel =>
                      refine ⟨j + 1, T ++ [35], by omega, by simp; omega, by go_num, ?_, ?_⟩
                      · congr 1 <;> exact ByteArray.ext (by simp [ByteArray.data_append])
                      · show _ = _
                        rw [HT.out]; simp [List.replicate_succ']
                    case measure => simp [intOf]; omega
                  · have hjn2 : ¬ ((j : Int) < (nn : Int)) := by omega
                    go_wp2
                    have HJN : Hid (j = nn) := by show _ = _; omega
                    go_roundw
                    case rel =>
                      refine ⟨k + 1, T ++ [10], by omega, ?_, by go_num, ?_, ?_, HBE⟩
                      · have := headF_length lo hi (Lib.itoa c)
                        have h1l := lowF_length bs H64.out k
                        have h2l := highF_length bs H64.out k
                        rw [← HLO.out] at h1l
                        rw [← HHI.out] at h2l
                        have h3l := HIL.out
                        have := HNN.out
                        have := HJN.out
                        rw [HT.out]
                        simp only [List.length_append, List.length_cons, List.length_nil, List.length_replicate]
                        omega
                      · congr 1 <;> exact ByteArray.ext (by simp [ByteArray.data_append])
                      · show _ = _
                        rw [HT.out, HS.out, textN, lineF, ← HCC.out, HLO.out, HHI.out, HJN.out, HBL.out]
                        simp
                    case measure => simp [intOf]; omega
              · have HBL : Hid (barL (barF m wd c) = [] ++ List.replicate nn 35) := by show _ = _; rw [HBF.out, show nn = 0 by omega]; rfl
                have hn' : ¬ (0 < (nn : Int)) := by omega
                go_wp2
                go_loop [7, 13] (fun sv i => ∃ (j : Nat) (T : List UInt8), j ≤ nn ∧ T.length ≤ 12000 + j ∧ i = .int .i64 (j : Int) ∧ sv = .string ⟨T.toArray⟩ ∧ Hid (T = s ++ (headF lo hi (Lib.itoa c) ++ ([] ++ List.replicate j 35)))) (fun _ i => nn - (intOf i).toNat)
                case atStart =>
                  refine ⟨0, s ++ (headF lo hi (Lib.itoa c) ++ ([] ++ List.replicate 0 35)), Nat.zero_le _, ?_, rfl, ?_, rfl⟩
                  · have := headF_length lo hi (Lib.itoa c)
                    have h1l := lowF_length bs H64.out k
                    have h2l := highF_length bs H64.out k
                    rw [← HLO.out] at h1l
                    rw [← HHI.out] at h2l
                    simp only [List.length_append, List.length_cons, List.length_nil, List.length_replicate]
                    omega
                  · rw [HLO2.out, HHI2.out]
                    congr 1 <;> exact ByteArray.ext (by simp [ByteArray.data_append, headF])
                case round =>
                  obtain ⟨j, T, hj, hT, rfl, rfl, HT⟩ := hrel
                  have hjn2 : ¬ ((j : Int) < (nn : Int)) := by omega
                  go_wp2
                  have HJN : Hid (j = nn) := by show _ = _; omega
                  go_roundw
                  case rel =>
                    refine ⟨k + 1, T ++ [10], by omega, ?_, by go_num, ?_, ?_, HBE⟩
                    · have := headF_length lo hi (Lib.itoa c)
                      have h1l := lowF_length bs H64.out k
                      have h2l := highF_length bs H64.out k
                      rw [← HLO.out] at h1l
                      rw [← HHI.out] at h2l
                      have h3l := HIL.out
                      have := HNN.out
                      have := HJN.out
                      rw [HT.out]
                      simp only [List.length_append, List.length_cons, List.length_nil, List.length_replicate]
                      omega
                    · congr 1 <;> exact ByteArray.ext (by simp [ByteArray.data_append])
                    · show _ = _
                      rw [HT.out, HS.out, textN, lineF, ← HCC.out, HLO.out, HHI.out, HJN.out, HBL.out]
                      simp
                  case measure => simp [intOf]; omega
            · have HBL : Hid (barL (barF m wd c) = [] ++ List.replicate 0 35) := by show _ = _; unfold barF; rw [if_neg hm]; rfl
              have HNN : Hid (0 ≤ 100) := by show _ ≤ _; omega
              go_wp2
              go_loop [7, 13] (fun sv i => ∃ (j : Nat) (T : List UInt8), j ≤ 0 ∧ T.length ≤ 12000 + j ∧ i = .int .i64 (j : Int) ∧ sv = .string ⟨T.toArray⟩ ∧ Hid (T = s ++ (headF lo hi (Lib.itoa c) ++ ([] ++ List.replicate j 35)))) (fun _ i => 0 - (intOf i).toNat)
              case atStart =>
                refine ⟨0, s ++ (headF lo hi (Lib.itoa c) ++ ([] ++ List.replicate 0 35)), Nat.zero_le _, ?_, rfl, ?_, rfl⟩
                · have := headF_length lo hi (Lib.itoa c)
                  have h1l := lowF_length bs H64.out k
                  have h2l := highF_length bs H64.out k
                  rw [← HLO.out] at h1l
                  rw [← HHI.out] at h2l
                  simp only [List.length_append, List.length_cons, List.length_nil, List.length_replicate]
                  omega
                · rw [HLO2.out, HHI2.out]
                  congr 1 <;> exact ByteArray.ext (by simp [ByteArray.data_append, headF])
              case round =>
                obtain ⟨j, T, hj, hT, rfl, rfl, HT⟩ := hrel
                have hjn2 : ¬ ((j : Int) < 0) := by omega
                go_wp2
                have HJN : Hid (j = 0) := by show _ = _; omega
                go_roundw
                case rel =>
                  refine ⟨k + 1, T ++ [10], by omega, ?_, by go_num, ?_, ?_, HBE⟩
                  · have := headF_length lo hi (Lib.itoa c)
                    have h1l := lowF_length bs H64.out k
                    have h2l := highF_length bs H64.out k
                    rw [← HLO.out] at h1l
                    rw [← HHI.out] at h2l
                    have h3l := HIL.out
                    have := HNN.out
                    have := HJN.out
                    rw [HT.out]
                    simp only [List.length_append, List.length_cons, List.length_nil, List.length_replicate]
                    omega
                  · congr 1 <;> exact ByteArray.ext (by simp [ByteArray.data_append])
                  · show _ = _
                    rw [HT.out, HS.out, textN, lineF, ← HCC.out, HLO.out, HHI.out, HJN.out, HBL.out]
                    simp
                case measure => simp [intOf]; omega
          · -- 1 0
            have cn := rnum_any l1 HL1.out.1 HL1.out.2 _ HT4.out
            go_wp2_with (fail)
            refine cn.mono ?_
            rintro e w5 ⟨rfl, hB5⟩
            have HB5 := Lib.hid (HB4.out.trans (hB5.mono HB4.out.size))
            have HK5 := Lib.hid (stays HK4.out hB5)
            have HT5 := Lib.hid (HT4.out.below hB5)
            have KG5 := Lib.hid (stays KG4.out hB5)
            clear cn hB5 a0 a1
            have a0 := hiO_0 HK5.out
            have a1 := hiO_1 HK5.out
            have q2 := cell_of_row _ _ 2 _ _ _ KG5.out
            have e1 := (HB5.out.cell (p := ⟨bc, oc + k, none⟩) hbl).trans hcell
            have cn := rnum_any c (by omega) (by omega) _ HT5.out
            go_wp2_with (fail)
            refine cn.mono ?_
            rintro e w7 ⟨rfl, hB7⟩
            have HB7 := Lib.hid (HB5.out.trans (hB7.mono HB5.out.size))
            have HK7 := Lib.hid (stays HK5.out hB7)
            have HT7 := Lib.hid (HT5.out.below hB7)
            have KG7 := Lib.hid (stays KG5.out hB7)
            clear cn hB7 a0 a1
            have a0 := hiO_0 HK7.out
            have a1 := hiO_1 HK7.out
            have HBE := HB7
            clear HK7 HT7 KG7
            have e1 := (HB7.out.cell (p := ⟨bc, oc + k, none⟩) hbl).trans hcell
            by_cases hm : 0 < m
            · have hmul0 : 0 ≤ c * wd := Int.mul_nonneg hc0 HWD.out.1
              have hmul1 : c * wd ≤ 1099511627776 * 100 := Int.mul_le_mul hc1 HWD.out.2 HWD.out.1 (by omega)
              have hb := barF_in m wd c hc0 hcm HWD.out.1 HWD.out.2
              have HBF : Hid (barF m wd c = c * wd / m) := by show _ = _; unfold barF; rw [if_pos hm]
              rw [HBF.out] at hb
              have w1' : IntKind.i64.wrap (c * wd) = c * wd := by rw [IntKind.wrap_i64]; omega
              have w2' : (c * wd).tdiv m = c * wd / m := Int.tdiv_eq_ediv_of_nonneg hmul0
              have hm0' : m ≠ 0 := by omega
              obtain ⟨nn, hnn⟩ : ∃ nn : Nat, c * wd / m = (nn : Int) := ⟨(c * wd / m).toNat, by omega⟩
              rw [hnn] at w2' hb HBF
              have w3' : IntKind.i64.wrap (nn : Int) = (nn : Int) := by rw [IntKind.wrap_i64]; omega
              have hn100 : nn ≤ 100 := by omega
              have HNN := Lib.hid hn100
              clear hb hnn hmul0 hmul1 hm1
              by_cases hn : 0 < nn
              · have HBL : Hid (barL (barF m wd c) = [32] ++ List.replicate nn 35) := by show _ = _; rw [HBF.out]; unfold barL; rw [if_pos (by omega)]; simp
                have hn' : 0 < (nn : Int) := by omega
                go_wp2
                go_loop [7, 13] (fun sv i => ∃ (j : Nat) (T : List UInt8), j ≤ nn ∧ T.length ≤ 12000 + j ∧ i = .int .i64 (j : Int) ∧ sv = .string ⟨T.toArray⟩ ∧ Hid (T = s ++ (headF lo hi (Lib.itoa c) ++ ([32] ++ List.replicate j 35)))) (fun _ i => nn - (intOf i).toNat)
                case atStart =>
                  refine ⟨0, s ++ (headF lo hi (Lib.itoa c) ++ ([32] ++ List.replicate 0 35)), Nat.zero_le _, ?_, rfl, ?_, rfl⟩
                  · have := headF_length lo hi (Lib.itoa c)
                    have h1l := lowF_length bs H64.out k
                    have h2l := highF_length bs H64.out k
                    rw [← HLO.out] at h1l
                    rw [← HHI.out] at h2l
                    simp only [List.length_append, List.length_cons, List.length_nil, List.length_replicate]
                    omega
                  · rw [HLO2.out, HHI2.out]
                    congr 1 <;> exact ByteArray.ext (by simp [ByteArray.data_append, headF])
                case round =>
                  obtain ⟨j, T, hj, hT, rfl, rfl, HT⟩ := hrel
                  by_cases hjn : j < nn
                  · have hjn2 : (j : Int) < (nn : Int) := by omega
                    go_wp2
                    go_round
                    case rel =>
                      refine ⟨j + 1, T ++ [35], by omega, by simp; omega, by go_num, ?_, ?_⟩
                      · congr 1 <;> exact ByteArray.ext (by simp [ByteArray.data_append])
                      · show _ = _
                        rw [HT.out]; simp [List.replicate_succ']
                    case measure => simp [intOf]; omega
                  · have hjn2 : ¬ ((j : Int) < (nn : Int)) := by omega
                    go_wp2
                    have HJN : Hid (j = nn) := by show _ = _; omega
                    go_roundw
                    case rel =>
                      refine ⟨k + 1, T ++ [10], by omega, ?_, by go_num, ?_, ?_, HBE⟩
                      · have := headF_length lo hi (Lib.itoa c)
                        have h1l := lowF_length bs H64.out k
                        have h2l := highF_length bs H64.out k
                        rw [← HLO.out] at h1l
                        rw [← HHI.out] at h2l
                        have h3l := HIL.out
                        have := HNN.out
                        have := HJN.out
                        rw [HT.out]
                        simp only [List.length_append, List.length_cons, List.length_nil, List.length_replicate]
                        omega
                      · congr 1 <;> exact ByteArray.ext (by simp [ByteArray.data_append])
                      · show _ = _
                        rw [HT.out, HS.out, textN, lineF, ← HCC.out, HLO.out, HHI.out, HJN.out, HBL.out]
                        simp
                    case measure => simp [intOf]; omega
              · have HBL : Hid (barL (barF m wd c) = [] ++ List.replicate nn 35) := by show _ = _; rw [HBF.out, show nn = 0 by omega]; rfl
                have hn' : ¬ (0 < (nn : Int)) := by omega
                go_wp2
                go_loop [7, 13] (fun sv i => ∃ (j : Nat) (T : List UInt8), j ≤ nn ∧ T.length ≤ 12000 + j ∧ i = .int .i64 (j : Int) ∧ sv = .string ⟨T.toArray⟩ ∧ Hid (T = s ++ (headF lo hi (Lib.itoa c) ++ ([] ++ List.replicate j 35)))) (fun _ i => nn - (intOf i).toNat)
                case atStart =>
                  refine ⟨0, s ++ (headF lo hi (Lib.itoa c) ++ ([] ++ List.replicate 0 35)), Nat.zero_le _, ?_, rfl, ?_, rfl⟩
                  · have := headF_length lo hi (Lib.itoa c)
                    have h1l := lowF_length bs H64.out k
                    have h2l := highF_length bs H64.out k
                    rw [← HLO.out] at h1l
                    rw [← HHI.out] at h2l
                    simp only [List.length_append, List.length_cons, List.length_nil, List.length_replicate]
                    omega
                  · rw [HLO2.out, HHI2.out]
                    congr 1 <;> exact ByteArray.ext (by simp [ByteArray.data_append, headF])
                case round =>
                  obtain ⟨j, T, hj, hT, rfl, rfl, HT⟩ := hrel
                  have hjn2 : ¬ ((j : Int) < (nn : Int)) := by omega
                  go_wp2
                  have HJN : Hid (j = nn) := by show _ = _; omega
                  go_roundw
                  case rel =>
                    refine ⟨k + 1, T ++ [10], by omega, ?_, by go_num, ?_, ?_, HBE⟩
                    · have := headF_length lo hi (Lib.itoa c)
                      have h1l := lowF_length bs H64.out k
                      have h2l := highF_length bs H64.out k
                      rw [← HLO.out] at h1l
                      rw [← HHI.out] at h2l
                      have h3l := HIL.out
                      have := HNN.out
                      have := HJN.out
                      rw [HT.out]
                      simp only [List.length_append, List.length_cons, List.length_nil, List.length_replicate]
                      omega
                    · congr 1 <;> exact ByteArray.ext (by simp [ByteArray.data_append])
                    · show _ = _
                      rw [HT.out, HS.out, textN, lineF, ← HCC.out, HLO.out, HHI.out, HJN.out, HBL.out]
                      simp
                  case measure => simp [intOf]; omega
            · have HBL : Hid (barL (barF m wd c) = [] ++ List.replicate 0 35) := by show _ = _; unfold barF; rw [if_neg hm]; rfl
              have HNN : Hid (0 ≤ 100) := by show _ ≤ _; omega
              go_wp2
              go_loop [7, 13] (fun sv i => ∃ (j : Nat) (T : List UInt8), j ≤ 0 ∧ T.length ≤ 12000 + j ∧ i = .int .i64 (j : Int) ∧ sv = .string ⟨T.toArray⟩ ∧ Hid (T = s ++ (headF lo hi (Lib.itoa c) ++ ([] ++ List.replicate j 35)))) (fun _ i => 0 - (intOf i).toNat)
              case atStart =>
                refine ⟨0, s ++ (headF lo hi (Lib.itoa c) ++ ([] ++ List.replicate 0 35)), Nat.zero_le _, ?_, rfl, ?_, rfl⟩
                · have := headF_length lo hi (Lib.itoa c)
                  have h1l := lowF_length bs H64.out k
                  have h2l := highF_length bs H64.out k
                  rw [← HLO.out] at h1l
                  rw [← HHI.out] at h2l
                  simp only [List.length_append, List.length_cons, List.length_nil, List.length_replicate]
                  omega
                · rw [HLO2.out, HHI2.out]
                  congr 1 <;> exact ByteArray.ext (by simp [ByteArray.data_append, headF])
              case round =>
                obtain ⟨j, T, hj, hT, rfl, rfl, HT⟩ := hrel
                have hjn2 : ¬ ((j : Int) < 0) := by omega
                go_wp2
                have HJN : Hid (j = 0) := by show _ = _; omega
                go_roundw
                case rel =>
                  refine ⟨k + 1, T ++ [10], by omega, ?_, by go_num, ?_, ?_, HBE⟩
                  · have := headF_length lo hi (Lib.itoa c)
                    have h1l := lowF_length bs H64.out k
                    have h2l := highF_length bs H64.out k
                    rw [← HLO.out] at h1l
                    rw [← HHI.out] at h2l
                    have h3l := HIL.out
                    have := HNN.out
                    have := HJN.out
                    rw [HT.out]
                    simp only [List.length_append, List.length_cons, List.length_nil, List.length_replicate]
                    omega
                  · congr 1 <;> exact ByteArray.ext (by simp [ByteArray.data_append])
                  · show _ = _
                    rw [HT.out, HS.out, textN, lineF, ← HCC.out, HLO.out, HHI.out, HJN.out, HBL.out]
                    simp
                case measure => simp [intOf]; omega
          · -- 1 1
            have cn := rnum_any l1 HL1.out.1 HL1.out.2 _ HT4.out
            go_wp2_with (fail)
            refine cn.mono ?_
            rintro e w5 ⟨rfl, hB5⟩
            have HB5 := Lib.hid (HB4.out.trans (hB5.mono HB4.out.size))
            have HK5 := Lib.hid (stays HK4.out hB5)
            have HT5 := Lib.hid (HT4.out.below hB5)
            have KG5 := Lib.hid (stays KG4.out hB5)
            clear cn hB5 a0 a1
            have a0 := hiO_0 HK5.out
            have a1 := hiO_1 HK5.out
            have q2 := cell_of_row _ _ 2 _ _ _ KG5.out
            have q3 := cell_of_row _ _ 3 _ _ _ KG5.out
            have cn := rnum_any l2 HL2.out.1 HL2.out.2 _ HT5.out
            go_wp2_with (fail)
            refine cn.mono ?_
            rintro e w6 ⟨rfl, hB6⟩
            have HB6 := Lib.hid (HB5.out.trans (hB6.mono HB5.out.size))
            have HK6 := Lib.hid (stays HK5.out hB6)
            have HT6 := Lib.hid (HT5.out.below hB6)
            have KG6 := Lib.hid (stays KG5.out hB6)
            clear cn hB6 a0 a1
            have a0 := hiO_0 HK6.out
            have a1 := hiO_1 HK6.out
            have e1 := (HB6.out.cell (p := ⟨bc, oc + k, none⟩) hbl).trans hcell
            have cn := rnum_any c (by omega) (by omega) _ HT6.out
            go_wp2_with (fail)
            refine cn.mono ?_
            rintro e w7 ⟨rfl, hB7⟩
            have HB7 := Lib.hid (HB6.out.trans (hB7.mono HB6.out.size))
            have HK7 := Lib.hid (stays HK6.out hB7)
            have HT7 := Lib.hid (HT6.out.below hB7)
            have KG7 := Lib.hid (stays KG6.out hB7)
            clear cn hB7 a0 a1
            have a0 := hiO_0 HK7.out
            have a1 := hiO_1 HK7.out
            have HBE := HB7
            clear HK7 HT7 KG7
            have e1 := (HB7.out.cell (p := ⟨bc, oc + k, none⟩) hbl).trans hcell
            by_cases hm : 0 < m
            · have hmul0 : 0 ≤ c * wd := Int.mul_nonneg hc0 HWD.out.1
              have hmul1 : c * wd ≤ 1099511627776 * 100 := Int.mul_le_mul hc1 HWD.out.2 HWD.out.1 (by omega)
              have hb := barF_in m wd c hc0 hcm HWD.out.1 HWD.out.2
              have HBF : Hid (barF m wd c = c * wd / m) := by show _ = _; unfold barF; rw [if_pos hm]
              rw [HBF.out] at hb
              have w1' : IntKind.i64.wrap (c * wd) = c * wd := by rw [IntKind.wrap_i64]; omega
              have w2' : (c * wd).tdiv m = c * wd / m := Int.tdiv_eq_ediv_of_nonneg hmul0
              have hm0' : m ≠ 0 := by omega
              obtain ⟨nn, hnn⟩ : ∃ nn : Nat, c * wd / m = (nn : Int) := ⟨(c * wd / m).toNat, by omega⟩
              rw [hnn] at w2' hb HBF
              have w3' : IntKind.i64.wrap (nn : Int) = (nn : Int) := by rw [IntKind.wrap_i64]; omega
              have hn100 : nn ≤ 100 := by omega
              have HNN := Lib.hid hn100
              clear hb hnn hmul0 hmul1 hm1
              by_cases hn : 0 < nn
              · have HBL : Hid (barL (barF m wd c) = [32] ++ List.replicate nn 35) := by show _ = _; rw [HBF.out]; unfold barL; rw [if_pos (by omega)]; simp
                have hn' : 0 < (nn : Int) := by omega
                go_wp2
                go_loop [7, 13] (fun sv i => ∃ (j : Nat) (T : List UInt8), j ≤ nn ∧ T.length ≤ 12000 + j ∧ i = .int .i64 (j : Int) ∧ sv = .string ⟨T.toArray⟩ ∧ Hid (T = s ++ (headF lo hi (Lib.itoa c) ++ ([32] ++ List.replicate j 35)))) (fun _ i => nn - (intOf i).toNat)
                case atStart =>
                  refine ⟨0, s ++ (headF lo hi (Lib.itoa c) ++ ([32] ++ List.replicate 0 35)), Nat.zero_le _, ?_, rfl, ?_, rfl⟩
                  · have := headF_length lo hi (Lib.itoa c)
                    have h1l := lowF_length bs H64.out k
                    have h2l := highF_length bs H64.out k
                    rw [← HLO.out] at h1l
                    rw [← HHI.out] at h2l
                    simp only [List.length_append, List.length_cons, List.length_nil, List.length_replicate]
                    omega
                  · rw [HLO2.out, HHI2.out]
                    congr 1 <;> exact ByteArray.ext (by simp [ByteArray.data_append, headF])
                case round =>
                  obtain ⟨j, T, hj, hT, rfl, rfl, HT⟩ := hrel
                  by_cases hjn : j < nn
                  · have hjn2 : (j : Int) < (nn : Int) := by omega
                    go_wp2
                    go_round
                    case rel =>
                      refine ⟨j + 1, T ++ [35], by omega, by simp; omega, by go_num, ?_, ?_⟩
                      · congr 1 <;> exact ByteArray.ext (by simp [ByteArray.data_append])
                      · show _ = _
                        rw [HT.out]; simp [List.replicate_succ']
                    case measure => simp [intOf]; omega
                  · have hjn2 : ¬ ((j : Int) < (nn : Int)) := by omega
                    go_wp2
                    have HJN : Hid (j = nn) := by show _ = _; omega
                    go_roundw
                    case rel =>
                      refine ⟨k + 1, T ++ [10], by omega, ?_, by go_num, ?_, ?_, HBE⟩
                      · have := headF_length lo hi (Lib.itoa c)
                        have h1l := lowF_length bs H64.out k
                        have h2l := highF_length bs H64.out k
                        rw [← HLO.out] at h1l
                        rw [← HHI.out] at h2l
                        have h3l := HIL.out
                        have := HNN.out
                        have := HJN.out
                        rw [HT.out]
                        simp only [List.length_append, List.length_cons, List.length_nil, List.length_replicate]
                        omega
                      · congr 1 <;> exact ByteArray.ext (by simp [ByteArray.data_append])
                      · show _ = _
                        rw [HT.out, HS.out, textN, lineF, ← HCC.out, HLO.out, HHI.out, HJN.out, HBL.out]
                        simp
                    case measure => simp [intOf]; omega
              · have HBL : Hid (barL (barF m wd c) = [] ++ List.replicate nn 35) := by show _ = _; rw [HBF.out, show nn = 0 by omega]; rfl
                have hn' : ¬ (0 < (nn : Int)) := by omega
                go_wp2
                go_loop [7, 13] (fun sv i => ∃ (j : Nat) (T : List UInt8), j ≤ nn ∧ T.length ≤ 12000 + j ∧ i = .int .i64 (j : Int) ∧ sv = .string ⟨T.toArray⟩ ∧ Hid (T = s ++ (headF lo hi (Lib.itoa c) ++ ([] ++ List.replicate j 35)))) (fun _ i => nn - (intOf i).toNat)
                case atStart =>
                  refine ⟨0, s ++ (headF lo hi (Lib.itoa c) ++ ([] ++ List.replicate 0 35)), Nat.zero_le _, ?_, rfl, ?_, rfl⟩
                  · have := headF_length lo hi (Lib.itoa c)
                    have h1l := lowF_length bs H64.out k
                    have h2l := highF_length bs H64.out k
                    rw [← HLO.out] at h1l
                    rw [← HHI.out] at h2l
                    simp only [List.length_append, List.length_cons, List.length_nil, List.length_replicate]
                    omega
                  · rw [HLO2.out, HHI2.out]
                    congr 1 <;> exact ByteArray.ext (by simp [ByteArray.data_append, headF])
                case round =>
                  obtain ⟨j, T, hj, hT, rfl, rfl, HT⟩ := hrel
                  have hjn2 : ¬ ((j : Int) < (nn : Int)) := by omega
                  go_wp2
                  have HJN : Hid (j = nn) := by show _ = _; omega
                  go_roundw
                  case rel =>
                    refine ⟨k + 1, T ++ [10], by omega, ?_, by go_num, ?_, ?_, HBE⟩
                    · have := headF_length lo hi (Lib.itoa c)
                      have h1l := lowF_length bs H64.out k
                      have h2l := highF_length bs H64.out k
                      rw [← HLO.out] at h1l
                      rw [← HHI.out] at h2l
                      have h3l := HIL.out
                      have := HNN.out
                      have := HJN.out
                      rw [HT.out]
                      simp only [List.length_append, List.length_cons, List.length_nil, List.length_replicate]
                      omega
                    · congr 1 <;> exact ByteArray.ext (by simp [ByteArray.data_append])
                    · show _ = _
                      rw [HT.out, HS.out, textN, lineF, ← HCC.out, HLO.out, HHI.out, HJN.out, HBL.out]
                      simp
                  case measure => simp [intOf]; omega
            · have HBL : Hid (barL (barF m wd c) = [] ++ List.replicate 0 35) := by show _ = _; unfold barF; rw [if_neg hm]; rfl
              have HNN : Hid (0 ≤ 100) := by show _ ≤ _; omega
              go_wp2
              go_loop [7, 13] (fun sv i => ∃ (j : Nat) (T : List UInt8), j ≤ 0 ∧ T.length ≤ 12000 + j ∧ i = .int .i64 (j : Int) ∧ sv = .string ⟨T.toArray⟩ ∧ Hid (T = s ++ (headF lo hi (Lib.itoa c) ++ ([] ++ List.replicate j 35)))) (fun _ i => 0 - (intOf i).toNat)
              case atStart =>
                refine ⟨0, s ++ (headF lo hi (Lib.itoa c) ++ ([] ++ List.replicate 0 35)), Nat.zero_le _, ?_, rfl, ?_, rfl⟩
                · have := headF_length lo hi (Lib.itoa c)
                  have h1l := lowF_length bs H64.out k
                  have h2l := highF_length bs H64.out k
                  rw [← HLO.out] at h1l
                  rw [← HHI.out] at h2l
                  simp only [List.length_append, List.length_cons, List.length_nil, List.length_replicate]
                  omega
                · rw [HLO2.out, HHI2.out]
                  congr 1 <;> exact ByteArray.ext (by simp [ByteArray.data_append, headF])
              case round =>
                obtain ⟨j, T, hj, hT, rfl, rfl, HT⟩ := hrel
                have hjn2 : ¬ ((j : Int) < 0) := by omega
                go_wp2
                have HJN : Hid (j = 0) := by show _ = _; omega
                go_roundw
                case rel =>
                  refine ⟨k + 1, T ++ [10], by omega, ?_, by go_num, ?_, ?_, HBE⟩
                  · have := headF_length lo hi (Lib.itoa c)
                    have h1l := lowF_length bs H64.out k
                    have h2l := highF_length bs H64.out k
                    rw [← HLO.out] at h1l
                    rw [← HHI.out] at h2l
                    have h3l := HIL.out
                    have := HNN.out
                    have := HJN.out
                    rw [HT.out]
                    simp only [List.length_append, List.length_cons, List.length_nil, List.length_replicate]
                    omega
                  · congr 1 <;> exact ByteArray.ext (by simp [ByteArray.data_append])
                  · show _ = _
                    rw [HT.out, HS.out, textN, lineF, ← HCC.out, HLO.out, HHI.out, HJN.out, HBL.out]
                    simp
                case measure => simp [intOf]; omega
        · have HEND : Hid (s = textF bs cs x) := by
            show _ = _
            rw [HS.out, HMM.out, HW.out, show k = cs.length by rw [← NC.out]; omega]
            rfl
          have HBr := Lib.hid (stays K.out HBW.out)
          have a0 := hiO_0 HBr.out
          have a1 := hiO_1 HBr.out
          have hki : ¬ ((k : Int) < (nc : Int)) := by omega
          go_wp2
          go_ret
          rw [← HEND.out]
          exact ⟨rfl, L.out.trans (HBW.out.mono L.out.size)⟩

end Go.Proofs.YtghgnalbahneoaaDoor
