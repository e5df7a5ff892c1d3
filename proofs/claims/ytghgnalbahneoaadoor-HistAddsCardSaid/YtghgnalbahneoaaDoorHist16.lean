/- Histograms: the document's Quantile, walked. -/
import Derived.Test.YtghgnalbahneoaaDoorHist15
namespace Go.Proofs.YtghgnalbahneoaaDoor
open Go.RowKit

set_option maxRecDepth 100000 in
set_option maxHeartbeats 1000000 in
theorem rquant_any (vb vc : Value) (bs cs : List Int) (num den : Int) (w : World) (hb : Its w w.heap.size vb bs) (hc : Its w w.heap.size vc cs) (hfit : FitH bs cs) : Calls Tryd.prog 11 #[hiV vb vc, .int .i64 num, .int .i64 den] w fun e w' => QuantR bs cs num den 50 e ∧ Below w.heap.size w w' := by
  obtain ⟨g0, k0⟩ := hist_new w vb vc
  have L : Hid (Below w.heap.size w ((w.alloc (.cells #[vb, vc] 24)).alloc (.cells #[.bool false, .int .i64 0, .bool false, .int .i64 0] 28))) := bel_alloc g0 g0.size
  have g1 : Below (w.alloc (.cells #[vb, vc] 24)).heap.size (w.alloc (.cells #[vb, vc] 24)) ((w.alloc (.cells #[vb, vc] 24)).alloc (.cells #[.bool false, .int .i64 0, .bool false, .int .i64 0] 28)) := bel_alloc (Below.refl _ _) (Nat.le_refl _)
  have K := Lib.hid (stays k0 g1)
  have HB := Lib.hid ((hb.kept g0).kept g1)
  have HC := Lib.hid ((hc.kept g0).kept g1)
  have HF := Lib.hid hfit
  clear g0 g1 k0 hfit
  obtain ⟨ab, capb, hvb, -⟩ := hb.slice
  obtain ⟨ac, capc, hvc, -⟩ := hc.slice
  subst hvb hvc
  obtain ⟨nb, hnb⟩ : ∃ n, n = bs.length := ⟨_, rfl⟩
  obtain ⟨nc, hnc⟩ : ∃ n, n = cs.length := ⟨_, rfl⟩
  rw [← hnb, ← hnc] at K HB HC L ⊢
  have NB := Lib.hid hnb
  have NC := Lib.hid hnc
  clear hb hc hnb hnc
  have bad : (den < 1 ∨ 1000000 < den ∨ num < 0 ∨ den < num) → Calls Tryd.prog 11 #[hiV (.slice ab nb capb) (.slice ac nc capc), .int .i64 num, .int .i64 den] w fun e w' => QuantR bs cs num den 50 e ∧ Below w.heap.size w w' := by
    intro h
    have HH := Lib.hid h
    rcases (show den < 1 ∨ (1 ≤ den ∧ 1000000 < den) ∨ (1 ≤ den ∧ den ≤ 1000000 ∧ num < 0) ∨ (1 ≤ den ∧ den ≤ 1000000 ∧ 0 ≤ num ∧ den < num) by omega) with h1 | ⟨h0, h1⟩ | ⟨h0, h1, h2⟩ | ⟨h0, h1, h2, h3⟩
    all_goals
      clear h
      go_enter Tryd.func11, Tryd.ntmps11
      go_wp2
      exact bodyPost_ret (v := .tuple #[rgV false 0 false 0, .int .i64 31]) (by simp [results, rgV, Tryd.results11, go_sem, *]) rfl ⟨.inl ⟨HH.out, rfl⟩, by first | exact L.out | exact bel_set (by omega) (bel_set (by omega) (bel_set (by omega) (bel_set (by omega) L.out)))⟩
  by_cases h : den < 1 ∨ 1000000 < den ∨ num < 0 ∨ den < num
  · exact bad h
  · have OK : Hid (1 ≤ den ∧ den ≤ 1000000 ∧ 0 ≤ num ∧ num ≤ den) := by show _ ∧ _; omega
    obtain ⟨o1, o2, o3, o4⟩ := OK.out
    have o5 : num ≤ 1000000 := by omega
    have a0 := hiO_0 K.out
    have a1 := hiO_1 K.out
    have KR0 : ((w.alloc (.cells #[.slice ab nb capb, .slice ac nc capc] 24)).alloc (.cells #[.bool false, .int .i64 0, .bool false, .int .i64 0] 28)).heap[w.heap.size + 1]? = some (.cells #[.bool false, .int .i64 0, .bool false, .int .i64 0] 28 (0, 0)) := by
      have := heap_alloc_new (w.alloc (.cells #[.slice ab nb capb, .slice ac nc capc] 24)) (.cells #[.bool false, .int .i64 0, .bool false, .int .i64 0] 28)
      rwa [show (w.alloc (.cells #[.slice ab nb capb, .slice ac nc capc] 24)).heap.size = w.heap.size + 1 by simp] at this
    have KR := Lib.hid KR0
    have BND : Hid (nb ≤ 64 ∧ nc = nb + 1) := by have := HF.out.1.2.1; have := HF.out.2.1; have := NB.out; have := NC.out; show _ ∧ _; omega
    have ct := rtotal_any (.slice ab nb capb) (.slice ac nc capc) bs cs _ HC.out (by have := NC.out; have := BND.out; omega) HF.out.cnt
    have hs1 := sum_in cs _ HF.out.cnt cs.length (Nat.le_refl _)
    rw [List.take_length] at hs1
    have HS1 := Lib.hid hs1
    obtain ⟨s, hs⟩ : ∃ s, s = cs.sum := ⟨_, rfl⟩
    rw [← hs] at ct
    have HSS := Lib.hid hs
    clear KR0 bad hs1 hs
    go_enter Tryd.func11, Tryd.ntmps11
    go_wp2_with (fail)
    refine ct.mono ?_
    rintro e w1 ⟨rfl, hB1⟩
    replace L := Lib.hid (L.out.trans (hB1.mono L.out.size))
    replace K := Lib.hid (stays K.out hB1)
    replace KR := Lib.hid (stays KR.out hB1)
    replace HB := Lib.hid (HB.out.kept hB1)
    replace HC := Lib.hid (HC.out.kept hB1)
    clear a0 a1 ct hB1
    have a0 := hiO_0 K.out
    have a1 := hiO_1 K.out
    have r0 : w1.cell? ⟨w.heap.size + 1, 0, none⟩ = some (.bool false) := cell_of_row _ _ 0 _ _ _ KR.out
    have r1 : w1.cell? ⟨w.heap.size + 1, 1, none⟩ = some (.int .i64 0) := cell_of_row _ _ 1 _ _ _ KR.out
    have r2 : w1.cell? ⟨w.heap.size + 1, 2, none⟩ = some (.bool false) := cell_of_row _ _ 2 _ _ _ KR.out
    have r3 : w1.cell? ⟨w.heap.size + 1, 3, none⟩ = some (.int .i64 0) := cell_of_row _ _ 3 _ _ _ KR.out
    have z0 : w1.frozen? ⟨w.heap.size + 1, 0, none⟩ = false := frozen_of_row _ _ 0 _ _ KR.out
    have z1 : w1.frozen? ⟨w.heap.size + 1, 1, none⟩ = false := frozen_of_row _ _ 1 _ _ KR.out
    have z2 : w1.frozen? ⟨w.heap.size + 1, 2, none⟩ = false := frozen_of_row _ _ 2 _ _ KR.out
    have z3 : w1.frozen? ⟨w.heap.size + 1, 3, none⟩ = false := frozen_of_row _ _ 3 _ _ KR.out
    by_cases ht : s = 0
    · subst ht
      go_wp2
      exact bodyPost_ret (v := .tuple #[rgV false 0 false 0, .int .i64 50]) (by simp [results, rgV, Tryd.results11, go_sem, *]) rfl ⟨.inr (.inl ⟨OK.out, HSS.out.symm, rfl⟩), bel_set (by omega) (bel_set (by omega) (bel_set (by omega) (bel_set (by omega) L.out)))⟩
    · have hsb : 0 ≤ s ∧ s ≤ 1000000000000000 := by
        have := HS1.out; have := HSS.out; have := NC.out; have := BND.out
        rw [← NC.out] at *
        omega
      have hrl := rank_le num den s o3 o4 o1 (by omega)
      have cr := rrank_any num den s w1 o3 o4 o1 o2 hsb.1 hsb.2
      obtain ⟨R, hR⟩ : ∃ R, R = rankF num den s := ⟨_, rfl⟩
      rw [← hR] at cr hrl
      have HRR : Hid (R = rankF num den cs.sum) := by show _ = _; rw [hR, HSS.out]
      have HNE : Hid (cs.sum ≠ 0) := by show _ ≠ _; rw [← HSS.out]; exact ht
      have HRL : Hid (1 ≤ R ∧ R ≤ 1000000000000000) := by show _ ∧ _; omega
      clear hR hrl hsb
      have hse : (s == 0) = false := by rw [beq_eq_false_iff_ne]; exact ht
      go_wp2_with (fail)
      refine cr.mono ?_
      rintro e w2 ⟨rfl, rfl⟩
      clear cr
      go_wp2
      have hn65 : nc ≤ 65 := by have := BND.out; omega
      go_loop [9, 10] (fun rv i => ∃ (k : Nat) (rr : Int), k ≤ nc ∧ 1 ≤ rr ∧ rr ≤ 1000000000000000 ∧ i = .int .i64 (k : Int) ∧ rv = .int .i64 rr ∧ Hid (rr = R - (cs.take k).sum) ∧ Hid (Past cs R k)) (fun _ i => nc - (intOf i).toNat)
      case atStart => exact ⟨0, R, Nat.zero_le _, HRL.out.1, HRL.out.2, rfl, rfl, by show _ = _; simp, Past.zero _ _⟩
      case round =>
        obtain ⟨k, rr, hk, hr0, hr1, rfl, rfl, HS, HP⟩ := hrel
        by_cases hlt : k < nc
        · obtain ⟨c, hcc⟩ : ∃ c, c = cs.getD k 0 := ⟨_, rfl⟩
          obtain ⟨bc, oc, hac, e1⟩ : ∃ b off, ac = some ⟨b, off, none⟩ ∧ w1.cell? ⟨b, off + k, none⟩ = some (.int .i64 c) := by
            rcases HC.out.form with ⟨h0, -⟩ | ⟨hpos, b, off, cap', he, -, -, hb, hc2⟩
            · exfalso; rw [h0] at NC; have := NC.out; simp at this; omega
            · exact ⟨b, off, (Value.slice.inj he).1, by rw [hcc]; exact hc2 k (by have := NC.out; omega)⟩
          subst hac
          have hcin := HF.out.cnt k
          rw [← hcc] at hcin
          have HCC := Lib.hid hcc
          have hc0 : 0 ≤ c := hcin.1
          have hc1 : c ≤ 1099511627776 := hcin.2
          have hki : 0 ≤ (k : Int) ∧ (k : Int) < (nc : Int) := by omega
          clear hcc hcin
          by_cases hle : rr ≤ c
          · have cb := rbucketR_any (.slice ab nb capb) (.slice (some ⟨bc, oc, none⟩) nc capc) bs k w1 HB.out (by have := NB.out; have := BND.out; omega) (by have := NB.out; have := BND.out; omega)
            obtain ⟨b1, l1, b2, l2, hrg⟩ : ∃ b1 l1 b2 l2, rgK bs k = rgV b1 l1 b2 l2 := ⟨_, _, _, _, rfl⟩
            have HRG := Lib.hid hrg
            rw [hrg] at cb
            simp only [rgV] at cb
            clear hrg
            have HLE : Hid (R - (cs.take k).sum ≤ cs.getD k 0) := by show _ ≤ _; rw [← HS.out, ← HCC.out]; exact hle
            go_wp2_with (fail)
            refine cb.mono ?_
            rintro e w3 ⟨rfl, hB3⟩
            have KR3 := Lib.hid (stays KR.out hB3)
            have L3 := Lib.hid (L.out.trans (hB3.mono L.out.size))
            clear r0 r1 r2 r3 z0 z1 z2 z3 hB3 cb
            have r0 : w3.cell? ⟨w.heap.size + 1, 0, none⟩ = some (.bool false) := cell_of_row _ _ 0 _ _ _ KR3.out
            have r1 : w3.cell? ⟨w.heap.size + 1, 1, none⟩ = some (.int .i64 0) := cell_of_row _ _ 1 _ _ _ KR3.out
            have r2 : w3.cell? ⟨w.heap.size + 1, 2, none⟩ = some (.bool false) := cell_of_row _ _ 2 _ _ _ KR3.out
            have r3 : w3.cell? ⟨w.heap.size + 1, 3, none⟩ = some (.int .i64 0) := cell_of_row _ _ 3 _ _ _ KR3.out
            have z0 : w3.frozen? ⟨w.heap.size + 1, 0, none⟩ = false := frozen_of_row _ _ 0 _ _ KR3.out
            have z1 : w3.frozen? ⟨w.heap.size + 1, 1, none⟩ = false := frozen_of_row _ _ 1 _ _ KR3.out
            have z2 : w3.frozen? ⟨w.heap.size + 1, 2, none⟩ = false := frozen_of_row _ _ 2 _ _ KR3.out
            have z3 : w3.frozen? ⟨w.heap.size + 1, 3, none⟩ = false := frozen_of_row _ _ 3 _ _ KR3.out
            go_wp2
            exact bodyPost_ret (v := .tuple #[rgV b1 l1 b2 l2, .int .i64 0]) (by simp [results, rgV, Tryd.results11, go_sem, *]) rfl ⟨.inr (.inr ⟨OK.out, HNE.out, .inl ⟨k, by rw [← NC.out]; exact hlt, by rw [← HRR.out]; exact HP.out, by rw [← HRR.out]; exact HLE.out, by rw [HRG.out]⟩⟩), bel_set (by omega) (bel_set (by omega) (bel_set (by omega) (bel_set (by omega) L3.out)))⟩
          · have hlt2 : c < rr := by omega
            have HS2 : Hid (rr - c = R - (cs.take (k + 1)).sum) := by
              show _ = _
              rw [sum_snoc cs k (by rw [← NC.out]; exact hlt), HS.out, HCC.out]; omega
            have HP2 : Hid (Past cs R (k + 1)) := HP.out.step (by rw [← HS.out, ← HCC.out]; exact hlt2)
            clear hle
            go_wp2
            go_round
            case rel => exact ⟨k + 1, rr - c, by omega, by omega, by omega, by go_num, by go_num, HS2, HP2⟩
            case measure => simp [intOf]; omega
        · have hkn : k = nc := by omega
          subst hkn
          go_wp2
          exact bodyPost_ret (v := .tuple #[rgV false 0 false 0, .int .i64 50]) (by simp [results, rgV, Tryd.results11, go_sem, *]) rfl ⟨.inr (.inr ⟨OK.out, HNE.out, .inr ⟨by rw [← HRR.out, ← NC.out]; exact HP.out, rfl⟩⟩), bel_set (by omega) (bel_set (by omega) (bel_set (by omega) (bel_set (by omega) L.out)))⟩

end Go.Proofs.YtghgnalbahneoaaDoor
