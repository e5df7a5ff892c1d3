/- HistRanks: the law, walked (by program: wip/tools/gen_histranks.py). -/
import Derived.Test.YtghgnalbahneoaaDoorHistTellsL
import Derived.Test.YtghgnalbahneoaaDoorRankM
namespace Go.Proofs.YtghgnalbahneoaaDoor
open Go.RowKit

theorem in_any (b1 : Bool) (l1 : Int) (b2 : Bool) (l2 v : Int) (w : World) : Calls Tryd.prog 17 #[rgV b1 l1 b2 l2, .int .i64 v] w fun e w' => e = .returned (.bool ((!b1 || decide (l1 ≤ v)) && (!b2 || decide (v < l2)))) ∧ Below w.heap.size w w' := by
  have L : Hid (Below w.heap.size w (w.alloc (.cells #[.bool b1, .int .i64 l1, .bool b2, .int .i64 l2] 28))) := bel_alloc (Below.refl _ _) (Nat.le_refl _)
  unfold rgV
  cases b1 <;> cases b2
  · go_enter Tryd.func17, Tryd.ntmps17
    go_wp2
    go_ret
    exact ⟨rfl, L.out⟩
  · by_cases h2 : v < l2
    · go_enter Tryd.func17, Tryd.ntmps17
      go_wp2
      go_ret
      exact ⟨by simp [h2], L.out⟩
    · have HN := Lib.hid h2
      go_enter Tryd.func17, Tryd.ntmps17
      go_wp2
      go_ret
      exact ⟨by simp [HN.out], L.out⟩
  · by_cases h1 : l1 ≤ v
    · go_enter Tryd.func17, Tryd.ntmps17
      go_wp2
      go_ret
      exact ⟨by simp [h1], L.out⟩
    · have HN := Lib.hid h1
      go_enter Tryd.func17, Tryd.ntmps17
      go_wp2
      go_ret
      have h3 : ¬ l1 ≤ v := by have := HN.out; omega
      exact ⟨by simp [h3], L.out⟩
  · by_cases h1 : l1 ≤ v
    · by_cases h2 : v < l2
      · go_enter Tryd.func17, Tryd.ntmps17
        go_wp2
        go_ret
        exact ⟨by simp [h1, h2], L.out⟩
      · have HN := Lib.hid h2
        go_enter Tryd.func17, Tryd.ntmps17
        go_wp2
        go_ret
        have h3 : l2 ≤ v := by have := HN.out; omega
        exact ⟨by simp [h1, h3], L.out⟩
    · have HN := Lib.hid h1
      go_enter Tryd.func17, Tryd.ntmps17
      go_wp2
      go_ret
      have h3 : ¬ l1 ≤ v := by have := HN.out; omega
      exact ⟨by simp [h3], L.out⟩

theorem fit_cnt {bs : List Int} (l : List Int) (h : Rising bs) (hl : l.length ≤ 1099511627776) : FitH bs (cntF bs l) := by
  refine ⟨h, cntF_length bs l, fun c hc => ?_⟩
  obtain ⟨j, hj, rfl⟩ := List.getElem_of_mem hc
  have := cntF_in bs l j
  rw [List.getD_eq_getElem?_getD, List.getElem?_eq_getElem hj] at this
  simp at this
  omega
theorem sure_le {bs : List Int} (l : List Int) (x : Int) (h : Rising bs) : sureF bs (cntF bs l) x (cntF bs l).length ≤ (ltC l x : Int) := by
  rw [sumP_cnt bs l (isSure bs x) (sureF bs (cntF bs l) x) (cntF bs l).length rfl (fun k _ => rfl) _ (Nat.le_refl _)]
  have := cnt_mono (fun v => decide (bucketF bs v < (cntF bs l).length) && isSure bs x (bucketF bs v)) (fun v => decide (v < x)) l (fun v _ hv => by
    simp only [Bool.and_eq_true, isSure, decide_eq_true_eq] at hv ⊢
    have := (bk_in h.srt v).2 hv.2.1
    omega)
  unfold ltC
  omega
theorem le_most {bs : List Int} (l : List Int) (x : Int) (h : Rising bs) : (ltC l x : Int) ≤ mostB bs (cntF bs l) x (cntF bs l).length := by
  rw [sumP_cnt bs l (isMost bs x) (mostB bs (cntF bs l) x) (cntF bs l).length rfl (fun k _ => rfl) _ (Nat.le_refl _)]
  have := cnt_mono (fun v => decide (v < x)) (fun v => decide (bucketF bs v < (cntF bs l).length) && isMost bs x (bucketF bs v)) l (fun v _ hv => by
    have hv' : v < x := by simpa using hv
    have hb := bucketF_le bs v
    simp only [Bool.and_eq_true, decide_eq_true_eq]
    refine ⟨by rw [cntF_length]; omega, ?_⟩
    unfold isMost
    by_cases h0 : 0 < bucketF bs v
    · have := (bk_in h.srt v).1 h0
      rw [decide_eq_true (show bs.getD (bucketF bs v - 1) 0 < x by omega)]; simp
    · rw [decide_eq_false h0]; simp)
  unfold ltC
  omega
/-- the value of the rank lies in the range that Quantile tells -/
theorem rank_bucket {bs l : List Int} {r : Int} {k : Nat} {v : Int} (hk : k < (cntF bs l).length) (hP : Past (cntF bs l) r k) (hle : r - ((cntF bs l).take k).sum ≤ (cntF bs l).getD k 0) (h1 : (ltC l v : Int) < r) (h2 : r ≤ (leC l v : Int)) : bucketF bs v = k := by
  have hk' : k < bs.length + 1 := by rw [cntF_length] at hk; exact hk
  rcases Nat.lt_trichotomy (bucketF bs v) k with h | h | h
  · exfalso
    have hp := hP _ h
    have hs := sum_snoc (cntF bs l) (bucketF bs v) (by omega)
    have ht := take_cnt bs l (bucketF bs v + 1) (by omega)
    have := cnt_mono (fun w => decide (w ≤ v)) (fun w => decide (bucketF bs w < bucketF bs v + 1)) l (fun w _ hw => by
      have := bucketF_mono bs (show w ≤ v by simpa using hw)
      simp; omega)
    unfold leC at h2
    omega
  · exact h
  · exfalso
    have hs := sum_snoc (cntF bs l) k hk
    have ht := take_cnt bs l (k + 1) (by omega)
    have := cnt_mono (fun w => decide (bucketF bs w < k + 1)) (fun w => decide (w < v)) l (fun w _ hw => by
      have hw' : bucketF bs w < k + 1 := by simpa using hw
      have := bk_lt (bs := bs) (show bucketF bs w < bucketF bs v by omega)
      simpa using this)
    unfold ltC at h1
    omega
theorem in_rg {bs : List Int} {v : Int} {b1 b2 : Bool} {l1 l2 : Int} (h : Rising bs) (hrg : rgK bs (bucketF bs v) = rgV b1 l1 b2 l2) : ((!b1 || decide (l1 ≤ v)) && (!b2 || decide (v < l2))) = true := by
  obtain ⟨e1, e2, e3, e4⟩ := rgK_inv hrg
  obtain ⟨i1, i2⟩ := bk_in h.srt v
  rw [e1, e2, e3, e4]
  by_cases h1 : 0 < bucketF bs v
  · have j1 := i1 h1
    by_cases h2 : bucketF bs v < bs.length
    · have j2 := i2 h2
      rw [if_pos h1, if_pos h2, decide_eq_true j1, decide_eq_true j2]; simp
    · rw [if_pos h1, decide_eq_true j1, decide_eq_false h2]; simp
  · by_cases h2 : bucketF bs v < bs.length
    · have j2 := i2 h2
      rw [if_pos h2, decide_eq_false h1, decide_eq_true j2]; simp
    · rw [decide_eq_false h1, decide_eq_false h2]; simp
theorem ltC_step (l : List Int) (v : Int) (k : Nat) (hk : k < l.length) : ltC (l.take (k + 1)) v = ltC (l.take k) v + if l.getD k 0 < v then 1 else 0 := by
  unfold ltC; rw [take_snoc l k hk, cnt_if]; simp
theorem leC_step (l : List Int) (v : Int) (k : Nat) (hk : k < l.length) : leC (l.take (k + 1)) v = leC (l.take k) v + if l.getD k 0 ≤ v then 1 else 0 := by
  unfold leC; rw [take_snoc l k hk, cnt_if]; simp
theorem ltC_le (l : List Int) (v : Int) : ltC l v ≤ l.length := List.length_filter_le _ _

/-- l[:hi] -/
theorem Its.takes {w : World} {B n cap : Nat} {ao : Option Addr} {l : List Int} (h : Its w B (.slice ao n cap) l) (hi : Nat) (h0 : 0 < hi) (h1 : hi ≤ n) : Its w B (.slice ao hi cap) (l.take hi) := by
  rcases h.form with ⟨rfl, a1, c1, he, -⟩ | ⟨hpos, b, off, cap', he, hcap, hm, hb, hc⟩
  · obtain ⟨-, rfl, -⟩ := Value.slice.inj he
    omega
  · obtain ⟨rfl, rfl, rfl⟩ := Value.slice.inj he
    refine ⟨some ⟨b, off, none⟩, cap, by simp; omega, by simp; omega, by simp; omega, (fun e => by cases e), fun _ => ⟨b, off, rfl, hb, fun i hi' => ?_⟩⟩
    have hlt : i < hi := by simp at hi'; omega
    rw [hc i (by omega)]
    simp [List.getD, hlt]

attribute [local irreducible] sureF mostB ltC leC

set_option maxRecDepth 100000 in
set_option maxHeartbeats 4000000 in
theorem law_HistRanks (vb vl : Value) (bs l0 : List Int) (num den x : Int) (w : World) (hb : Its w w.heap.size vb bs) (hl : Its w w.heap.size vl l0) (hbl : bs.length ≤ 140737488355328) (hd1 : den ≤ 9223372036854775807) (ht : TabT w) :
    Calls Tryd.prog 4 #[vb, vl, .int .i64 num, .int .i64 den, .int .i64 x] w fun e w' => e = .returned (.bool true) ∧ Below w.heap.size w w' := by
  have HB := Lib.hid hb
  have HT := Lib.hid ht
  have HBL := Lib.hid hbl
  obtain ⟨ab, capb, hvb, -⟩ := hb.slice
  subst hvb
  clear hb ht hbl
  by_cases hlen : 200 < l0.length
  · obtain ⟨a0', cap0, hvl, -⟩ := hl.slice
    subst hvl
    have hl' := hl.takes 200 (by omega) (by omega)
    have hcap : ¬ ((cap0 : Int) < 200) := by
      rcases hl.form with ⟨h0, -⟩ | ⟨-, b, off, c', he, hc, -⟩
      · rw [h0] at hlen; simp at hlen
      · have := (Value.slice.inj he).2.2; omega
    obtain ⟨l, hle⟩ : ∃ l, l = l0.take 200 := ⟨_, rfl⟩
    rw [← hle] at hl'
    have hn : 200 = l.length := by rw [hle, List.length_take]; omega
    obtain ⟨n0, hn0⟩ : ∃ n, n = l0.length := ⟨_, rfl⟩
    rw [← hn0] at hlen ⊢
    have hlen' : 200 < (n0 : Int) := by omega
    have HLL := Lib.hid hl'
    have HN := Lib.hid hn
    clear hl hl' hle hn0 hlen hn
    go_enter Tryd.func4, Tryd.ntmps4
    go_wp2_with (fail)
    generalize h200 : (200 : Nat) = n at HLL HN ⊢
    have NL := HN
    have hn200 : n ≤ 200 := by omega
    clear hlen' h200 hcap
    generalize a0' = al at *
    generalize cap0 = capl at *
    have hof := Lib.hid (of_any (.slice ab bs.length capb) (.slice al n capl) bs l w HB.out HLL.out (by have := NL.out; omega) HBL.out)
    refine hof.out.mono ?_
    rintro e w1 ⟨hR, hB1⟩
    clear hof
    rcases hR with ⟨hnr, rfl⟩ | ⟨hris, va, vA, rfl, hO⟩
    · have L1 : Hid (Below w.heap.size w (w1.alloc (.cells #[.slice none 0 0, .slice none 0 0] 24))) := bel_alloc hB1 hB1.size
      clear hnr hB1
      have ha := Lib.hid (awake_any _ (HT.out.below L1.out))
      go_wp2_with (fail)
      refine ha.out.mono ?_
      rintro e wq ⟨rfl, hBq⟩
      have Lq := Lib.hid (L1.out.trans (hBq.mono L1.out.size))
      clear ha hBq
      go_wp2
      go_ret
      exact ⟨by first | rfl | kernel_rfl, Lq.out⟩
    · obtain ⟨g2, k2⟩ := hist_new w1 va vA
      have hO2 := hO.below g2
      have HRIS := Lib.hid hris
      have HFIT := Lib.hid (fit_cnt l hris (by have := NL.out; omega))
      have L1 := Lib.hid (hB1.trans (g2.mono hB1.size))
      have K := Lib.hid k2
      have HO1 := Lib.hid hO2.b.its
      have HO2 := Lib.hid hO2.c.its
      have HLW := Lib.hid (HLL.out.kept L1.out)
      obtain ⟨a1, c1, hv1, -⟩ := HO1.out.slice
      obtain ⟨a2, c2, hv2, -⟩ := HO2.out.slice
      subst hv1 hv2
      obtain ⟨n1, hn1⟩ : ∃ m, m = bs.length := ⟨_, rfl⟩
      obtain ⟨n2, hn2⟩ : ∃ m, m = (cntF bs l).length := ⟨_, rfl⟩
      rw [← hn1] at HO1 K HO2 L1 HLW ⊢
      rw [← hn2] at HO2 K HO1 L1 HLW ⊢
      clear hO hO2 hris g2 k2 hB1 hn1 hn2
      go_wp2_with (fail)
      generalize w1.alloc (.cells #[.slice a1 n1 c1, .slice a2 n2 c2] 24) = W1 at *
      generalize w1.heap.size = hb1 at *
      have a0 := hiO_0 K.out
      have a1' := hiO_1 K.out
      go_loop [13, 42] (fun cv i => ∃ k : Nat, k ≤ n ∧ i = .int .i64 (k : Int) ∧ cv = .int .i64 ((ltC (l.take k) x : Nat) : Int)) (fun _ i => n - (intOf i).toNat)
      case atStart => exact ⟨0, Nat.zero_le _, rfl, by simp [ltC]⟩
      case round =>
        obtain ⟨k, hk, rfl, rfl⟩ := hrel
        by_cases hlt : k < n
        · obtain ⟨y, hy⟩ : ∃ y, y = l.getD k 0 := ⟨_, rfl⟩
          obtain ⟨bc, oc, hac, e1⟩ : ∃ b off, al = some ⟨b, off, none⟩ ∧ W1.cell? ⟨b, off + k, none⟩ = some (.int .i64 y) := by
            rcases HLW.out.form with ⟨h0, -⟩ | ⟨hpos, b, off, cap', he, -, -, hb, hc2⟩
            · exfalso; rw [h0] at NL; have := NL.out; simp at this; omega
            · exact ⟨b, off, (Value.slice.inj he).1, by rw [hy]; exact hc2 k (by have := NL.out; omega)⟩
          subst hac
          have hki : 0 ≤ (k : Int) ∧ (k : Int) < (n : Int) := by omega
          have hst := ltC_step l x k (by have := NL.out; omega)
          rw [← hy] at hst
          have hcl := ltC_le (l.take k) x
          rw [List.length_take] at hcl
          obtain ⟨c, hc⟩ : ∃ c, c = ltC (l.take k) x := ⟨_, rfl⟩
          rw [← hc] at hst hcl ⊢
          clear hy hc
          by_cases hyx : y < x
          · rw [if_pos hyx] at hst
            go_wp2
            go_round
            case rel => exact ⟨k + 1, by omega, by go_num, by rw [hst]; go_num⟩
            case measure => simp [intOf]; omega
          · rw [if_neg hyx] at hst
            have hyx' : ¬ (y < x) := hyx
            clear hyx
            go_wp2
            go_round
            case rel => exact ⟨k + 1, by omega, by go_num, by rw [hst]; rfl⟩
            case measure => simp [intOf]; omega
        · have hkn : ¬ ((k : Int) < (n : Int)) := by omega
          have HTK : Hid (l.take k = l) := by show _ = _; rw [List.take_of_length_le (by have := NL.out; omega)]
          rw [HTK.out]
          have hb1' := sure_le l x HRIS.out
          have hb2' := le_most l x HRIS.out
          have hcb := Lib.hid (below_any (.slice a1 n1 c1) (.slice a2 n2 c2) bs (cntF bs l) x W1 HO1.out HO2.out HFIT.out)
          obtain ⟨S, hS⟩ : ∃ S, S = sureF bs (cntF bs l) x (cntF bs l).length := ⟨_, rfl⟩
          obtain ⟨M, hM⟩ : ∃ S, S = mostB bs (cntF bs l) x (cntF bs l).length := ⟨_, rfl⟩
          rw [← hS, ← hM] at hcb
          rw [← hS] at hb1'
          rw [← hM] at hb2'
          obtain ⟨C, hC⟩ : ∃ C, C = ltC l x := ⟨_, rfl⟩
          rw [← hC] at hb1' hb2' ⊢
          clear hS hM hC
          go_wp2_with (fail)
          refine hcb.out.mono ?_
          rintro e w2 ⟨rfl, hB2⟩
          have L2 := Lib.hid (L1.out.trans (hB2.mono L1.out.size))
          have K2 := Lib.hid (stays K.out hB2)
          have HP1 := Lib.hid (HO1.out.kept hB2)
          have HP2 := Lib.hid (HO2.out.kept hB2)
          have HLX := Lib.hid (HLW.out.kept hB2)
          clear hB2 hcb a0 a1' hkn
          have a0 := hiO_0 K2.out
          have a1' := hiO_1 K2.out
          have hq := Lib.hid (quant_any (.slice a1 n1 c1) (.slice a2 n2 c2) bs (cntF bs l) num den w2 HP1.out HP2.out HFIT.out)
          go_wp2_with (fail)
          refine hq.out.mono ?_
          rintro e w3 ⟨hQ, hB3⟩
          clear hq a0 a1' hb1' hb2'
          have L3 := Lib.hid (L2.out.trans (hB3.mono L2.out.size))
          have HLY := Lib.hid (HLX.out.kept hB3)
          clear hB3
          rcases hQ with ⟨hbad, rfl⟩ | ⟨hok, hz, rfl⟩ | ⟨hok, hne, ⟨k0, hk0, hP, hle, rfl⟩ | ⟨hP, -⟩⟩
          · have L4 : Hid (Below w.heap.size w (w3.alloc (.cells #[.bool false, .int .i64 0, .bool false, .int .i64 0] 28))) := bel_alloc L3.out L3.out.size
            clear hbad
            simp only [rgV]
            have ha := Lib.hid (awake_any _ (HT.out.below L4.out))
            go_wp2_with (fail)
            refine ha.out.mono ?_
            rintro e wq ⟨rfl, hBq⟩
            have Lq := Lib.hid (L4.out.trans (hBq.mono L4.out.size))
            clear ha hBq
            go_wp2
            go_ret
            exact ⟨by first | rfl | kernel_rfl, Lq.out⟩
          · have L4 : Hid (Below w.heap.size w (w3.alloc (.cells #[.bool false, .int .i64 0, .bool false, .int .i64 0] 28))) := bel_alloc L3.out L3.out.size
            clear hz hok
            simp only [rgV]
            have ha := Lib.hid (awake_any _ (HT.out.below L4.out))
            go_wp2_with (fail)
            refine ha.out.mono ?_
            rintro e wq ⟨rfl, hBq⟩
            have Lq := Lib.hid (L4.out.trans (hBq.mono L4.out.size))
            clear ha hBq
            go_wp2
            go_ret
            exact ⟨by first | rfl | kernel_rfl, Lq.out⟩
          · obtain ⟨b1, l1, b2, l2, hrg⟩ : ∃ b1 l1 b2 l2, rgK bs k0 = rgV b1 l1 b2 l2 := ⟨_, _, _, _, rfl⟩
            rw [hrg]
            have g4 := bel_alloc (o := .cells #[.bool b1, .int .i64 l1, .bool b2, .int .i64 l2] 28) (Below.refl w3.heap.size w3) (Nat.le_refl _)
            have KR := Lib.hid (heap_alloc_new w3 (.cells #[.bool b1, .int .i64 l1, .bool b2, .int .i64 l2] 28))
            have L4 := Lib.hid (L3.out.trans (g4.mono L3.out.size))
            have HLZ := Lib.hid (HLY.out.kept g4)
            have hsum := sum_cnt bs l
            have hnn : (l.length : Int) = (n : Int) := by rw [← NL.out]
            rw [hsum, hnn] at hle hP hne
            have hn1' : 1 ≤ (n : Int) := by omega
            have hrl := rank_le num den (n : Int) hok.2.2.1 hok.2.2.2 hok.1 hn1'
            have hrp := rank_plain num den (n : Int) hok.1
            have hmul0 : 0 ≤ num * (n : Int) := Int.mul_nonneg hok.2.2.1 (by omega)
            have hmul1 : num * (n : Int) ≤ 1000000 * 200 := Int.mul_le_mul (by omega) (by omega) (by omega) (by omega)
            obtain ⟨P, hPm⟩ : ∃ P, P = num * (n : Int) := ⟨_, rfl⟩
            obtain ⟨Q, hQd⟩ : ∃ Q, Q = (P + den - 1) / den := ⟨_, rfl⟩
            have hq0 : 0 ≤ Q := by rw [hQd]; exact Int.ediv_nonneg (by omega) (by omega)
            have hq1 : Q ≤ P + den - 1 := by rw [hQd]; exact Int.ediv_le_self _ (by omega)
            obtain ⟨r, hr⟩ : ∃ r : Nat, (r : Int) = rankF num den (n : Int) := ⟨(rankF num den (n : Int)).toNat, by omega⟩
            have hrQ : max Q 1 = (r : Int) := by rw [hr, hQd, hPm, hrp]; rfl
            rw [← hr] at hle hP hrl
            have e1 : IntKind.i64.wrap (num * (n : Int)) = P := by rw [← hPm, IntKind.wrap_i64]; omega
            have e2 : IntKind.i64.wrap (P + den) = P + den := by rw [IntKind.wrap_i64]; omega
            have e3 : IntKind.i64.wrap (P + den - 1) = P + den - 1 := by rw [IntKind.wrap_i64]; omega
            have e4 : (P + den - 1).tdiv den = Q := by rw [hQd]; exact Int.tdiv_eq_ediv_of_nonneg (by omega)
            have e5 : IntKind.i64.wrap Q = Q := by rw [IntKind.wrap_i64]; omega
            have hdz : den ≠ 0 := by omega
            have HNE : Hid (∃ v, v ∈ l ∧ ltC l v < r ∧ r ≤ leC l v) := rank_ex l r (by omega) (by have := NL.out; omega)
            have HIN : Hid (∀ v, ltC l v < r → r ≤ leC l v → ((!b1 || decide (l1 ≤ v)) && (!b2 || decide (v < l2))) = true) := by
              intro v h1 h2
              have hb := rank_bucket (v := v) hk0 hP hle (by omega) (by omega)
              exact in_rg HRIS.out (by rw [hb]; exact hrg)
            have hr200 : 1 ≤ (r : Int) ∧ (r : Int) ≤ 200 := by omega
            clear hrg g4 hsum hnn hle hP hne hn1' hrl hrp hmul0 hmul1 hk0 HLY hok hr hPm hQd hq0 hq1
            simp only [rgV]
            go_wp2_with (fail)
            try rw [hrQ]
            clear e1 e2 e3 e4 e5 hdz hrQ
            generalize w3.heap.size = rb at *
            generalize w3.alloc (.cells #[.bool b1, .int .i64 l1, .bool b2, .int .i64 l2] 28) = W4 at *
            go_loop [96] (fun i => ∃ k : Nat, k ≤ n ∧ i = .int .i64 (k : Int) ∧ Hid (∀ j, j < k → ¬ (ltC l (l.getD j 0) < r ∧ r ≤ leC l (l.getD j 0)))) (fun i => n - (intOf i).toNat)
            case atStart => exact ⟨0, Nat.zero_le _, rfl, fun j hj => absurd hj (by omega)⟩
            case round =>
              obtain ⟨k, hk, rfl, HNO⟩ := hrel
              by_cases hlt : k < n
              · obtain ⟨v, hv⟩ : ∃ y, y = l.getD k 0 := ⟨_, rfl⟩
                have HV := Lib.hid hv
                obtain ⟨bc, oc, hac, e1⟩ : ∃ b off, al = some ⟨b, off, none⟩ ∧ W4.cell? ⟨b, off + k, none⟩ = some (.int .i64 v) := by
                  rcases HLZ.out.form with ⟨h0, -⟩ | ⟨hpos, b, off, cap', he, -, -, hb, hc2⟩
                  · exfalso; rw [h0] at NL; have := NL.out; simp at this; omega
                  · exact ⟨b, off, (Value.slice.inj he).1, by rw [hv]; exact hc2 k (by have := NL.out; omega)⟩
                subst hac
                have hki : 0 ≤ (k : Int) ∧ (k : Int) < (n : Int) := by omega
                clear hv
                go_wp2
                clear e1 hki
                go_loop [22, 23, 102] (fun cv mv i => ∃ j : Nat, j ≤ n ∧ i = .int .i64 (j : Int) ∧ cv = .int .i64 ((ltC (l.take j) v : Nat) : Int) ∧ mv = .int .i64 ((leC (l.take j) v : Nat) : Int)) (fun _ _ i => n - (intOf i).toNat)
                case atStart => exact ⟨0, Nat.zero_le _, rfl, by simp [ltC], by simp [leC]⟩
                case round =>
                  obtain ⟨j, hj, rfl, rfl, rfl⟩ := hrel
                  by_cases hjn : j < n
                  · obtain ⟨y, hy⟩ : ∃ y, y = l.getD j 0 := ⟨_, rfl⟩
                    have e1 : W4.cell? ⟨bc, oc + j, none⟩ = some (.int .i64 y) := by
                      rcases HLZ.out.form with ⟨h0, -⟩ | ⟨hpos, b, off, cap', he, -, -, hb, hc2⟩
                      · exfalso; rw [h0] at NL; have := NL.out; simp at this; omega
                      · have := (Value.slice.inj he).1
                        cases this
                        rw [hy]; exact hc2 j (by have := NL.out; omega)
                    have hki : 0 ≤ (j : Int) ∧ (j : Int) < (n : Int) := by omega
                    have hst := ltC_step l v j (by have := NL.out; omega)
                    have hst2 := leC_step l v j (by have := NL.out; omega)
                    rw [← hy] at hst hst2
                    have hcl := ltC_le (l.take j) v
                    have hcl2 := leC_le (l.take j) v
                    rw [List.length_take] at hcl hcl2
                    obtain ⟨c, hc⟩ : ∃ c, c = ltC (l.take j) v := ⟨_, rfl⟩
                    obtain ⟨d, hd⟩ : ∃ c, c = leC (l.take j) v := ⟨_, rfl⟩
                    rw [← hc] at hst hcl ⊢
                    rw [← hd] at hst2 hcl2 ⊢
                    clear hy hc hd
                    rcases Int.lt_trichotomy y v with hyx | hyx | hyx
                    · rw [if_pos hyx] at hst
                      rw [if_pos (by omega)] at hst2
                      have hyy : y ≤ v := by omega
                      go_wp2
                      go_round
                      case rel => exact ⟨j + 1, by omega, by go_num, by rw [hst]; go_num, by rw [hst2]; go_num⟩
                      case measure => simp [intOf]; omega
                    · rw [if_neg (by omega)] at hst
                      rw [if_pos (by omega)] at hst2
                      have hyy : y ≤ v := by omega
                      have hyz : ¬ (y < v) := by omega
                      clear hyx
                      go_wp2
                      go_round
                      case rel => exact ⟨j + 1, by omega, by go_num, by rw [hst]; rfl, by rw [hst2]; go_num⟩
                      case measure => simp [intOf]; omega
                    · rw [if_neg (by omega)] at hst
                      rw [if_neg (by omega)] at hst2
                      have hyy : ¬ (y ≤ v) := by omega
                      have hyz : ¬ (y < v) := by omega
                      clear hyx
                      go_wp2
                      go_round
                      case rel => exact ⟨j + 1, by omega, by go_num, by rw [hst]; rfl, by rw [hst2]; rfl⟩
                      case measure => simp [intOf]; omega
                  · have hjn' : ¬ ((j : Int) < (n : Int)) := by omega
                    have HTJ : Hid (l.take j = l) := by show _ = _; rw [List.take_of_length_le (by have := NL.out; omega)]
                    rw [HTJ.out]
                    have HI := HIN.out v
                    have hcl := ltC_le l v
                    have hcl2 := leC_le l v
                    have NO2 := Lib.hid HNO.out
                    obtain ⟨c, hc⟩ : ∃ c, c = ltC l v := ⟨_, rfl⟩
                    obtain ⟨d, hd⟩ : ∃ c, c = leC l v := ⟨_, rfl⟩
                    have HC := Lib.hid hc
                    have HD := Lib.hid hd
                    rw [← hc] at hcl HI ⊢
                    rw [← hd] at hcl2 HI ⊢
                    have HII := Lib.hid HI
                    clear hc hd HI hjn
                    by_cases h1 : c < r
                    · by_cases h2 : r ≤ d
                      · have h1' : (c : Int) < (r : Int) := by omega
                        have h2' : (r : Int) ≤ (d : Int) := by omega
                        have q0 := cell_of_row _ _ 0 _ _ _ KR.out
                        have q1 := cell_of_row _ _ 1 _ _ _ KR.out
                        have q2 := cell_of_row _ _ 2 _ _ _ KR.out
                        have q3 := cell_of_row _ _ 3 _ _ _ KR.out
                        have hin := in_any b1 l1 b2 l2 v W4
                        rw [HII.out h1 h2] at hin
                        unfold rgV at hin
                        have hin := Lib.hid hin
                        go_wp2_with (fail)
                        refine hin.out.mono ?_
                        rintro e w5 ⟨rfl, hB5⟩
                        have L5 := Lib.hid (L4.out.trans (hB5.mono L4.out.size))
                        clear hB5 hin q0 q1 q2 q3
                        have ha := Lib.hid (awake_any _ (HT.out.below L5.out))
                        go_wp2_with (fail)
                        refine ha.out.mono ?_
                        rintro e wq ⟨rfl, hBq⟩
                        have Lq := Lib.hid (L5.out.trans (hBq.mono L5.out.size))
                        clear ha hBq
                        go_wp2
                        go_ret
                        exact ⟨by first | rfl | kernel_rfl, Lq.out⟩
                      · have h1' : (c : Int) < (r : Int) := by omega
                        have h2' : ¬ ((r : Int) ≤ (d : Int)) := by omega
                        have HX : Hid (¬ (ltC l (l.getD k 0) < r ∧ r ≤ leC l (l.getD k 0))) := by
                          show ¬ _
                          rw [← HV.out, ← HC.out, ← HD.out]; omega
                        go_wp2
                        go_round
                        case rel => exact ⟨k + 1, by omega, by go_num, fun j hj => by
                          rcases Nat.lt_or_ge j k with h | h
                          · exact NO2.out j h
                          · obtain rfl : j = k := by omega
                            exact HX.out⟩
                        case measure => simp [intOf]; omega
                    · have h1' : ¬ ((c : Int) < (r : Int)) := by omega
                      have HX : Hid (¬ (ltC l (l.getD k 0) < r ∧ r ≤ leC l (l.getD k 0))) := by
                        show ¬ _
                        rw [← HV.out, ← HC.out, ← HD.out]; omega
                      go_wp2
                      go_round
                      case rel => exact ⟨k + 1, by omega, by go_num, fun j hj => by
                        rcases Nat.lt_or_ge j k with h | h
                        · exact NO2.out j h
                        · obtain rfl : j = k := by omega
                          exact HX.out⟩
                      case measure => simp [intOf]; omega
              · exfalso
                obtain ⟨v, hv, h1, h2⟩ := HNE.out
                obtain ⟨j, hj, rfl⟩ := List.getElem_of_mem hv
                refine HNO.out j (by have := NL.out; omega) ?_
                have : l.getD j 0 = l[j] := by rw [List.getD_eq_getElem?_getD, List.getElem?_eq_getElem hj]; rfl
                rw [this]; exact ⟨h1, h2⟩
          · exfalso
            have hsum := sum_cnt bs l
            have hs1 : 1 ≤ (cntF bs l).sum := by rw [hsum] at hne ⊢; omega
            exact past_all (by rw [cntF_length]; omega) (rank_le num den _ hok.2.2.1 hok.2.2.2 hok.1 hs1).2 hP
  · obtain ⟨l, hle⟩ : ∃ l, l = l0 := ⟨_, rfl⟩
    subst hle
    have hn200 : l.length ≤ 200 := by omega
    obtain ⟨al, capl, hvl', -⟩ := hl.slice
    subst hvl'
    have HLL := Lib.hid hl
    have hlen' : ¬ (200 < (l.length : Int)) := by omega
    clear hl hlen
    obtain ⟨n, hn⟩ : ∃ n, n = l.length := ⟨_, rfl⟩
    rw [← hn] at HLL hn200 hlen' ⊢
    have NL := Lib.hid hn
    clear hn
    go_enter Tryd.func4, Tryd.ntmps4
    go_wp2_with (fail)
    clear hlen'
    have hof := Lib.hid (of_any (.slice ab bs.length capb) (.slice al n capl) bs l w HB.out HLL.out (by have := NL.out; omega) HBL.out)
    refine hof.out.mono ?_
    rintro e w1 ⟨hR, hB1⟩
    clear hof
    rcases hR with ⟨hnr, rfl⟩ | ⟨hris, va, vA, rfl, hO⟩
    · have L1 : Hid (Below w.heap.size w (w1.alloc (.cells #[.slice none 0 0, .slice none 0 0] 24))) := bel_alloc hB1 hB1.size
      clear hnr hB1
      have ha := Lib.hid (awake_any _ (HT.out.below L1.out))
      go_wp2_with (fail)
      refine ha.out.mono ?_
      rintro e wq ⟨rfl, hBq⟩
      have Lq := Lib.hid (L1.out.trans (hBq.mono L1.out.size))
      clear ha hBq
      go_wp2
      go_ret
      exact ⟨by first | rfl | kernel_rfl, Lq.out⟩
    · obtain ⟨g2, k2⟩ := hist_new w1 va vA
      have hO2 := hO.below g2
      have HRIS := Lib.hid hris
      have HFIT := Lib.hid (fit_cnt l hris (by have := NL.out; omega))
      have L1 := Lib.hid (hB1.trans (g2.mono hB1.size))
      have K := Lib.hid k2
      have HO1 := Lib.hid hO2.b.its
      have HO2 := Lib.hid hO2.c.its
      have HLW := Lib.hid (HLL.out.kept L1.out)
      obtain ⟨a1, c1, hv1, -⟩ := HO1.out.slice
      obtain ⟨a2, c2, hv2, -⟩ := HO2.out.slice
      subst hv1 hv2
      obtain ⟨n1, hn1⟩ : ∃ m, m = bs.length := ⟨_, rfl⟩
      obtain ⟨n2, hn2⟩ : ∃ m, m = (cntF bs l).length := ⟨_, rfl⟩
      rw [← hn1] at HO1 K HO2 L1 HLW ⊢
      rw [← hn2] at HO2 K HO1 L1 HLW ⊢
      clear hO hO2 hris g2 k2 hB1 hn1 hn2
      go_wp2_with (fail)
      generalize w1.alloc (.cells #[.slice a1 n1 c1, .slice a2 n2 c2] 24) = W1 at *
      generalize w1.heap.size = hb1 at *
      have a0 := hiO_0 K.out
      have a1' := hiO_1 K.out
      go_loop [13, 42] (fun cv i => ∃ k : Nat, k ≤ n ∧ i = .int .i64 (k : Int) ∧ cv = .int .i64 ((ltC (l.take k) x : Nat) : Int)) (fun _ i => n - (intOf i).toNat)
      case atStart => exact ⟨0, Nat.zero_le _, rfl, by simp [ltC]⟩
      case round =>
        obtain ⟨k, hk, rfl, rfl⟩ := hrel
        by_cases hlt : k < n
        · obtain ⟨y, hy⟩ : ∃ y, y = l.getD k 0 := ⟨_, rfl⟩
          obtain ⟨bc, oc, hac, e1⟩ : ∃ b off, al = some ⟨b, off, none⟩ ∧ W1.cell? ⟨b, off + k, none⟩ = some (.int .i64 y) := by
            rcases HLW.out.form with ⟨h0, -⟩ | ⟨hpos, b, off, cap', he, -, -, hb, hc2⟩
            · exfalso; rw [h0] at NL; have := NL.out; simp at this; omega
            · exact ⟨b, off, (Value.slice.inj he).1, by rw [hy]; exact hc2 k (by have := NL.out; omega)⟩
          subst hac
          have hki : 0 ≤ (k : Int) ∧ (k : Int) < (n : Int) := by omega
          have hst := ltC_step l x k (by have := NL.out; omega)
          rw [← hy] at hst
          have hcl := ltC_le (l.take k) x
          rw [List.length_take] at hcl
          obtain ⟨c, hc⟩ : ∃ c, c = ltC (l.take k) x := ⟨_, rfl⟩
          rw [← hc] at hst hcl ⊢
          clear hy hc
          by_cases hyx : y < x
          · rw [if_pos hyx] at hst
            go_wp2
            go_round
            case rel => exact ⟨k + 1, by omega, by go_num, by rw [hst]; go_num⟩
            case measure => simp [intOf]; omega
          · rw [if_neg hyx] at hst
            have hyx' : ¬ (y < x) := hyx
            clear hyx
            go_wp2
            go_round
            case rel => exact ⟨k + 1, by omega, by go_num, by rw [hst]; rfl⟩
            case measure => simp [intOf]; omega
        · have hkn : ¬ ((k : Int) < (n : Int)) := by omega
          have HTK : Hid (l.take k = l) := by show _ = _; rw [List.take_of_length_le (by have := NL.out; omega)]
          rw [HTK.out]
          have hb1' := sure_le l x HRIS.out
          have hb2' := le_most l x HRIS.out
          have hcb := Lib.hid (below_any (.slice a1 n1 c1) (.slice a2 n2 c2) bs (cntF bs l) x W1 HO1.out HO2.out HFIT.out)
          obtain ⟨S, hS⟩ : ∃ S, S = sureF bs (cntF bs l) x (cntF bs l).length := ⟨_, rfl⟩
          obtain ⟨M, hM⟩ : ∃ S, S = mostB bs (cntF bs l) x (cntF bs l).length := ⟨_, rfl⟩
          rw [← hS, ← hM] at hcb
          rw [← hS] at hb1'
          rw [← hM] at hb2'
          obtain ⟨C, hC⟩ : ∃ C, C = ltC l x := ⟨_, rfl⟩
          rw [← hC] at hb1' hb2' ⊢
          clear hS hM hC
          go_wp2_with (fail)
          refine hcb.out.mono ?_
          rintro e w2 ⟨rfl, hB2⟩
          have L2 := Lib.hid (L1.out.trans (hB2.mono L1.out.size))
          have K2 := Lib.hid (stays K.out hB2)
          have HP1 := Lib.hid (HO1.out.kept hB2)
          have HP2 := Lib.hid (HO2.out.kept hB2)
          have HLX := Lib.hid (HLW.out.kept hB2)
          clear hB2 hcb a0 a1' hkn
          have a0 := hiO_0 K2.out
          have a1' := hiO_1 K2.out
          have hq := Lib.hid (quant_any (.slice a1 n1 c1) (.slice a2 n2 c2) bs (cntF bs l) num den w2 HP1.out HP2.out HFIT.out)
          go_wp2_with (fail)
          refine hq.out.mono ?_
          rintro e w3 ⟨hQ, hB3⟩
          clear hq a0 a1' hb1' hb2'
          have L3 := Lib.hid (L2.out.trans (hB3.mono L2.out.size))
          have HLY := Lib.hid (HLX.out.kept hB3)
          clear hB3
          rcases hQ with ⟨hbad, rfl⟩ | ⟨hok, hz, rfl⟩ | ⟨hok, hne, ⟨k0, hk0, hP, hle, rfl⟩ | ⟨hP, -⟩⟩
          · have L4 : Hid (Below w.heap.size w (w3.alloc (.cells #[.bool false, .int .i64 0, .bool false, .int .i64 0] 28))) := bel_alloc L3.out L3.out.size
            clear hbad
            simp only [rgV]
            have ha := Lib.hid (awake_any _ (HT.out.below L4.out))
            go_wp2_with (fail)
            refine ha.out.mono ?_
            rintro e wq ⟨rfl, hBq⟩
            have Lq := Lib.hid (L4.out.trans (hBq.mono L4.out.size))
            clear ha hBq
            go_wp2
            go_ret
            exact ⟨by first | rfl | kernel_rfl, Lq.out⟩
          · have L4 : Hid (Below w.heap.size w (w3.alloc (.cells #[.bool false, .int .i64 0, .bool false, .int .i64 0] 28))) := bel_alloc L3.out L3.out.size
            clear hz hok
            simp only [rgV]
            have ha := Lib.hid (awake_any _ (HT.out.below L4.out))
            go_wp2_with (fail)
            refine ha.out.mono ?_
            rintro e wq ⟨rfl, hBq⟩
            have Lq := Lib.hid (L4.out.trans (hBq.mono L4.out.size))
            clear ha hBq
            go_wp2
            go_ret
            exact ⟨by first | rfl | kernel_rfl, Lq.out⟩
          · obtain ⟨b1, l1, b2, l2, hrg⟩ : ∃ b1 l1 b2 l2, rgK bs k0 = rgV b1 l1 b2 l2 := ⟨_, _, _, _, rfl⟩
            rw [hrg]
            have g4 := bel_alloc (o := .cells #[.bool b1, .int .i64 l1, .bool b2, .int .i64 l2] 28) (Below.refl w3.heap.size w3) (Nat.le_refl _)
            have KR := Lib.hid (heap_alloc_new w3 (.cells #[.bool b1, .int .i64 l1, .bool b2, .int .i64 l2] 28))
            have L4 := Lib.hid (L3.out.trans (g4.mono L3.out.size))
            have HLZ := Lib.hid (HLY.out.kept g4)
            have hsum := sum_cnt bs l
            have hnn : (l.length : Int) = (n : Int) := by rw [← NL.out]
            rw [hsum, hnn] at hle hP hne
            have hn1' : 1 ≤ (n : Int) := by omega
            have hrl := rank_le num den (n : Int) hok.2.2.1 hok.2.2.2 hok.1 hn1'
            have hrp := rank_plain num den (n : Int) hok.1
            have hmul0 : 0 ≤ num * (n : Int) := Int.mul_nonneg hok.2.2.1 (by omega)
            have hmul1 : num * (n : Int) ≤ 1000000 * 200 := Int.mul_le_mul (by omega) (by omega) (by omega) (by omega)
            obtain ⟨P, hPm⟩ : ∃ P, P = num * (n : Int) := ⟨_, rfl⟩
            obtain ⟨Q, hQd⟩ : ∃ Q, Q = (P + den - 1) / den := ⟨_, rfl⟩
            have hq0 : 0 ≤ Q := by rw [hQd]; exact Int.ediv_nonneg (by omega) (by omega)
            have hq1 : Q ≤ P + den - 1 := by rw [hQd]; exact Int.ediv_le_self _ (by omega)
            obtain ⟨r, hr⟩ : ∃ r : Nat, (r : Int) = rankF num den (n : Int) := ⟨(rankF num den (n : Int)).toNat, by omega⟩
            have hrQ : max Q 1 = (r : Int) := by rw [hr, hQd, hPm, hrp]; rfl
            rw [← hr] at hle hP hrl
            have e1 : IntKind.i64.wrap (num * (n : Int)) = P := by rw [← hPm, IntKind.wrap_i64]; omega
            have e2 : IntKind.i64.wrap (P + den) = P + den := by rw [IntKind.wrap_i64]; omega
            have e3 : IntKind.i64.wrap (P + den - 1) = P + den - 1 := by rw [IntKind.wrap_i64]; omega
            have e4 : (P + den - 1).tdiv den = Q := by rw [hQd]; exact Int.tdiv_eq_ediv_of_nonneg (by omega)
            have e5 : IntKind.i64.wrap Q = Q := by rw [IntKind.wrap_i64]; omega
            have hdz : den ≠ 0 := by omega
            have HNE : Hid (∃ v, v ∈ l ∧ ltC l v < r ∧ r ≤ leC l v) := rank_ex l r (by omega) (by have := NL.out; omega)
            have HIN : Hid (∀ v, ltC l v < r → r ≤ leC l v → ((!b1 || decide (l1 ≤ v)) && (!b2 || decide (v < l2))) = true) := by
              intro v h1 h2
              have hb := rank_bucket (v := v) hk0 hP hle (by omega) (by omega)
              exact in_rg HRIS.out (by rw [hb]; exact hrg)
            have hr200 : 1 ≤ (r : Int) ∧ (r : Int) ≤ 200 := by omega
            clear hrg g4 hsum hnn hle hP hne hn1' hrl hrp hmul0 hmul1 hk0 HLY hok hr hPm hQd hq0 hq1
            simp only [rgV]
            go_wp2_with (fail)
            try rw [hrQ]
            clear e1 e2 e3 e4 e5 hdz hrQ
            generalize w3.heap.size = rb at *
            generalize w3.alloc (.cells #[.bool b1, .int .i64 l1, .bool b2, .int .i64 l2] 28) = W4 at *
            go_loop [96] (fun i => ∃ k : Nat, k ≤ n ∧ i = .int .i64 (k : Int) ∧ Hid (∀ j, j < k → ¬ (ltC l (l.getD j 0) < r ∧ r ≤ leC l (l.getD j 0)))) (fun i => n - (intOf i).toNat)
            case atStart => exact ⟨0, Nat.zero_le _, rfl, fun j hj => absurd hj (by omega)⟩
            case round =>
              obtain ⟨k, hk, rfl, HNO⟩ := hrel
              by_cases hlt : k < n
              · obtain ⟨v, hv⟩ : ∃ y, y = l.getD k 0 := ⟨_, rfl⟩
                have HV := Lib.hid hv
                obtain ⟨bc, oc, hac, e1⟩ : ∃ b off, al = some ⟨b, off, none⟩ ∧ W4.cell? ⟨b, off + k, none⟩ = some (.int .i64 v) := by
                  rcases HLZ.out.form with ⟨h0, -⟩ | ⟨hpos, b, off, cap', he, -, -, hb, hc2⟩
                  · exfalso; rw [h0] at NL; have := NL.out; simp at this; omega
                  · exact ⟨b, off, (Value.slice.inj he).1, by rw [hv]; exact hc2 k (by have := NL.out; omega)⟩
                subst hac
                have hki : 0 ≤ (k : Int) ∧ (k : Int) < (n : Int) := by omega
                clear hv
                go_wp2
                clear e1 hki
                go_loop [22, 23, 102] (fun cv mv i => ∃ j : Nat, j ≤ n ∧ i = .int .i64 (j : Int) ∧ cv = .int .i64 ((ltC (l.take j) v : Nat) : Int) ∧ mv = .int .i64 ((leC (l.take j) v : Nat) : Int)) (fun _ _ i => n - (intOf i).toNat)
                case atStart => exact ⟨0, Nat.zero_le _, rfl, by simp [ltC], by simp [leC]⟩
                case round =>
                  obtain ⟨j, hj, rfl, rfl, rfl⟩ := hrel
                  by_cases hjn : j < n
                  · obtain ⟨y, hy⟩ : ∃ y, y = l.getD j 0 := ⟨_, rfl⟩
                    have e1 : W4.cell? ⟨bc, oc + j, none⟩ = some (.int .i64 y) := by
                      rcases HLZ.out.form with ⟨h0, -⟩ | ⟨hpos, b, off, cap', he, -, -, hb, hc2⟩
                      · exfalso; rw [h0] at NL; have := NL.out; simp at this; omega
                      · have := (Value.slice.inj he).1
                        cases this
                        rw [hy]; exact hc2 j (by have := NL.out; omega)
                    have hki : 0 ≤ (j : Int) ∧ (j : Int) < (n : Int) := by omega
                    have hst := ltC_step l v j (by have := NL.out; omega)
                    have hst2 := leC_step l v j (by have := NL.out; omega)
                    rw [← hy] at hst hst2
                    have hcl := ltC_le (l.take j) v
                    have hcl2 := leC_le (l.take j) v
                    rw [List.length_take] at hcl hcl2
                    obtain ⟨c, hc⟩ : ∃ c, c = ltC (l.take j) v := ⟨_, rfl⟩
                    obtain ⟨d, hd⟩ : ∃ c, c = leC (l.take j) v := ⟨_, rfl⟩
                    rw [← hc] at hst hcl ⊢
                    rw [← hd] at hst2 hcl2 ⊢
                    clear hy hc hd
                    rcases Int.lt_trichotomy y v with hyx | hyx | hyx
                    · rw [if_pos hyx] at hst
                      rw [if_pos (by omega)] at hst2
                      have hyy : y ≤ v := by omega
                      go_wp2
                      go_round
                      case rel => exact ⟨j + 1, by omega, by go_num, by rw [hst]; go_num, by rw [hst2]; go_num⟩
                      case measure => simp [intOf]; omega
                    · rw [if_neg (by omega)] at hst
                      rw [if_pos (by omega)] at hst2
                      have hyy : y ≤ v := by omega
                      have hyz : ¬ (y < v) := by omega
                      clear hyx
                      go_wp2
                      go_round
                      case rel => exact ⟨j + 1, by omega, by go_num, by rw [hst]; rfl, by rw [hst2]; go_num⟩
                      case measure => simp [intOf]; omega
                    · rw [if_neg (by omega)] at hst
                      rw [if_neg (by omega)] at hst2
                      have hyy : ¬ (y ≤ v) := by omega
                      have hyz : ¬ (y < v) := by omega
                      clear hyx
                      go_wp2
                      go_round
                      case rel => exact ⟨j + 1, by omega, by go_num, by rw [hst]; rfl, by rw [hst2]; rfl⟩
                      case measure => simp [intOf]; omega
                  · have hjn' : ¬ ((j : Int) < (n : Int)) := by omega
                    have HTJ : Hid (l.take j = l) := by show _ = _; rw [List.take_of_length_le (by have := NL.out; omega)]
                    rw [HTJ.out]
                    have HI := HIN.out v
                    have hcl := ltC_le l v
                    have hcl2 := leC_le l v
                    have NO2 := Lib.hid HNO.out
                    obtain ⟨c, hc⟩ : ∃ c, c = ltC l v := ⟨_, rfl⟩
                    obtain ⟨d, hd⟩ : ∃ c, c = leC l v := ⟨_, rfl⟩
                    have HC := Lib.hid hc
                    have HD := Lib.hid hd
                    rw [← hc] at hcl HI ⊢
                    rw [← hd] at hcl2 HI ⊢
                    have HII := Lib.hid HI
                    clear hc hd HI hjn
                    by_cases h1 : c < r
                    · by_cases h2 : r ≤ d
                      · have h1' : (c : Int) < (r : Int) := by omega
                        have h2' : (r : Int) ≤ (d : Int) := by omega
                        have q0 := cell_of_row _ _ 0 _ _ _ KR.out
                        have q1 := cell_of_row _ _ 1 _ _ _ KR.out
                        have q2 := cell_of_row _ _ 2 _ _ _ KR.out
                        have q3 := cell_of_row _ _ 3 _ _ _ KR.out
                        have hin := in_any b1 l1 b2 l2 v W4
                        rw [HII.out h1 h2] at hin
                        unfold rgV at hin
                        have hin := Lib.hid hin
                        go_wp2_with (fail)
                        refine hin.out.mono ?_
                        rintro e w5 ⟨rfl, hB5⟩
                        have L5 := Lib.hid (L4.out.trans (hB5.mono L4.out.size))
                        clear hB5 hin q0 q1 q2 q3
                        have ha := Lib.hid (awake_any _ (HT.out.below L5.out))
                        go_wp2_with (fail)
                        refine ha.out.mono ?_
                        rintro e wq ⟨rfl, hBq⟩
                        have Lq := Lib.hid (L5.out.trans (hBq.mono L5.out.size))
                        clear ha hBq
                        go_wp2
                        go_ret
                        exact ⟨by first | rfl | kernel_rfl, Lq.out⟩
                      · have h1' : (c : Int) < (r : Int) := by omega
                        have h2' : ¬ ((r : Int) ≤ (d : Int)) := by omega
                        have HX : Hid (¬ (ltC l (l.getD k 0) < r ∧ r ≤ leC l (l.getD k 0))) := by
                          show ¬ _
                          rw [← HV.out, ← HC.out, ← HD.out]; omega
                        go_wp2
                        go_round
                        case rel => exact ⟨k + 1, by omega, by go_num, fun j hj => by
                          rcases Nat.lt_or_ge j k with h | h
                          · exact NO2.out j h
                          · obtain rfl : j = k := by omega
                            exact HX.out⟩
                        case measure => simp [intOf]; omega
                    · have h1' : ¬ ((c : Int) < (r : Int)) := by omega
                      have HX : Hid (¬ (ltC l (l.getD k 0) < r ∧ r ≤ leC l (l.getD k 0))) := by
                        show ¬ _
                        rw [← HV.out, ← HC.out, ← HD.out]; omega
                      go_wp2
                      go_round
                      case rel => exact ⟨k + 1, by omega, by go_num, fun j hj => by
                        rcases Nat.lt_or_ge j k with h | h
                        · exact NO2.out j h
                        · obtain rfl : j = k := by omega
                          exact HX.out⟩
                      case measure => simp [intOf]; omega
              · exfalso
                obtain ⟨v, hv, h1, h2⟩ := HNE.out
                obtain ⟨j, hj, rfl⟩ := List.getElem_of_mem hv
                refine HNO.out j (by have := NL.out; omega) ?_
                have : l.getD j 0 = l[j] := by rw [List.getD_eq_getElem?_getD, List.getElem?_eq_getElem hj]; rfl
                rw [this]; exact ⟨h1, h2⟩
          · exfalso
            have hsum := sum_cnt bs l
            have hs1 : 1 ≤ (cntF bs l).sum := by rw [hsum] at hne ⊢; omega
            exact past_all (by rw [cntF_length]; omega) (rank_le num den _ hok.2.2.1 hok.2.2.2 hok.1 hs1).2 hP

end Go.Proofs.YtghgnalbahneoaaDoor
