/- Cuts: what parts two nodes, and that with one pair of it again a way leads: plain. No program here.
Cuts: the law CutsMenger, walked (by program: wip/tools/gen_cg5.py). -/
import Derived.Test.YtenilbofncfbdaaCM
import Derived.Test.YtenilbofncfbdaaCB
import Derived.Test.YtenilbofncfbdaaP2
import Derived.Test.YtenilbofncfbdaaCN
set_option linter.unusedSimpArgs false
set_option linter.unusedVariables false
namespace Go.Proofs.Ytenilbofncfbdaa

/-- the pairs that leave a side -/
def cutN (L : Prs) (S : Nat → Bool) (m : Nat) : List Nat := (List.range m).filter fun k => S (endA L k) != S (endB L k)
theorem cutN_succ (L : Prs) (S : Nat → Bool) (m : Nat) : cutN L S (m + 1) = cutN L S m ++ (if S (endA L m) != S (endB L m) then [m] else []) := by
  unfold cutN
  rw [List.range_succ, List.filter_append, List.filter_cons]
  split <;> simp_all
theorem cutN_len (L : Prs) (S : Nat → Bool) : ∀ m, (cutN L S m).length = crossF (endA L) (endB L) S m := by
  intro m
  induction m with
  | zero => rfl
  | succ m ih =>
    rw [cutN_succ, List.length_append, ih, cross_succ]
    cases S (endA L m) <;> cases S (endB L m) <;> rfl
theorem mem_cutN {L : Prs} {S : Nat → Bool} {m k : Nat} : k ∈ cutN L S m ↔ k < m ∧ S (endA L k) ≠ S (endB L k) := by
  unfold cutN
  rw [List.mem_filter, List.mem_range]
  simp
theorem cutN_nodup (L : Prs) (S : Nat → Bool) (m : Nat) : (cutN L S m).Nodup := List.Nodup.sublist List.filter_sublist List.nodup_range
theorem cut_pairs {L : Prs} {S : List Bool} : ∀ m, m ≤ L.length → (L.take m).filter (cutP S) = (cutN L (fun v => S.getD v false) m).map fun k => (endA L k, endB L k) := by
  intro m
  induction m with
  | zero => intro _; rfl
  | succ m ih =>
    intro hm
    rw [take_filter (by omega), ih (by omega), cutN_succ, List.map_append]
    congr 1
    have e : cutP S (endA L m, endB L m) = (S.getD (endA L m) false != S.getD (endB L m) false) := rfl
    rw [e]
    split <;> rfl
/-- another side that only pairs of the first leave, but for one -/
theorem cross_less {A B : Nat → Nat} {S R : Nat → Bool} {k0 : Nat} (h0 : R (A k0) = R (B k0)) (h1 : S (A k0) ≠ S (B k0)) : ∀ m, (∀ k, k < m → R (A k) ≠ R (B k) → S (A k) ≠ S (B k)) → crossF A B R m + (if k0 < m then 1 else 0) ≤ crossF A B S m := by
  intro m
  induction m with
  | zero => intro _; simp [crossF]
  | succ m ih =>
    intro h
    have ih2 := ih (fun k hk => h k (by omega))
    have hm := h m (Nat.lt_succ_self m)
    rw [cross_succ, cross_succ]
    by_cases e : k0 = m
    · subst e
      rw [if_pos h0, if_neg h1, if_pos (Nat.lt_succ_self _)]
      rw [if_neg (Nat.lt_irrefl _)] at ih2
      omega
    · have e2 : (if k0 < m + 1 then 1 else 0) = (if k0 < m then 1 else (0 : Nat)) := by
        by_cases c : k0 < m
        · rw [if_pos c, if_pos (by omega)]
        · rw [if_neg c, if_neg (by omega)]
      rw [e2]
      by_cases c : R (A m) = R (B m)
      · rw [if_pos c]; omega
      · rw [if_neg c, if_neg (hm c)]; omega
theorem menger {L : Prs} {n a b : Nat} (hf : FitL n L) (ha : a < n) (hb : b < n) (hab : a ≠ b) : ∃ K : List Nat, K.Nodup ∧ (∀ k ∈ K, k < L.length) ∧ cutI L n (a : Int) (b : Int) = K.map (fun k => (endA L k, endB L k)) ∧ K.length = FlV L n a b ∧
    (∀ us : List Bool, (∀ p, us.getD p false = true ↔ p ∈ K) → (reachF L n a us (-1)).getD b false = false) ∧
    (∀ (us : List Bool) (k : Nat), (∀ p, us.getD p false = true ↔ p ∈ K) → k ∈ K → (reachF L n a (us.set k false) (-1)).getD b false = true) := by
  have e0 : mostI L n (a : Int) (b : Int) = mostF L n a b := mostI_pair hab ha hb
  have hm := most_ok hf ha hb hab
  obtain ⟨S, hS⟩ : ∃ S : Nat → Bool, S = sideB L (mostF L n a b).1 n a b := ⟨_, rfl⟩
  obtain ⟨s1, s2, -⟩ := side_closed hf ha hb hm
  have s3 := most_side hf ha hb hm
  have hle := fun R h1 h2 => most_le hm R h1 h2
  rw [← hS] at s1 s2 s3
  have eF : FlV L n a b = (mostF L n a b).2 := by unfold FlV; rw [e0]
  have hcut : cutI L n (a : Int) (b : Int) = (cutN L S L.length).map fun k => (endA L k, endB L k) := by
    have e1 : sideI L n (a : Int) (b : Int) = (reachB L (mostF L n a b).1 n a b).1 := by unfold sideI; rw [e0]; simp
    have e2 : (fun v => (sideI L n (a : Int) (b : Int)).getD v false) = S := by rw [hS, e1]; rfl
    have h := cut_pairs (S := sideI L n (a : Int) (b : Int)) (L := L) L.length (Nat.le_refl _)
    rw [List.take_length, e2] at h
    unfold cutI
    rw [e0]
    by_cases c : (mostF L n a b).2 = 0
    · rw [if_pos c]
      rw [c] at s3
      have : (cutN L S L.length).length = 0 := by rw [cutN_len]; exact s3.symm
      rw [List.eq_nil_of_length_eq_zero this]
      rfl
    · rw [if_neg c]; exact h
  have hN : ∀ v, okN (-1) v := fun v h => by omega
  refine ⟨cutN L S L.length, cutN_nodup _ _ _, fun k hk => (mem_cutN.1 hk).1, hcut, by rw [cutN_len, eF, s3], fun us hus => ?_, fun us k hus hk => ?_⟩
  · cases hc : (reachF L n a us (-1)).getD b false with
    | false => rfl
    | true =>
      exfalso
      have hw := (reach_way hf ha us (-1)).1 hc
      have := hw.inside (fun v => S v = true) s1 (fun k u v he hk hu _ => by
        have hnk : ¬ k ∈ cutN L S L.length := fun h => by
          have h1 := (hus k).2 h
          unfold okE at hk
          rw [hk] at h1; cases h1
        rw [mem_cutN] at hnk
        have hs : S (endA L k) = S (endB L k) := by
          by_cases c : S (endA L k) = S (endB L k)
          · exact c
          · exact absurd ⟨he.1, c⟩ hnk
        rcases he.2 with ⟨x1, x2⟩ | ⟨x1, x2⟩
        · rw [x1, x2] at hs; rw [← hs]; exact hu
        · rw [x1, x2] at hs; rw [hs]; exact hu)
      rw [s2] at this; cases this
  · cases hc : (reachF L n a (us.set k false) (-1)).getD b false with
    | true => rfl
    | false =>
      exfalso
      obtain ⟨hkl, hks⟩ := mem_cutN.1 hk
      obtain ⟨R, hR⟩ : ∃ R : Nat → Bool, ∀ v, R v = true ↔ Way L (okE (us.set k false)) (okN (-1)) a v := ⟨fun v => (reachF L n a (us.set k false) (-1)).getD v false, fun v => reach_way hf ha _ _⟩
      have hRa : R a = true := (hR a).2 (.nil (hN a))
      have hRb : R b = false := by
        cases h : R b with
        | false => rfl
        | true =>
          have := (reach_way hf ha (us.set k false) (-1)).2 ((hR b).1 h)
          rw [hc] at this; cases this
      have cl : ∀ j u v, Edge L j u v → okE (us.set k false) j → R u = true → R v = true := fun j u v he hj hu => (hR v).2 (.step ((hR u).1 hu) he hj (hN v))
      have sep : ∀ j, j < L.length → R (endA L j) ≠ R (endB L j) → (us.set k false).getD j false = true := fun j hj hne => by
        cases h : (us.set k false).getD j false with
        | true => rfl
        | false =>
          exfalso
          have e1 : Edge L j (endA L j) (endB L j) := ⟨hj, .inl ⟨rfl, rfl⟩⟩
          apply hne
          cases h1 : R (endA L j) with
          | true => exact (cl j _ _ e1 h h1).symm
          | false =>
            cases h2 : R (endB L j) with
            | false => rfl
            | true => have := cl j _ _ e1.symm h h2; rw [h1] at this; cases this
      have hk0 : R (endA L k) = R (endB L k) := by
        by_cases c : R (endA L k) = R (endB L k)
        · exact c
        · have h1 := sep k hkl c
          by_cases hlen : k < us.length
          · rw [getD_set_same _ _ _ _ hlen] at h1; cases h1
          · rw [List.getD_eq_getElem?_getD, List.getElem?_eq_none (by simpa using hlen)] at h1; cases h1
      have hl := cross_less hk0 hks L.length (fun j hj hne => by
        have h1 := sep j hj hne
        have hjk : k ≠ j := fun e => by subst e; exact hne hk0
        rw [getD_set_other _ _ _ _ _ hjk] at h1
        exact (mem_cutN.1 ((hus j).1 h1)).2)
      rw [if_pos hkl] at hl
      have := hle R hRa hRb
      omega

end Go.Proofs.Ytenilbofncfbdaa

namespace Go.Proofs.Ytenilbofncfbdaa
open Go.RowKit

/-- what holds in the law's first loop: the j first pairs of the cut are marked -/
def MU (W3 : World) (K : List Nat) (ub m j : Nat) (wx : World) : Prop := ∃ us, (∀ p, us.getD p false = true ↔ p ∈ K.take j) ∧ us.length = m ∧ RowB wx ub us ∧ Below W3.heap.size W3 wx
theorem MU.keep {W3 wx wy : World} {K : List Nat} {ub m j : Nat} (h : MU W3 K ub m j wx) (hb : Below wx.heap.size wx wy) : MU W3 K ub m j wy := by
  obtain ⟨us, h1, h2, h3, h4⟩ := h
  exact ⟨us, h1, h2, h3.keep hb, h4.trans (hb.mono h4.size)⟩
theorem mark_next {K : List Nat} {us : List Bool} {j : Nat} (h : ∀ p, us.getD p false = true ↔ p ∈ K.take j) (hj : j < K.length) (hk : K.getD j 0 < us.length) (p : Nat) : (us.set (K.getD j 0) true).getD p false = true ↔ p ∈ K.take (j + 1) := by
  have e : K.getD j 0 = K[j] := by simp [List.getD, hj]
  rw [List.take_add_one, List.getElem?_eq_getElem hj, List.mem_append]
  rw [e] at hk ⊢
  by_cases c : p = K[j]
  · rw [c, getD_set_same _ _ _ _ hk]; simp
  · rw [getD_set_other _ _ _ _ _ (Ne.symm c), h p]
    simp [c]
theorem mark_free {K : List Nat} {us : List Bool} {j : Nat} (hn : K.Nodup) (h : ∀ p, us.getD p false = true ↔ p ∈ K.take j) (hj : j < K.length) : us.getD (K.getD j 0) false = false := by
  cases c : us.getD (K.getD j 0) false with
  | false => rfl
  | true =>
    exfalso
    have h1 := (h _).1 c
    have e : K.getD j 0 = K[j] := by simp [List.getD, hj]
    rw [e] at h1
    obtain ⟨q, hq, e2⟩ := List.mem_take_iff_getElem.1 h1
    exact List.pairwise_iff_getElem.1 hn q j (by omega) hj (by omega) e2

theorem map_ends (L : Prs) {K : List Nat} {j : Nat} (hj : j < K.length) : endA (K.map fun k => (endA L k, endB L k)) j = endA L (K.getD j 0) ∧ endB (K.map fun k => (endA L k, endB L k)) j = endB L (K.getD j 0) := by
  have e : K.getD j 0 = K[j] := by simp [List.getD, hj]
  have e2 : (K.map fun k => (endA L k, endB L k)).getD j (0, 0) = (endA L K[j], endB L K[j]) := by simp [List.getD, hj]
  rw [e]
  exact ⟨congrArg Prod.fst e2, congrArg Prod.snd e2⟩

set_option maxRecDepth 100000 in
set_option maxHeartbeats 2000000 in
theorem law_CutsMenger (W : World) (n : Int) (v : Value) (a b : Int) (xs : Ipr) (hx : Lks W W.heap.size v xs) :
    Calls Try.prog 5 #[.int .i64 n, v, .int .i64 a, .int .i64 b] W fun e w' => e = .returned (.bool true) ∧ Below W.heap.size W w' := by
  have HC := Lib.hid (rfit_any W n v xs hx)
  by_cases hf : FitX n xs
  · rw [fitB_true hf] at HC
    obtain ⟨m, L, rfl, rfl, hfl, hm1, hm16⟩ := hf.nodes
    have HYES : Hid (FitL m L ∧ Lks W W.heap.size v (prI L)) := ⟨hfl, hx⟩
    clear hf hfl hx
    by_cases h0 : a < 0
    · have d0 : decide (a < 0) = true := by simpa using h0
      clear HYES
      go_enter Try.func5, Try.ntmps5
      go_wp2_with (fail)
      refine HC.out.mono ?_
      rintro e W1 ⟨rfl, hb⟩
      have HB1 := Lib.hid hb
      clear hb HC
      go_wp2_with (fail)
      refine (awake_any W1).mono ?_
      rintro e Wz ⟨rfl, hb⟩
      have HBz := Lib.hid (HB1.out.trans (hb.mono HB1.out.size))
      clear hb
      go_wp2_with (fail)
      go_ret
      exact ⟨rfl, HBz.out⟩
    · have d0 : decide (a < 0) = false := by simpa using h0
      by_cases h1 : (m : Int) ≤ a
      · have d1 : decide ((m : Int) ≤ a) = true := by simpa using h1
        clear HYES
        go_enter Try.func5, Try.ntmps5
        go_wp2_with (fail)
        refine HC.out.mono ?_
        rintro e W1 ⟨rfl, hb⟩
        have HB1 := Lib.hid hb
        clear hb HC
        go_wp2_with (fail)
        refine (awake_any W1).mono ?_
        rintro e Wz ⟨rfl, hb⟩
        have HBz := Lib.hid (HB1.out.trans (hb.mono HB1.out.size))
        clear hb
        go_wp2_with (fail)
        go_ret
        exact ⟨rfl, HBz.out⟩
      · have d1 : decide ((m : Int) ≤ a) = false := by simpa using h1
        by_cases h2 : b < 0
        · have d2 : decide (b < 0) = true := by simpa using h2
          clear HYES
          go_enter Try.func5, Try.ntmps5
          go_wp2_with (fail)
          refine HC.out.mono ?_
          rintro e W1 ⟨rfl, hb⟩
          have HB1 := Lib.hid hb
          clear hb HC
          go_wp2_with (fail)
          refine (awake_any W1).mono ?_
          rintro e Wz ⟨rfl, hb⟩
          have HBz := Lib.hid (HB1.out.trans (hb.mono HB1.out.size))
          clear hb
          go_wp2_with (fail)
          go_ret
          exact ⟨rfl, HBz.out⟩
        · have d2 : decide (b < 0) = false := by simpa using h2
          by_cases h3 : (m : Int) ≤ b
          · have d3 : decide ((m : Int) ≤ b) = true := by simpa using h3
            clear HYES
            go_enter Try.func5, Try.ntmps5
            go_wp2_with (fail)
            refine HC.out.mono ?_
            rintro e W1 ⟨rfl, hb⟩
            have HB1 := Lib.hid hb
            clear hb HC
            go_wp2_with (fail)
            refine (awake_any W1).mono ?_
            rintro e Wz ⟨rfl, hb⟩
            have HBz := Lib.hid (HB1.out.trans (hb.mono HB1.out.size))
            clear hb
            go_wp2_with (fail)
            go_ret
            exact ⟨rfl, HBz.out⟩
          · have d3 : decide ((m : Int) ≤ b) = false := by simpa using h3
            by_cases h4 : a = b
            · have d4 : (a == b) = true := by simpa using h4
              clear HYES
              go_enter Try.func5, Try.ntmps5
              go_wp2_with (fail)
              refine HC.out.mono ?_
              rintro e W1 ⟨rfl, hb⟩
              have HB1 := Lib.hid hb
              clear hb HC
              go_wp2_with (fail)
              refine (awake_any W1).mono ?_
              rintro e Wz ⟨rfl, hb⟩
              have HBz := Lib.hid (HB1.out.trans (hb.mono HB1.out.size))
              clear hb
              go_wp2_with (fail)
              go_ret
              exact ⟨rfl, HBz.out⟩
            · have d4 : (a == b) = false := by simpa using h4
              obtain ⟨hfl, hx⟩ := HYES.out
              obtain ⟨A, rfl⟩ : ∃ A : Nat, a = (A : Int) := ⟨a.toNat, by omega⟩
              obtain ⟨B, rfl⟩ : ∃ B : Nat, b = (B : Int) := ⟨b.toNat, by omega⟩
              have hA : A < m := by omega
              have hB : B < m := by omega
              have hAB : A ≠ B := by omega
              have hL : L.length ≤ 1000 := Nat.le_trans (fit_len hfl hm16) (by decide)
              have HLI : Hid (∀ w, Below W.heap.size W w → Lis w w.heap.size v L) := fun w hw => hx.below hw hw.size
              have HF := Lib.hid hfl
              have HL := Lib.hid hL
              obtain ⟨K, k1, k2, k3, k4, k5, k6⟩ := menger hfl hA hB hAB
              have hwl := (waysI_ok (a := (A : Int)) (b := (B : Int)) hfl).1
              obtain ⟨ws, hws⟩ : ∃ ws, ws = waysI L m (A : Int) (B : Int) := ⟨_, rfl⟩
              obtain ⟨t, ht⟩ : ∃ t, t = (mostI L m (A : Int) (B : Int)).2 := ⟨_, rfl⟩
              have k4' : K.length = t := by rw [ht]; exact k4
              have htl : t ≤ 1000 := by rw [ht]; exact Nat.le_trans (mostI_le hfl) hL
              rw [← hws, ← ht] at hwl
              have HWY : Hid (∀ w, Below W.heap.size W w → Calls Try.prog 18 #[.int .i64 (m : Int), v, .int .i64 (A : Int), .int .i64 (B : Int)] w fun e w' => (∃ v, e = .returned v ∧ OwnG w' w.heap.size v (nII ws)) ∧ Below w.heap.size w w') := fun w hw => by rw [hws]; exact ways_any w v m L A B (HLI.out w hw) HF.out HL.out hm16
              have HFL : Hid (∀ w, Below W.heap.size W w → Calls Try.prog 12 #[.int .i64 (m : Int), v, .int .i64 (A : Int), .int .i64 (B : Int)] w fun e w' => e = .returned (.int .i64 (t : Int)) ∧ Below w.heap.size w w') := fun w hw => by rw [ht]; exact flow_any w v m L A B (HLI.out w hw) HF.out HL.out hm16
              have HCU : Hid (∀ w, Below W.heap.size W w → Calls Try.prog 15 #[.int .i64 (m : Int), v, .int .i64 (A : Int), .int .i64 (B : Int)] w fun e w' => (∃ v, e = .returned v ∧ OwnL w' w.heap.size v (prI (K.map fun k => (endA L k, endB L k)))) ∧ Below w.heap.size w w') := fun w hw => by rw [← k3]; exact cut_any w v m L A B (HLI.out w hw) HF.out HL.out hm16
              have HRR : Hid (∀ (sk : List Bool) (sv : Value) (w : World), Below W.heap.size W w → Bls w w.heap.size sv sk → sk.length = L.length → Calls Try.prog 20 #[.int .i64 (m : Int), v, .int .i64 (A : Int), sv, .int .i64 (-1)] w fun e w' => (∃ b, e = .returned (.slice (some ⟨b, 0, none⟩) m m) ∧ RowB w' b (reachF L m A sk (-1)) ∧ w.heap.size ≤ b) ∧ Below w.heap.size w w') := fun sk sv w hw hs hl => rreach_any v sv L m A sk (-1) w (HLI.out w hw) hs HF.out hm16 HL.out hl hA
              obtain ⟨al, ac, hv, hac, hal⟩ := (HLI.out W (Below.refl _ _)).slice
              obtain ⟨ml, hml⟩ : ∃ x, x = L.length := ⟨_, rfl⟩
              have HML := Lib.hid hml
              rw [← hml] at hv hac hal hL
              have HK1 := Lib.hid k1
              have HK2 := Lib.hid k2
              have HK4 := Lib.hid k4'
              have HK5 := Lib.hid k5
              have HK6 := Lib.hid k6
              subst hv
              have hAm : 0 ≤ (A : Int) ∧ (A : Int) < (m : Int) := by omega
              have hBm : 0 ≤ (B : Int) ∧ (B : Int) < (m : Int) := by omega
              clear hx hfl ht hws k1 k2 k3 k4 k4' k5 k6 hml HYES
              go_enter Try.func5, Try.ntmps5
              go_wp2_with (fail)
              refine HC.out.mono ?_
              rintro e W1 ⟨rfl, hb⟩
              have HB1 := Lib.hid hb
              clear hb HC
              go_wp2_with (fail)
              refine (HCU.out W1 HB1.out).mono ?_
              rintro e W2 ⟨⟨cv, rfl, hoc⟩, hb⟩
              have HB2 := Lib.hid (HB1.out.trans (hb.mono HB1.out.size))
              have hlk := hoc.lks
              obtain ⟨aw, cw, rfl, hcw, -⟩ := hlk.slice
              have htw : (prI (K.map fun k => (endA L k, endB L k))).length = t := by rw [prI_len, List.length_map]; exact HK4.out
              rw [htw] at hlk hcw ⊢
              have HG2 := Lib.hid hlk
              clear hb hoc hlk HCU htw
              go_wp2_with (fail)
              refine (HFL.out W2 HB2.out).mono ?_
              rintro e W3 ⟨rfl, hb⟩
              have HB3 := Lib.hid (HB2.out.trans (hb.mono HB2.out.size))
              have HG3 := Lib.hid (HG2.out.below hb hb.size)
              clear hb HFL HG2
              go_wp2_with (fail)
              refine (HWY.out W3 HB3.out).mono ?_
              rintro e W4 ⟨⟨wv, rfl, hog⟩, hb⟩
              obtain ⟨ao2, cw2, rfl⟩ := hog.form
              have htw : (nII ws).length = t := by rw [List.length_map]; exact hwl
              rw [htw]
              have HB4 := Lib.hid (HB3.out.trans (hb.mono HB3.out.size))
              have HG4 : Hid (Lks W4 W4.heap.size (.slice aw t cw) (prI (K.map fun k => (endA L k, endB L k)))) := HG3.out.below hb hb.size
              clear hb hog HG3 HWY htw hwl
              go_wp2_with (refine wpList_make_bool rfl _ _ rfl ml rfl rfl (by omega) ?_)
              intro ub W5 hrow hge hbel
              have HU : Hid (MU W4 K ub ml 0 W5) := ⟨_, (fun p => by rw [List.getD_eq_getElem?_getD, List.getElem?_replicate]; split <;> simp), by simp, hrow, hbel⟩
              have HGE := Lib.hid hge
              clear hrow hge hbel
              go_wp2_with (fail)
              go_loopw [72] (fun jv wx => ∃ j : Nat, jv = .int .i64 (j : Int) ∧ j ≤ t ∧ Hid (MU W4 K ub ml j wx)) (fun jv _ => t - (intOf jv).toNat)
              case atStart => exact ⟨0, rfl, Nat.zero_le _, HU.out⟩
              case round =>
                clear HU
                obtain ⟨j, rfl, hj, HU⟩ := hrel
                by_cases hlt : j < t
                · have hjK : j < K.length := by have := HK4.out; omega
                  have hkL := HK2.out (K.getD j 0) (by have e : K.getD j 0 = K[j] := by simp [List.getD, hjK]
                                                       rw [e]; exact List.getElem_mem hjK)
                  have hu4 : Below W4.heap.size W4 wr := by obtain ⟨us, -, -, -, h⟩ := HU.out; exact h
                  obtain ⟨bl, ol, e1, hl1, cA, cB⟩ := Lis.at (HG4.out.below hu4 (Nat.le_refl _)) j (by rw [List.length_map]; exact hjK)
                  subst e1
                  obtain ⟨me1, me2⟩ := map_ends L hjK
                  rw [me1] at cA
                  rw [me2] at cB
                  obtain ⟨k, hk⟩ : ∃ k, k = K.getD j 0 := ⟨_, rfl⟩
                  rw [← hk] at hkL cA cB
                  obtain ⟨x, hx⟩ : ∃ x, x = endA L k := ⟨_, rfl⟩
                  obtain ⟨y, hy⟩ : ∃ x, x = endB L k := ⟨_, rfl⟩
                  rw [← hx] at cA
                  rw [← hy] at cB
                  have HED : Hid (Edge L k x y) := ⟨hkL, .inl ⟨hx.symm, hy.symm⟩⟩
                  have hkm : k < ml := by rw [HML.out]; exact hkL
                  have m1 := new_block wr (.cells #[.int .i64 (x : Int), .int .i64 (y : Int)] 38)
                  have HM : Hid (MU W4 K ub ml j (wr.alloc (.cells #[.int .i64 (x : Int), .int .i64 (y : Int)] 38))) := HU.out.keep m1.1
                  have HBA : Hid (Below W.heap.size W (wr.alloc (.cells #[.int .i64 (x : Int), .int .i64 (y : Int)] 38))) := (HB4.out.trans (hu4.mono HB4.out.size)).trans (m1.1.mono (by have := HB4.out.size; have := hu4.size; omega))
                  have HK := Lib.hid hk
                  have HJK := Lib.hid hjK
                  have hbw : bl < wr.heap.size := by have := hu4.size; omega
                  clear hjK hkL hu4 hl1 me1 me2 hk hx hy m1 HU
                  go_wp2_with (fail)
                  refine (place_any _ (.slice al ml ac) m L x y k (HLI.out _ HBA.out) HF.out HL.out HED.out).mono ?_
                  rintro e W6 ⟨rfl, hb⟩
                  have HM6 := Lib.hid (HM.out.keep hb)
                  clear hb HM
                  obtain ⟨us, u1, u2, u3, u4⟩ := HM6.out
                  have cup := u3.cell k (by rw [u2]; exact hkm)
                  have hfree := mark_free HK1.out u1 HJK.out
                  rw [← HK.out] at hfree
                  rw [hfree] at cup
                  have fup := RowV.frozen u3 k
                  have hub := u3.lt
                  have hpm2 : 0 ≤ (k : Int) ∧ (k : Int) < (ml : Int) := by omega
                  have hb0 : decide ((k : Int) < 0) = false := by rw [decide_eq_false_iff_not]; omega
                  have HU7 : Hid (MU W4 K ub ml (j + 1) (W6.setCell ⟨ub, k, none⟩ (.bool true))) := ⟨us.set k true, (by rw [HK.out]; exact mark_next u1 HJK.out (by rw [← HK.out, u2]; exact hkm)), by simpa using u2, u3.set k true, bel_set HGE.out u4⟩
                  clear u1 u2 u3 u4 us hfree HM6
                  go_wp2_with (fail)
                  go_roundw
                  case rel => exact ⟨j + 1, by go_num, by omega, HU7.out⟩
                  case measure => simp [intOf] <;> omega
                · obtain rfl : j = t := by omega
                  obtain ⟨us, u1, u2, u3, u4⟩ := HU.out
                  have hKt : K.take j = K := by rw [← HK4.out, List.take_length]
                  rw [hKt] at u1
                  have HUS := Lib.hid u1
                  have HUL := Lib.hid u2
                  have HR := Lib.hid u3
                  have HBE := Lib.hid u4
                  clear hKt u1 u2 u3 u4 HU
                  have hbw := HB4.out.trans (HBE.out.mono HB4.out.size)
                  have hbls := HR.out.bls (by rw [HUL.out]; omega)
                  rw [HUL.out] at hbls
                  have HR1 := Lib.hid (HRR.out us (.slice (some ⟨ub, 0, none⟩) ml ml) wr hbw hbls (by rw [HUL.out, HML.out]))
                  clear hbw hbls
                  go_wp2_with (fail)
                  refine HR1.out.mono ?_
                  rintro e W6 ⟨⟨rb, rfl, hrr, hrg⟩, hb⟩
                  have crb := hrr.cell B (by rw [reachF_len]; exact hB)
                  rw [HK5.out us HUS.out] at crb
                  have hrl := hrr.lt
                  have HR6 : Hid (RowB W6 ub us) := HR.out.keep hb
                  have HBE6 : Hid (Below W4.heap.size W4 W6) := HBE.out.trans (hb.mono HBE.out.size)
                  clear hrr hrg hb HR HBE HR1
                  go_wp2_with (fail)
                  clear crb hrl
                  go_loopw [104] (fun kv wx => ∃ k : Nat, kv = .int .i64 (k : Int) ∧ k ≤ ml ∧ Hid (RowB wx ub us) ∧ Hid (Below W4.heap.size W4 wx)) (fun kv _ => ml - (intOf kv).toNat)
                  case atStart => exact ⟨0, rfl, Nat.zero_le _, HR6.out, HBE6.out⟩
                  case round =>
                    clear HR6 HBE6
                    obtain ⟨k, rfl, hk, HR, HBE⟩ := hrel
                    by_cases hkm : k < ml
                    · have cup := HR.out.cell k (by rw [HUL.out]; exact hkm)
                      have fup := RowV.frozen HR.out k
                      have hub := HR.out.lt
                      have hpm2 : 0 ≤ (k : Int) ∧ (k : Int) < (ml : Int) := by omega
                      cases hq : us.getD k false with
                      | false =>
                        rw [hq] at cup
                        go_wp2_with (fail)
                        go_roundw
                        case rel => exact ⟨k + 1, by go_num, by omega, HR.out, HBE.out⟩
                        case measure => simp [intOf] <;> omega
                      | true =>
                        rw [hq] at cup
                        have HMK := Lib.hid ((HUS.out k).1 hq)
                        have HBS : Hid (Below W4.heap.size W4 (wr.setCell ⟨ub, k, none⟩ (.bool false))) := bel_set HGE.out HBE.out
                        have HRS : Hid (RowB (wr.setCell ⟨ub, k, none⟩ (.bool false)) ub (us.set k false)) := HR.out.set k false
                        have hbw := HB4.out.trans (HBS.out.mono HB4.out.size)
                        have hbls := HRS.out.bls (by rw [List.length_set, HUL.out]; omega)
                        rw [List.length_set, HUL.out] at hbls
                        have HR1 := Lib.hid (HRR.out (us.set k false) (.slice (some ⟨ub, 0, none⟩) ml ml) _ hbw hbls (by rw [List.length_set, HUL.out, HML.out]))
                        have HQ := Lib.hid hq
                        clear hbw hbls hq
                        go_wp2_with (fail)
                        refine HR1.out.mono ?_
                        rintro e W7 ⟨⟨rb, rfl, hrr, hrg⟩, hb⟩
                        have crb := hrr.cell B (by rw [reachF_len]; exact hB)
                        rw [HK6.out us k HUS.out HMK.out] at crb
                        have hrl := hrr.lt
                        have HR7 : Hid (RowB W7 ub (us.set k false)) := HRS.out.keep hb
                        have HBE7 : Hid (Below W4.heap.size W4 W7) := HBS.out.trans (hb.mono HBS.out.size)
                        have cup7 := HR7.out.cell k (by rw [List.length_set, HUL.out]; exact hkm)
                        have fup7 := RowV.frozen HR7.out k
                        have hub7 := HR7.out.lt
                        have HR8 : Hid (RowB (W7.setCell ⟨ub, k, none⟩ (.bool true)) ub us) := by
                          have h := HR7.out.set k true
                          rw [List.set_set] at h
                          have e : us.set k true = us := by
                            have hkl : k < us.length := by rw [HUL.out]; exact hkm
                            have e2 : us[k] = true := by have := HQ.out; simpa [List.getD, hkl] using this
                            rw [← e2, List.set_getElem_self]
                          rw [e] at h
                          exact h
                        have HBE8 : Hid (Below W4.heap.size W4 (W7.setCell ⟨ub, k, none⟩ (.bool true))) := bel_set HGE.out HBE7.out
                        clear hrr hrg hb HR1 HRS HBS HR7 HBE7 HR HBE cup fup hub
                        go_wp2_with (fail)
                        go_roundw
                        case rel => exact ⟨k + 1, by go_num, by omega, HR8.out, HBE8.out⟩
                        case measure => simp [intOf] <;> omega
                    · obtain rfl : k = ml := by omega
                      have HB9 : Hid (Below W.heap.size W wr) := HB4.out.trans (HBE.out.mono HB4.out.size)
                      go_wp2_with (fail)
                      refine (awake_any wr).mono ?_
                      rintro e Wz ⟨rfl, hb⟩
                      have HBz := Lib.hid (HB9.out.trans (hb.mono HB9.out.size))
                      clear hb
                      go_wp2_with (fail)
                      go_ret
                      exact ⟨rfl, HBz.out⟩
  · rw [fitB_false hf] at HC
    go_enter Try.func5, Try.ntmps5
    go_wp2_with (fail)
    refine HC.out.mono ?_
    rintro e W1 ⟨rfl, hb⟩
    have HB1 := Lib.hid hb
    clear hb HC
    go_wp2_with (fail)
    refine (awake_any W1).mono ?_
    rintro e Wz ⟨rfl, hb⟩
    have HBz := Lib.hid (HB1.out.trans (hb.mono HB1.out.size))
    clear hb
    go_wp2_with (fail)
    go_ret
    exact ⟨rfl, HBz.out⟩

end Go.Proofs.Ytenilbofncfbdaa

