/- Cuts: what the document's bridges, joints and blocks are: plain. No program here.
Cuts: the document's joined, Joints: walked.
Cuts: the document's Joints: walked.
Cuts: the document's Bridges: walked (by program: wip/tools/gen_ce3.py). -/
import Derived.Test.YtenilbofncfbdaaP5
import Derived.Test.YtenilbofncfbdaaCB
import Derived.Test.YtenilbofncfbdaaCD
import Derived.Test.YtenilbofncfbdaaCK
set_option linter.unusedSimpArgs false
set_option linter.unusedVariables false
namespace Go.Proofs.Ytenilbofncfbdaa

theorem but_get (m k j : Nat) (hj : j < m) : (butF m (k : Int)).getD j false = true ↔ j = k := by
  unfold butF
  rw [if_pos (by omega), Int.toNat_natCast]
  by_cases e : j = k
  · subst e
    rw [getD_set_same _ _ _ _ (by simpa using hj)]; simp
  · rw [getD_set_other _ _ _ _ _ (Ne.symm e), List.getD_eq_getElem?_getD, List.getElem?_replicate, if_pos hj]
    simp [e]
theorem but_none (m j : Nat) : (butF m (-1)).getD j false = false := by
  unfold butF
  rw [if_neg (by omega), List.getD_eq_getElem?_getD, List.getElem?_replicate]
  split <;> rfl
theorem reach_but {L : Prs} {n a : Nat} (hf : FitL n L) (ha : a < n) (k b : Nat) : (reachF L n a (butF L.length (k : Int)) (-1)).getD b false = true ↔ Way L (· ≠ k) All a b := by
  rw [reach_way hf ha]
  constructor
  · exact fun h => h.mono (fun _ _ => trivial) (fun j u v he _ _ h => fun e => by
      unfold okE at h
      rw [(but_get L.length k j he.1).2 e] at h; cases h)
  · exact fun h => h.mono (fun v _ => fun e => by omega) (fun j u v he _ _ h => by
      unfold okE
      cases c : (butF L.length (k : Int)).getD j false with
      | false => rfl
      | true => exact absurd ((but_get L.length k j he.1).1 c) h)
theorem reach_all {L : Prs} {n a : Nat} (hf : FitL n L) (ha : a < n) (b : Nat) : (reachF L n a (butF L.length (-1)) (-1)).getD b false = true ↔ Way L All All a b := by
  rw [reach_way hf ha]
  exact ⟨fun h => h.mono (fun _ _ => trivial) (fun j u v _ _ _ _ => trivial), fun h => h.mono (fun v _ => fun e => by omega) (fun j u v _ _ _ _ => but_none _ _)⟩
theorem reach_some {L : Prs} {n a : Nat} (hf : FitL n L) (ha : a < n) (v b : Nat) : (reachF L n a (butF L.length (-1)) (v : Int)).getD b false = true ↔ Way L All (· ≠ v) a b := by
  rw [reach_way hf ha]
  exact ⟨fun h => h.mono (fun x hx => fun e => hx (by omega)) (fun j u v _ _ _ _ => trivial), fun h => h.mono (fun x hx => fun e => hx (by omega)) (fun j u v _ _ _ _ => but_none _ _)⟩
theorem br_reach {L : Prs} {n k : Nat} (hf : FitL n L) (hk : k < L.length) : brI L n k = !(reachF L n (endA L k) (butF L.length (k : Int)) (-1)).getD (endB L k) false := by
  have he := ends_edge hk
  rw [Bool.eq_iff_iff, br_iff hf hk, Bool.not_eq_true', ← Bool.not_eq_true, reach_but hf (edge_lt hf he).1]
  exact ⟨fun h => h _ _ he, fun h => bridge_of he h⟩
theorem way_rest {L : Prs} {n a b : Nat} (hf : FitL n L) (hone : ∀ k, Way L (· ≠ k) All a b) : Way L (fun k => brI L n k = false) All a b := by
  have all : ∀ m, Way L (fun k => k < m → brI L n k = false) All a b := by
    intro m
    induction m with
    | zero => exact (hone 0).mono (fun _ h => h) (fun k u v _ _ _ _ => fun h => by omega)
    | succ m ih =>
      by_cases c : brI L n m = false
      · exact ih.mono (fun _ h => h) (fun k u v _ _ _ h => fun hk => by
          by_cases e : k = m
          · rw [e]; exact c
          · exact h (by omega))
      · have go : ∀ {x y}, Way L (fun j => (j < m → brI L n j = false) ∧ j ≠ m) All x y → Way L (fun k => k < m + 1 → brI L n k = false) All x y := fun h => h.mono (fun _ h => h) (fun k u v _ _ _ h => fun hk => h.1 (by have := h.2; omega))
        have av : ∀ {x y}, Way L (fun j => (j < m → brI L n j = false) ∧ j ≠ m) All x y → Way L (· ≠ m) All x y := fun h => h.mono (fun _ h => h) (fun k u v _ _ _ h => h.2)
        rcases way_split (k := m) ih with h | ⟨u, v, h3, h4, h5⟩
        · exact go h
        · exfalso
          have hbr : Bridge L m := (br_iff hf h3.1).1 (by cases h : brI L n m with | true => rfl | false => exact absurd h c)
          exact hbr u v h3 (((av h4).symm.trans (hone m)).trans (av h5).symm)
  exact (all L.length).mono (fun _ h => h) (fun k u v he _ _ h => h he.1)
/-- no bridge on the way, or none that alone parts -/
theorem joined_iff {L : Prs} {n a b : Nat} (hf : FitL n L) : (Way L All All a b ∧ ∀ k, k < L.length → Way L (· ≠ k) All a b) ↔ Way L (fun k => brI L n k = false) All a b := by
  constructor
  · rintro ⟨h1, h2⟩
    refine way_rest hf fun k => ?_
    by_cases hk : k < L.length
    · exact h2 k hk
    · exact h1.mono (fun _ h => h) (fun j u v he _ _ _ => fun e => hk (by rw [← e]; exact he.1))
  · intro h
    refine ⟨h.mono (fun _ h => h) (fun _ _ _ _ _ _ _ => trivial), fun k hk => ?_⟩
    by_cases c : brI L n k = true
    · exact h.mono (fun _ h => h) (fun j u v _ _ _ h => fun e => by rw [e, c] at h; cases h)
    · have hnb := not_bridge hk (fun hb => c ((br_iff hf hk).2 hb))
      clear c
      induction h with
      | nil _ => exact .nil trivial
      | @step y z e _ he _ _ ih =>
        by_cases c : e = k
        · subst c
          rcases he.2 with ⟨x1, x2⟩ | ⟨x1, x2⟩
          · rw [x1, x2] at hnb; exact ih.trans hnb
          · rw [x1, x2] at hnb; exact ih.trans hnb.symm
        · exact .step ih he c trivial
theorem way_lt {L : Prs} {n a b : Nat} {E N : Nat → Prop} (hf : FitL n L) (h : Way L E N a b) (hab : a ≠ b) : a < n ∧ b < n := by
  have last : ∀ {E N : Nat → Prop} {a b : Nat}, Way L E N a b → a ≠ b → b < n := fun h hab => by
    cases h with
    | nil _ => exact absurd rfl hab
    | step _ he _ _ => exact (edge_lt hf he).2.1
  exact ⟨last h.symm (Ne.symm hab), last h hab⟩
/-- is one of b's first m a node that v parts from a? -/
def prtB (L : Prs) (n v a : Nat) (m : Nat) : Bool := (List.range m).any fun b => decide (b ≠ v) && (reachF L n a (butF L.length (-1)) (-1)).getD b false && !(reachF L n a (butF L.length (-1)) (v : Int)).getD b false
/-- of a's first m -/
def prtA (L : Prs) (n v : Nat) (m : Nat) : Bool := (List.range m).any fun a => decide (a ≠ v) && prtB L n v a n
theorem prtB_succ (L : Prs) (n v a m : Nat) : prtB L n v a (m + 1) = (prtB L n v a m || (decide (m ≠ v) && (reachF L n a (butF L.length (-1)) (-1)).getD m false && !(reachF L n a (butF L.length (-1)) (v : Int)).getD m false)) := by
  unfold prtB
  rw [List.range_succ, List.any_append]
  simp
theorem prtA_succ (L : Prs) (n v m : Nat) : prtA L n v (m + 1) = (prtA L n v m || (decide (m ≠ v) && prtB L n v m n)) := by
  unfold prtA
  rw [List.range_succ, List.any_append]
  simp
theorem prt_joint {L : Prs} {n v : Nat} (hf : FitL n L) (hv : v < n) : prtA L n v n = joI L n v := by
  have hj : joI L n v = true ↔ Joint L v := (search_ok hf).2.2.2 v hv
  rw [Bool.eq_iff_iff, hj]
  unfold prtA prtB
  simp only [List.any_eq_true, List.mem_range, Bool.and_eq_true, decide_eq_true_eq, Bool.not_eq_true']
  constructor
  · rintro ⟨a, ha, hav, b, hb, ⟨hbv, h1⟩, h2⟩
    refine ⟨a, b, hav, hbv, (reach_all hf ha b).1 h1, fun h => ?_⟩
    rw [(reach_some hf ha v b).2 h] at h2; cases h2
  · rintro ⟨a, b, hav, hbv, h1, h2⟩
    have hab : a ≠ b := by rintro rfl; exact h2 (.nil hav)
    obtain ⟨ha, hb⟩ := way_lt hf h1 hab
    refine ⟨a, ha, hav, b, hb, ⟨hbv, (reach_all hf ha b).2 h1⟩, ?_⟩
    rw [← Bool.not_eq_true, reach_some hf ha v b]
    exact h2

end Go.Proofs.Ytenilbofncfbdaa

namespace Go.Proofs.Ytenilbofncfbdaa
open Go.RowKit

/-- Reach over but, at any world behind w -/
theorem reach_at (w : World) (lv : Value) (n : Nat) (L : Prs) (ml : Nat) (hml : ml = L.length) (hl : Lis w w.heap.size lv L) (hf : FitL n L) (hL : L.length ≤ 1000) (hn : n ≤ 16) :
    (∀ (i : Int) (W : World), Below w.heap.size w W → i < (ml : Int) → Calls Try.prog 39 #[lv, .int .i64 i] W fun e w' => (∃ b, e = .returned (.slice (some ⟨b, 0, none⟩) ml ml) ∧ RowB w' b (butF ml i) ∧ W.heap.size ≤ b) ∧ Below W.heap.size W w') ∧
    (∀ (a : Nat) (i wo : Int) (sb : Nat) (W : World), Below w.heap.size w W → RowB W sb (butF ml i) → a < n → Calls Try.prog 20 #[.int .i64 (n : Int), lv, .int .i64 (a : Int), .slice (some ⟨sb, 0, none⟩) ml ml, .int .i64 wo] W fun e w' => (∃ c, e = .returned (.slice (some ⟨c, 0, none⟩) n n) ∧ RowB w' c (reachF L n a (butF L.length i) wo) ∧ W.heap.size ≤ c) ∧ Below W.heap.size W w') := by
  subst hml
  refine ⟨fun i W hW hi => but_any lv L i W (hl.below hW hW.size) hL hi, fun a i wo sb W hW hr ha => ?_⟩
  have hb := hr.bls (by rw [butF_len]; omega)
  rw [butF_len] at hb
  exact rreach_any lv _ L n a (butF L.length i) wo W (hl.below hW hW.size) hb hf hn hL (butF_len _ _) ha

set_option maxRecDepth 100000 in
set_option maxHeartbeats 2000000 in
theorem rjoined_any (w : World) (lv : Value) (n : Nat) (L : Prs) (a b : Nat) (R : Bool) (hR : R = true ↔ Way L (fun k => brI L n k = false) All a b) (hl : Lis w w.heap.size lv L) (hf : FitL n L) (hL : L.length ≤ 1000) (hn : n ≤ 16) (ha : a < n) (hb : b < n) :
    Calls Try.prog 43 #[.int .i64 (n : Int), lv, .int .i64 (a : Int), .int .i64 (b : Int)] w fun e w' => e = .returned (.bool R) ∧ Below w.heap.size w w' := by
  obtain ⟨ml, hml⟩ : ∃ x, x = L.length := ⟨_, rfl⟩
  obtain ⟨h1, h2⟩ := reach_at w lv n L ml hml hl hf hL hn
  have HBUT := Lib.hid h1
  have HRE : Hid (∀ (i : Int) (sb : Nat) (W : World), Below w.heap.size w W → RowB W sb (butF ml i) → Calls Try.prog 20 #[.int .i64 (n : Int), lv, .int .i64 (a : Int), .slice (some ⟨sb, 0, none⟩) ml ml, .int .i64 (-1)] W fun e w' => (∃ c, e = .returned (.slice (some ⟨c, 0, none⟩) n n) ∧ RowB w' c (reachF L n a (butF L.length i) (-1)) ∧ W.heap.size ≤ c) ∧ Below W.heap.size W w') := fun i sb W hW hr => h2 a i (-1) sb W hW hr ha
  have HALL := Lib.hid (reach_all hf ha b)
  have HONE : Hid (∀ k : Nat, (reachF L n a (butF L.length (k : Int)) (-1)).getD b false = true ↔ Way L (· ≠ k) All a b) := fun k => reach_but hf ha k b
  have HRR := Lib.hid (hR.trans (joined_iff hf).symm)
  have hbn : 0 ≤ (b : Int) ∧ (b : Int) < (n : Int) := by omega
  have HML := Lib.hid hml
  obtain ⟨al, ac, rfl, hac, hal⟩ := hl.slice
  rw [← hml] at hac hal hL HBUT HRE HALL HONE ⊢
  clear hl hf h1 h2 hml hR
  go_enter Try.func43, Try.ntmps43
  go_wp2_with (fail)
  refine (HBUT.out (-1) w (Below.refl _ _) (by omega)).mono ?_
  rintro e W1 ⟨⟨sb, rfl, hsb, -⟩, hb1⟩
  have HB1 := Lib.hid hb1
  have HC := Lib.hid (HRE.out (-1) sb W1 hb1 hsb)
  clear hsb hb1
  go_wp2_with (fail)
  refine HC.out.mono ?_
  rintro e W2 ⟨⟨cb, rfl, hcb, -⟩, hb2⟩
  have HB2 := Lib.hid (HB1.out.trans (hb2.mono HB1.out.size))
  have cbb := hcb.cell b (by rw [reachF_len]; exact hb)
  have hcl := hcb.lt
  have HQ := HALL.out
  obtain ⟨q, hq⟩ : ∃ q, q = (reachF L n a (butF ml (-1)) (-1)).getD b false := ⟨_, rfl⟩
  rw [← hq] at cbb HQ
  have HQQ := Lib.hid HQ
  clear hcb hb2 HQ hq HC HALL
  cases q with
  | false =>
    have HE : Hid (R = false) := by
      show _ = _
      rw [← Bool.not_eq_true, HRR.out]
      rintro ⟨h, -⟩
      have := HQQ.out.2 h; cases this
    go_wp2_with (fail)
    go_ret
    rw [HE.out]
    exact ⟨rfl, HB2.out⟩
  | true =>
    have HW0 : Hid (Way L All All a b) := HQQ.out.1 rfl
    go_wp2_with (fail)
    clear cbb hcl
    go_loopw [9] (fun iv wx => ∃ i : Nat, iv = .int .i64 (i : Int) ∧ i ≤ ml ∧ Hid (∀ k, k < i → Way L (· ≠ k) All a b) ∧ Hid (Below w.heap.size w wx)) (fun iv _ => ml - (intOf iv).toNat)
    case atStart => exact ⟨0, rfl, Nat.zero_le _, (by show ∀ k, _; omega), HB2.out⟩
    case round =>
      obtain ⟨i, rfl, hi, HW, HB⟩ := hrel
      by_cases hlt : i < ml
      · have HC1 := Lib.hid (HBUT.out (i : Int) wr HB.out (by omega))
        go_wp2_with (fail)
        refine HC1.out.mono ?_
        rintro e W3 ⟨⟨sb, rfl, hsb, -⟩, hb1⟩
        have HB3 := Lib.hid (HB.out.trans (hb1.mono HB.out.size))
        have HC := Lib.hid (HRE.out (i : Int) sb W3 HB3.out hsb)
        clear hsb hb1 HC1
        go_wp2_with (fail)
        refine HC.out.mono ?_
        rintro e W4 ⟨⟨cb, rfl, hcb, -⟩, hb2⟩
        have HB4 := Lib.hid (HB3.out.trans (hb2.mono HB3.out.size))
        have cbb := hcb.cell b (by rw [reachF_len]; exact hb)
        have hcl := hcb.lt
        have HQ := HONE.out i
        obtain ⟨q, hq⟩ : ∃ q, q = (reachF L n a (butF ml (i : Int)) (-1)).getD b false := ⟨_, rfl⟩
        rw [← hq] at cbb HQ
        have HQQ := Lib.hid HQ
        clear hcb hb2 HQ hq HC
        cases q with
        | false =>
          have HE : Hid (R = false) := by
            show _ = _
            rw [← Bool.not_eq_true, HRR.out]
            rintro ⟨-, h⟩
            have := HQQ.out.2 (h i (by rw [← HML.out]; exact hlt)); cases this
          go_wp2_with (fail)
          go_ret
          rw [HE.out]
          exact ⟨rfl, HB4.out⟩
        | true =>
          have HW2 : Hid (∀ k, k < i + 1 → Way L (· ≠ k) All a b) := fun k hk => by
            by_cases e : k = i
            · rw [e]; exact HQQ.out.1 rfl
            · exact HW.out k (by omega)
          go_wp2_with (fail)
          go_roundw
          case rel => exact ⟨i + 1, by go_num, by omega, HW2.out, HB4.out⟩
          case measure => simp [intOf] <;> omega
      · obtain rfl : ml = i := by omega
        have HE : Hid (R = true) := HRR.out.2 ⟨HW0.out, fun k hk => HW.out k (by rw [HML.out]; exact hk)⟩
        go_wp2_with (fail)
        go_ret
        rw [HE.out]
        exact ⟨rfl, HB.out⟩

end Go.Proofs.Ytenilbofncfbdaa

namespace Go.Proofs.Ytenilbofncfbdaa
open Go.RowKit

/-- the row so far, and that nothing below is changed -/
def NB (w : World) (ov : Value) (xs : List Int) (W : World) : Prop := OwnN W w.heap.size ov xs ∧ Below w.heap.size w W
theorem NB.below {w W W' : World} {ov : Value} {xs : List Int} (h : NB w ov xs W) (hb : Below W.heap.size W W') : NB w ov xs W' := ⟨owns_below h.1 hb, h.2.trans (hb.mono h.2.size)⟩

set_option maxRecDepth 100000 in
set_option maxHeartbeats 2000000 in
theorem rjoints_any (w : World) (lv : Value) (n : Nat) (L : Prs) (hl : Lis w w.heap.size lv L) (hf : FitL n L) (hL : L.length ≤ 1000) (hn : n ≤ 16) :
    Calls Try.prog 27 #[.int .i64 (n : Int), lv] w fun e w' => (∃ v, e = .returned v ∧ OwnN w' w.heap.size v (nI (jointsI L n))) ∧ Below w.heap.size w w' := by
  obtain ⟨ml, hml⟩ : ∃ x, x = L.length := ⟨_, rfl⟩
  obtain ⟨h1, h2⟩ := reach_at w lv n L ml hml hl hf hL hn
  have HBUT := Lib.hid h1
  have HRE := Lib.hid h2
  have HPJ : Hid (∀ v, v < n → prtA L n v n = joI L n v) := fun v hv => prt_joint hf hv
  obtain ⟨al, ac, rfl, hac, hal⟩ := hl.slice
  rw [← hml] at hac hal hL HBUT HRE ⊢
  have HML := Lib.hid hml
  have HR : Hid (jointsI L n = (List.range n).filter (joI L n)) := rfl
  obtain ⟨R, hRR⟩ : ∃ R, R = jointsI L n := ⟨_, rfl⟩
  rw [← hRR] at HR ⊢
  obtain ⟨P, hP⟩ : ∃ P, P = joI L n := ⟨_, rfl⟩
  rw [← hP] at HPJ HR
  clear hl hf h1 h2 hml hRR hP
  go_enter Try.func27, Try.ntmps27
  go_wp2_with (fail)
  go_loopw [5, 6] (fun ov vv wx => ∃ v no co : Nat, ∃ ao, ov = .slice ao no co ∧ vv = .int .i64 (v : Int) ∧ v ≤ n ∧ Hid (NB w (.slice ao no co) (nI ((List.range v).filter P)) wx)) (fun _ vv _ => n - (intOf vv).toNat)
  case atStart => exact ⟨0, 0, 0, none, rfl, rfl, Nat.zero_le _, OwnN.nil _ _, Below.refl _ _⟩
  case round =>
    obtain ⟨v, no, co, ao, rfl, rfl, hv, HN⟩ := hrel
    by_cases hlt : v < n
    · have HPV := Lib.hid (HPJ.out v hlt)
      go_wp2_with (fail)
      go_loopw [7, 8] (fun sv av wx => ∃ a : Nat, ∃ s : Bool, sv = .bool s ∧ av = .int .i64 (a : Int) ∧ a ≤ n ∧ Hid (s = prtA L n v a) ∧ Hid (NB w (.slice ao no co) (nI ((List.range v).filter P)) wx)) (fun _ av _ => n - (intOf av).toNat)
      case atStart => exact ⟨0, false, rfl, rfl, Nat.zero_le _, rfl, HN.out⟩
      case round =>
        clear HN
        obtain ⟨a, s, rfl, rfl, ha, HS, HN⟩ := hrel
        by_cases halt : a < n
        · by_cases hav : a = v
          · have HE : Hid (s = prtA L n v (a + 1)) := by show _ = _; rw [prtA_succ, HS.out]; simp [hav]
            have hab : ((a : Int) == (v : Int)) = true := by rw [beq_iff_eq, hav]
            clear hav
            go_wp2_with (fail)
            go_roundw
            case rel => exact ⟨a + 1, s, rfl, by go_num, by omega, HE.out, HN.out⟩
            case measure => simp [intOf] <;> omega
          · have hab : ((a : Int) == (v : Int)) = false := by rw [beq_eq_false_iff_ne]; omega
            have HE : Hid (prtA L n v (a + 1) = (s || prtB L n v a n)) := by show _ = _; rw [prtA_succ, HS.out]; simp [hav]
            have HC1 := Lib.hid (HBUT.out (-1) wr HN.out.2 (by omega))
            clear hav
            go_wp2_with (fail)
            refine HC1.out.mono ?_
            rintro e W1 ⟨⟨sb, rfl, hsb, -⟩, hb⟩
            have HN1 := Lib.hid (HN.out.below hb)
            have HC2 := Lib.hid (HRE.out a (-1) (-1) sb W1 HN1.out.2 hsb halt)
            clear hb hsb HN HC1
            go_wp2_with (fail)
            refine HC2.out.mono ?_
            rintro e W2 ⟨⟨xb, rfl, hxb, -⟩, hb⟩
            have HN2 := Lib.hid (HN1.out.below hb)
            have HX2 := Lib.hid hxb
            have HC3 := Lib.hid (HBUT.out (-1) W2 HN2.out.2 (by omega))
            clear hb hxb HN1 HC2
            go_wp2_with (fail)
            refine HC3.out.mono ?_
            rintro e W3 ⟨⟨sb2, rfl, hsb, -⟩, hb⟩
            have HN3 := Lib.hid (HN2.out.below hb)
            have HX3 : Hid (RowB W3 xb _) := HX2.out.keep hb
            have HC4 := Lib.hid (HRE.out a (-1) (v : Int) sb2 W3 HN3.out.2 hsb halt)
            clear hb hsb HN2 HX2 HC3
            go_wp2_with (fail)
            refine HC4.out.mono ?_
            rintro e W4 ⟨⟨yb, rfl, hyb, -⟩, hb⟩
            have HN4 := Lib.hid (HN3.out.below hb)
            have HX4 : Hid (RowB W4 xb (reachF L n a (butF ml (-1)) (-1))) := HX3.out.keep hb
            have HY4 : Hid (RowB W4 yb (reachF L n a (butF ml (-1)) (v : Int))) := hyb
            clear hb hyb HN3 HX3 HC4
            go_wp2_with (fail)
            go_loopw [7, 11] (fun sv bv wx => ∃ b : Nat, ∃ t : Bool, sv = .bool t ∧ bv = .int .i64 (b : Int) ∧ b ≤ n ∧ Hid (t = (s || prtB L n v a b)) ∧ Hid (wx = W4)) (fun _ bv _ => n - (intOf bv).toNat)
            case atStart => exact ⟨0, s, rfl, rfl, Nat.zero_le _, (by show _ = _; simp [prtB]), rfl⟩
            case round =>
              obtain ⟨b, t, rfl, rfl, hb, HT, HW⟩ := hrel
              have hww := HW.out
              subst hww
              by_cases hbl : b < n
              · have cx := HX4.out.cell b (by rw [reachF_len]; exact hbl)
                have cy := HY4.out.cell b (by rw [reachF_len]; exact hbl)
                have hxl := HX4.out.lt
                have hyl := HY4.out.lt
                have hbn : 0 ≤ (b : Int) ∧ (b : Int) < (n : Int) := by omega
                have hst := prtB_succ L n v a b
                rw [← HML.out] at hst
                obtain ⟨x, hx⟩ : ∃ x, x = (reachF L n a (butF ml (-1)) (-1)).getD b false := ⟨_, rfl⟩
                obtain ⟨y, hy⟩ : ∃ x, x = (reachF L n a (butF ml (-1)) (v : Int)).getD b false := ⟨_, rfl⟩
                rw [← hx] at cx hst
                rw [← hy] at cy hst
                have HST : Hid ((s || prtB L n v a (b + 1)) = (t || (decide (b ≠ v) && x && !y))) := by show _ = _; rw [hst, HT.out, Bool.or_assoc]
                clear hst hx hy HW
                cases t with
                | true =>
                  have HE2 : Hid (true = (s || prtB L n v a (b + 1))) := by show _ = _; rw [HST.out]; rfl
                  go_wp2_with (fail)
                  go_roundw
                  case rel => exact ⟨b + 1, true, rfl, by go_num, by omega, HE2.out, trivial⟩
                  case measure => simp [intOf] <;> omega
                | false =>
                  by_cases hbv : b = v
                  · have hnb : ((b : Int) != (v : Int)) = false := by rw [hbv]; simp
                    have HE2 : Hid (false = (s || prtB L n v a (b + 1))) := by show _ = _; rw [HST.out]; simp [hbv]
                    clear hbv
                    go_wp2_with (fail)
                    go_roundw
                    case rel => exact ⟨b + 1, false, rfl, by go_num, by omega, HE2.out, trivial⟩
                    case measure => simp [intOf] <;> omega
                  · have hnb : ((b : Int) != (v : Int)) = true := by rw [bne_iff_ne]; omega
                    cases x with
                    | false =>
                      have HE2 : Hid (false = (s || prtB L n v a (b + 1))) := by show _ = _; rw [HST.out]; simp
                      clear hbv
                      go_wp2_with (fail)
                      go_roundw
                      case rel => exact ⟨b + 1, false, rfl, by go_num, by omega, HE2.out, trivial⟩
                      case measure => simp [intOf] <;> omega
                    | true =>
                      have HE2 : Hid ((!y) = (s || prtB L n v a (b + 1))) := by show _ = _; rw [HST.out]; simp [hbv]
                      clear hbv
                      go_wp2_with (fail)
                      go_roundw
                      case rel => exact ⟨b + 1, !y, rfl, by go_num, by omega, HE2.out, trivial⟩
                      case measure => simp [intOf] <;> omega
              · obtain rfl : n = b := by omega
                have HE2 : Hid (t = prtA L n v (a + 1)) := by show _ = _; rw [HE.out, HT.out]
                go_wp2_with (fail)
                go_roundw
                case rel => exact ⟨a + 1, t, rfl, by go_num, by omega, HE2.out, HN4.out⟩
                case measure => simp [intOf] <;> omega
        · obtain rfl : n = a := by omega
          have HSV : Hid (s = P v) := by show _ = _; rw [HS.out, HPV.out]
          cases s with
          | false =>
            have HN5 : Hid (NB w (.slice ao no co) (nI ((List.range (v + 1)).filter P)) wr) := by
              show NB _ _ _ _
              rw [List.range_succ, List.filter_append, List.filter_cons, ← HSV.out]
              simpa using HN.out
            go_wp2_with (fail)
            go_roundw
            case rel => exact ⟨v + 1, no, co, ao, rfl, by go_num, by omega, HN5.out⟩
            case measure => simp [intOf] <;> omega
          | true =>
            have m1 := new_block wr (.cells #[.int .i64 (v : Int)] 3)
            have HN5 := Lib.hid (HN.out.below m1.1)
            have HM := Lib.hid m1.2
            have HSM : Hid ((nI ((List.range v).filter P)).length ≤ 1000000) := by show _ ≤ _; rw [List.length_map]; have := List.length_filter_le P (List.range v); rw [List.length_range] at this; omega
            have HSZ : Hid (w.heap.size ≤ (wr.alloc (.cells #[.int .i64 (v : Int)] 3)).heap.size) := HN5.out.2.size
            clear m1
            go_wp2_with (at_builtin; refine wpList_append_n rfl _ _ rfl w.heap.size _ _ rfl HN5.out.1 wr.heap.size (v : Int) rfl HM.out HSM.out HSZ.out ?_)
            intro v5 W5 ho5 hg5
            have HN6 : Hid (NB w v5 (nI ((List.range (v + 1)).filter P)) W5) := by
              refine ⟨?_, grown_low HN5.out.1 hg5 HN5.out.2 (Nat.le_refl _) HSZ.out⟩
              rw [List.range_succ, List.filter_append, List.filter_cons, ← HSV.out]
              simpa [nI] using ho5
            obtain ⟨av5, cv5, hv5⟩ := owns_form ho5
            clear ho5 hg5
            subst hv5
            go_wp2_with (fail)
            go_roundw
            case rel => exact ⟨v + 1, _, cv5, av5, rfl, by go_num, by omega, HN6.out⟩
            case measure => simp [intOf] <;> omega
    · obtain rfl : n = v := by omega
      have HE : Hid (OwnN wr w.heap.size (.slice ao no co) (nI R) ∧ Below w.heap.size w wr) := by
        show _ ∧ _
        rw [HR.out]
        exact HN.out
      go_wp2_with (fail)
      go_ret
      exact ⟨⟨_, rfl, HE.out.1⟩, HE.out.2⟩

end Go.Proofs.Ytenilbofncfbdaa

namespace Go.Proofs.Ytenilbofncfbdaa
open Go.RowKit

/-- in the region that asks Reach: what the two calls have left -/
structure BJ (w0 : World) (ml n y : Nat) (S RE : List Bool) (d : Nat → Bool) (vs : Nat → Value) (W : World) : Prop where
 low : Below w0.heap.size w0 W
 h9 : d 9 = true → ∃ b, vs 9 = .slice (some ⟨b, 0, none⟩) ml ml ∧ RowB W b S
 h10 : d 10 = true → ∃ c, vs 10 = .slice (some ⟨c, 0, none⟩) n n ∧ RowB W c RE
 h16 : d 16 = true → ∃ c, vs 16 = .pointer (some ⟨c, y, none⟩) ∧ RowB W c RE
section
variable {w0 : World} {ml n y : Nat} {S RE : List Bool} {d : Nat → Bool} {vs : Nat → Value} {W : World}
theorem BJ.start (vs : Nat → Value) : BJ w0 ml n y S RE (fun _ => false) vs w0.drew := ⟨bdN _ _ 1, (fun h => by cases h), (fun h => by cases h), (fun h => by cases h)⟩
theorem BJ.grow {W' : World} (h : BJ w0 ml n y S RE d vs W) (hb : Below W.heap.size W W') : BJ w0 ml n y S RE d vs W' :=
 ⟨h.low.trans (hb.mono h.low.size), fun e => by obtain ⟨b, h1, h2⟩ := h.h9 e; exact ⟨b, h1, h2.keep hb⟩, fun e => by obtain ⟨b, h1, h2⟩ := h.h10 e; exact ⟨b, h1, h2.keep hb⟩, fun e => by obtain ⟨b, h1, h2⟩ := h.h16 e; exact ⟨b, h1, h2.keep hb⟩⟩
theorem BJ.upd (h : BJ w0 ml n y S RE d vs W) (i : Nat) (v : Value) (a9 : i = 9 → ∃ b, v = .slice (some ⟨b, 0, none⟩) ml ml ∧ RowB W b S) (a10 : i = 10 → ∃ c, v = .slice (some ⟨c, 0, none⟩) n n ∧ RowB W c RE) (a16 : i = 16 → ∃ c, v = .pointer (some ⟨c, y, none⟩) ∧ RowB W c RE) : BJ w0 ml n y S RE (updC d i) (updW vs i v) W := by
 have dC : ∀ j, updC d i j = true → j = i ∨ (j ≠ i ∧ d j = true) := fun j e => by
  by_cases c : j = i
  ·exact .inl c
  ·rw [updC_ne c] at e; exact .inr ⟨c, e⟩
 refine ⟨h.low, fun e => ?_, fun e => ?_, fun e => ?_⟩
 ·rcases dC _ e with c | ⟨c, e2⟩
  ·rw [← c, updW_eq]; exact a9 c.symm
  ·rw [updW_ne c]; exact h.h9 e2
 ·rcases dC _ e with c | ⟨c, e2⟩
  ·rw [← c, updW_eq]; exact a10 c.symm
  ·rw [updW_ne c]; exact h.h10 e2
 ·rcases dC _ e with c | ⟨c, e2⟩
  ·rw [← c, updW_eq]; exact a16 c.symm
  ·rw [updW_ne c]; exact h.h16 e2
theorem BJ.quiet (h : BJ w0 ml n y S RE d vs W) (i : Nat) (v : Value) (h9 : i ≠ 9 ∧ i ≠ 10 ∧ i ≠ 16) : BJ w0 ml n y S RE (updC d i) (updW vs i v) W := h.upd i v (fun e => absurd e h9.1) (fun e => absurd e h9.2.1) (fun e => absurd e h9.2.2)
end
/-- the links so far -/
def LB (w : World) (ov : Value) (xs : Ipr) (W : World) : Prop := OwnL W w.heap.size ov xs ∧ Below w.heap.size w W
theorem LB.below {w W W' : World} {ov : Value} {xs : Ipr} (h : LB w ov xs W) (hb : Below W.heap.size W W') : LB w ov xs W' := ⟨owns_below h.1 hb, h.2.trans (hb.mono h.2.size)⟩

set_option maxRecDepth 100000 in
set_option maxHeartbeats 4000000 in
theorem rbridges_any (w : World) (lv : Value) (n : Nat) (L : Prs) (hl : Lis w w.heap.size lv L) (hf : FitL n L) (hL : L.length ≤ 1000) (hn : n ≤ 16) :
  Calls Try.prog 25 #[.int .i64 (n : Int), lv] w fun e w' => (∃ v, e = .returned v ∧ OwnL w' w.heap.size v (prI (bridgesI L n))) ∧ Below w.heap.size w w' := by
 obtain ⟨ml, hml⟩ : ∃ x, x = L.length := ⟨_, rfl⟩
 obtain ⟨h1, h2⟩ := reach_at w lv n L ml hml hl hf hL hn
 have HBUT := Lib.hid h1
 have HRE := Lib.hid h2
 have HBR : Hid (∀ k, k < ml → brI L n k = !(reachF L n (endA L k) (butF L.length (k : Int)) (-1)).getD (endB L k) false) := fun k hk => br_reach hf (by rw [← hml]; exact hk)
 have HLI : Hid (∀ W, Below w.heap.size w W → Lis W W.heap.size lv L) := fun W hW => hl.below hW hW.size
 have HF := Lib.hid hf
 obtain ⟨al, ac, rfl, hac, hal⟩ := hl.slice
 rw [← hml] at hac hal hL HBUT HRE HBR HLI ⊢
 have HML := Lib.hid hml
 have HR : Hid (bridgesI L n = pickN L (brI L n) ml) := by show _ = _; rw [hml]; rfl
 obtain ⟨R, hRR⟩ : ∃ R, R = bridgesI L n := ⟨_, rfl⟩
 rw [← hRR] at HR ⊢
 obtain ⟨P, hP⟩ : ∃ P, P = brI L n := ⟨_, rfl⟩
 rw [← hP] at HBR HR
 clear hl hf h1 h2 hml hRR hP
 go_enter Try.func25, Try.ntmps25
 go_wp2_with (fail)
 go_loopw [5, 6] (fun ov iv wx => ∃ i no co : Nat, ∃ ao, ov = .slice ao no co ∧ iv = .int .i64 (i : Int) ∧ i ≤ ml ∧ Hid (LB w (.slice ao no co) (prI (pickN L P i)) wx)) (fun _ iv _ => ml - (intOf iv).toNat)
 case atStart => exact ⟨0, 0, 0, none, rfl, rfl, Nat.zero_le _, OwnL.nil _ _, Below.refl _ _⟩
 case round =>
  obtain ⟨i, no, co, ao, rfl, rfl, hi, HN⟩ := hrel
  by_cases hlt : i < ml
  ·have hkL : i < L.length := by rw [← HML.out]; exact hlt
   obtain ⟨bl, ol, e1, hl1, cA, cB⟩ := Lis.at (HLI.out wr HN.out.2) i hkL
   subst e1
   have hpk := HBR.out i hlt
   have hed := edge_lt HF.out (ends_edge hkL)
   have hst : pickN L P (i + 1) = pickN L P i ++ (if P i then [(endA L i, endB L i)] else []) := rfl
   obtain ⟨x, hx⟩ : ∃ x, x = endA L i := ⟨_, rfl⟩
   obtain ⟨y, hy⟩ : ∃ x, x = endB L i := ⟨_, rfl⟩
   rw [← hx] at cA hpk hed hst
   rw [← hy] at cB hpk hed hst
   have HST := Lib.hid hst
   obtain ⟨S, hS⟩ : ∃ S, S = butF ml (i : Int) := ⟨_, rfl⟩
   obtain ⟨RE, hRE⟩ : ∃ S, S = reachF L n x (butF L.length (i : Int)) (-1) := ⟨_, rfl⟩
   have HREL : Hid (RE.length = n) := by show _ = _; rw [hRE, reachF_len]
   have HB1 : Hid (∀ W, Below w.heap.size w W → Calls Try.prog 39 #[.slice (some ⟨bl, ol, none⟩) ml ac, .int .i64 (i : Int)] W fun e w' => (∃ b, e = .returned (.slice (some ⟨b, 0, none⟩) ml ml) ∧ RowB w' b S ∧ W.heap.size ≤ b) ∧ Below W.heap.size W w') := fun W hW => by rw [hS]; exact HBUT.out (i : Int) W hW (by omega)
   have HB2 : Hid (∀ (sb : Nat) W, Below w.heap.size w W → RowB W sb S → Calls Try.prog 20 #[.int .i64 (n : Int), .slice (some ⟨bl, ol, none⟩) ml ac, .int .i64 (x : Int), .slice (some ⟨sb, 0, none⟩) ml ml, .int .i64 (-1)] W fun e w' => (∃ c, e = .returned (.slice (some ⟨c, 0, none⟩) n n) ∧ RowB w' c RE ∧ W.heap.size ≤ c) ∧ Below W.heap.size W w') := fun sb W hW hr => by
    have h := HRE.out x (i : Int) (-1) sb W hW (by rw [← hS]; exact hr) hed.1
    rw [hRE]
    simpa only [HML.out] using h
   rw [← HML.out] at hRE
   obtain ⟨q, hq⟩ : ∃ q, q = RE.getD y false := ⟨_, rfl⟩
   have HPQ : Hid (P i = !q) := by show _ = _; rw [hpk, hq, hRE]
   have HQ := Lib.hid hq
   have hyn := hed.2.1
   have HBW := Lib.hid HN.out.2
   have HCA : Hid (∀ W, Below wr.heap.size wr W → W.cell? ⟨bl, ol + i * 2, none⟩ = some (.int .i64 (x : Int))) := fun W hW => (hW.cell (p := ⟨bl, ol + i * 2, none⟩) hl1).trans cA
   have HCB : Hid (∀ W, Below wr.heap.size wr W → W.cell? ⟨bl, ol + i * 2 + 1, none⟩ = some (.int .i64 (y : Int))) := fun W hW => (hW.cell (p := ⟨bl, ol + i * 2 + 1, none⟩) hl1).trans cB
   have hin : 0 ≤ (i : Int) ∧ (i : Int) < (ml : Int) := by omega
   have hyn2 : 0 ≤ (y : Int) ∧ (y : Int) < (n : Int) := by omega
   clear hx hy hpk hed hst hS hRE hq hkL
   go_wp2_with (fail)
   refine wpIn_wide (n := 5).1 (wpIn_flowM (F0 := Fence.wide) (n0 := 5) (fun _ => trivial) (fun h => by cases h) (by kernel_rfl) (by kernel_rfl) 19 19 (by kernel_rfl) (fun j => ([0, 1, 2, 3, 4, 5, 6, 7, 8, 9, 10, 11, 12, 13, 14, 15, 16, 17, 18] : List Nat).getD j 0) (fun j => ([13, 14, 15, 16, 17, 18, 19, 20, 21, 22, 23, 24, 25, 26, 27, 28, 29, 30, 31] : List Nat).getD j 0) (by kernel_rfl) (by kernel_rfl) (by kernel_rfl) (by kernel_rfl) (by kernel_rfl) (by kernel_rfl) (by kernel_rfl) (fun j zv => ([(fun zv => zv = (.int .i64 (n : Int))), (fun zv => zv = (.slice (some ⟨bl, ol, none⟩) ml ac)), (fun zv => zv = (.slice (some ⟨bl, ol, none⟩) ml ac)), (fun zv => zv = (.int .i64 (i : Int))), (fun zv => zv = (.pointer (some ⟨bl, ol + i * 2, none⟩))), (fun zv => zv = (.pointer (some ⟨bl, ol + i * 2, none⟩))), (fun zv => zv = (.int .i64 (x : Int))), (fun zv => zv = (.slice (some ⟨bl, ol, none⟩) ml ac)), (fun zv => zv = (.int .i64 (i : Int))), (fun zv => ∃ b, zv = .slice (some ⟨b, 0, none⟩) ml ml), (fun zv => ∃ b, zv = .slice (some ⟨b, 0, none⟩) n n), (fun zv => zv = (.slice (some ⟨bl, ol, none⟩) ml ac)), (fun zv => zv = (.int .i64 (i : Int))), (fun zv => zv = (.pointer (some ⟨bl, ol + i * 2, none⟩))), (fun zv => zv = (.pointer (some ⟨bl, ol + i * 2 + 1, none⟩))), (fun zv => zv = (.int .i64 (y : Int))), (fun zv => ∃ b, zv = .pointer (some ⟨b, y, none⟩)), (fun zv => zv = (.bool q)), (fun zv => zv = (.bool (!q)))] : List (Value → Prop)).getD j (fun _ => True) zv) (fun d vs W => BJ wr ml n y S RE d vs W) ?h0c ?stepc ?finc)
   case h0c => exact fun vs => BJ.start vs
   case stepc =>
    intro i o a W d vs hi ho hdi hJ hf hr hF
    replace hi : i < 19 := hi
    rcases (show i = 0 ∨ i = 1 ∨ i = 2 ∨ i = 3 ∨ i = 4 ∨ i = 5 ∨ i = 6 ∨ i = 7 ∨ i = 8 ∨ i = 9 ∨ i = 10 ∨ i = 11 ∨ i = 12 ∨ i = 13 ∨ i = 14 ∨ i = 15 ∨ i = 16 ∨ i = 17 ∨ i = 18 by omega) with rfl | rfl | rfl | rfl | rfl | rfl | rfl | rfl | rfl | rfl | rfl | rfl | rfl | rfl | rfl | rfl | rfl | rfl | rfl
    all_goals
     replace ho := op_at ho (by rfl)
     subst ho
    ·have f0 : a.tmps.getD 0 undef = (.int .i64 (n : Int)) := hf 0 (by kernel_rfl)
     exact .inl ⟨(fun k b h => by cases h), .inl ⟨0, by decide, rfl, (.int .i64 (n : Int)), W, (by simp [go_sem, Act.eval, f0]), rfl, hJ.quiet 0 _ (by omega)⟩⟩
    ·have f1 : a.tmps.getD 1 undef = (.slice (some ⟨bl, ol, none⟩) ml ac) := hf 1 (by kernel_rfl)
     exact .inl ⟨(fun k b h => by cases h), .inl ⟨1, by decide, rfl, (.slice (some ⟨bl, ol, none⟩) ml ac), W, (by simp [go_sem, Act.eval, f1]), rfl, hJ.quiet 1 _ (by omega)⟩⟩
    ·have f1 : a.tmps.getD 1 undef = (.slice (some ⟨bl, ol, none⟩) ml ac) := hf 1 (by kernel_rfl)
     exact .inl ⟨(fun k b h => by cases h), .inl ⟨2, by decide, rfl, (.slice (some ⟨bl, ol, none⟩) ml ac), W, (by simp [go_sem, Act.eval, f1]), rfl, hJ.quiet 2 _ (by omega)⟩⟩
    ·have f6 : a.tmps.getD 6 undef = (.int .i64 (i : Int)) := hf 6 (by kernel_rfl)
     exact .inl ⟨(fun k b h => by cases h), .inl ⟨3, by decide, rfl, (.int .i64 (i : Int)), W, (by simp [go_sem, Act.eval, f6]), rfl, hJ.quiet 3 _ (by omega)⟩⟩
    ·have d2 : a.tmps.getD 15 undef = (.slice (some ⟨bl, ol, none⟩) ml ac) := fdn (hF 2 (by decide) (hr 2 (by kernel_rfl)))
     have d3 : a.tmps.getD 16 undef = (.int .i64 (i : Int)) := fdn (hF 3 (by decide) (hr 3 (by kernel_rfl)))
     exact .inl ⟨(fun k b h => by cases h), .inl ⟨4, by decide, rfl, (.pointer (some ⟨bl, ol + i * 2, none⟩)), W, (by simp [go_sem, Act.eval, d2, d3, hin]), rfl, hJ.quiet 4 _ (by omega)⟩⟩
    ·have d4 : a.tmps.getD 17 undef = (.pointer (some ⟨bl, ol + i * 2, none⟩)) := fdn (hF 4 (by decide) (hr 4 (by kernel_rfl)))
     exact .inl ⟨(fun k b h => by cases h), .inl ⟨5, by decide, rfl, (.pointer (some ⟨bl, ol + i * 2, none⟩)), W, (by simp [go_sem, Act.eval, d4]), rfl, hJ.quiet 5 _ (by omega)⟩⟩
    ·have d5 : a.tmps.getD 18 undef = (.pointer (some ⟨bl, ol + i * 2, none⟩)) := fdn (hF 5 (by decide) (hr 5 (by kernel_rfl)))
     have cx := HCA.out W hJ.low
     exact .inl ⟨(fun k b h => by cases h), .inl ⟨6, by decide, rfl, (.int .i64 (x : Int)), W, (by simp [go_sem, Act.eval, d5, cx]), rfl, hJ.quiet 6 _ (by omega)⟩⟩
    ·have f1 : a.tmps.getD 1 undef = (.slice (some ⟨bl, ol, none⟩) ml ac) := hf 1 (by kernel_rfl)
     exact .inl ⟨(fun k b h => by cases h), .inl ⟨7, by decide, rfl, (.slice (some ⟨bl, ol, none⟩) ml ac), W, (by simp [go_sem, Act.eval, f1]), rfl, hJ.quiet 7 _ (by omega)⟩⟩
    ·have f6 : a.tmps.getD 6 undef = (.int .i64 (i : Int)) := hf 6 (by kernel_rfl)
     exact .inl ⟨(fun k b h => by cases h), .inl ⟨8, by decide, rfl, (.int .i64 (i : Int)), W, (by simp [go_sem, Act.eval, f6]), rfl, hJ.quiet 8 _ (by omega)⟩⟩
    ·have d7 : a.tmps.getD 20 undef = (.slice (some ⟨bl, ol, none⟩) ml ac) := fdn (hF 7 (by decide) (hr 7 (by kernel_rfl)))
     have d8 : a.tmps.getD 21 undef = (.int .i64 (i : Int)) := fdn (hF 8 (by decide) (hr 8 (by kernel_rfl)))
     refine .inl ⟨(fun k b h => by cases h), .inr (.inr ⟨9, by decide, rfl, 39, #[.slice (some ⟨bl, ol, none⟩) ml ac, .int .i64 (i : Int)], W, (by simp [go_sem, Act.eval, d7, d8]), ?_⟩)⟩
     refine (callsIn_wide.2 (HB1.out W (HBW.out.trans (hJ.low.mono HBW.out.size)))).mono ?_
     rintro e W' ⟨⟨sb, rfl, hsb, -⟩, hBe⟩
     exact ⟨_, rfl, ⟨_, rfl⟩, (hJ.grow hBe).upd 9 _ (fun _ => ⟨_, rfl, hsb⟩) (fun e => by omega) (fun e => by omega)⟩
    ·have d0 : a.tmps.getD 13 undef = (.int .i64 (n : Int)) := fdn (hF 0 (by decide) (hr 0 (by kernel_rfl)))
     have d1 : a.tmps.getD 14 undef = (.slice (some ⟨bl, ol, none⟩) ml ac) := fdn (hF 1 (by decide) (hr 1 (by kernel_rfl)))
     have d6 : a.tmps.getD 19 undef = (.int .i64 (x : Int)) := fdn (hF 6 (by decide) (hr 6 (by kernel_rfl)))
     obtain ⟨g9, e9⟩ := hF 9 (by decide) (hr 9 (by kernel_rfl))
     replace e9 : a.tmps.getD 22 undef = vs 9 := e9
     replace g9 : (fun zv => ∃ b, zv = .slice (some ⟨b, 0, none⟩) ml ml) (vs 9) := g9
     obtain ⟨sb, kb, hsb⟩ := hJ.h9 (hr 9 (by kernel_rfl))
     rw [kb] at e9
     refine .inl ⟨(fun k b h => by cases h), .inr (.inr ⟨10, by decide, rfl, 20, #[.int .i64 (n : Int), .slice (some ⟨bl, ol, none⟩) ml ac, .int .i64 (x : Int), .slice (some ⟨sb, 0, none⟩) ml ml, .int .i64 (-1)], W, (by simp [go_sem, Act.eval, d0, d1, d6, e9]), ?_⟩)⟩
     refine (callsIn_wide.2 (HB2.out sb W (HBW.out.trans (hJ.low.mono HBW.out.size)) hsb)).mono ?_
     rintro e W' ⟨⟨cb, rfl, hcb, -⟩, hBe⟩
     exact ⟨_, rfl, ⟨_, rfl⟩, (hJ.grow hBe).upd 10 _ (fun e => by omega) (fun _ => ⟨_, rfl, hcb⟩) (fun e => by omega)⟩
    ·have f1 : a.tmps.getD 1 undef = (.slice (some ⟨bl, ol, none⟩) ml ac) := hf 1 (by kernel_rfl)
     exact .inl ⟨(fun k b h => by cases h), .inl ⟨11, by decide, rfl, (.slice (some ⟨bl, ol, none⟩) ml ac), W, (by simp [go_sem, Act.eval, f1]), rfl, hJ.quiet 11 _ (by omega)⟩⟩
    ·have f6 : a.tmps.getD 6 undef = (.int .i64 (i : Int)) := hf 6 (by kernel_rfl)
     exact .inl ⟨(fun k b h => by cases h), .inl ⟨12, by decide, rfl, (.int .i64 (i : Int)), W, (by simp [go_sem, Act.eval, f6]), rfl, hJ.quiet 12 _ (by omega)⟩⟩
    ·have d11 : a.tmps.getD 24 undef = (.slice (some ⟨bl, ol, none⟩) ml ac) := fdn (hF 11 (by decide) (hr 11 (by kernel_rfl)))
     have d12 : a.tmps.getD 25 undef = (.int .i64 (i : Int)) := fdn (hF 12 (by decide) (hr 12 (by kernel_rfl)))
     exact .inl ⟨(fun k b h => by cases h), .inl ⟨13, by decide, rfl, (.pointer (some ⟨bl, ol + i * 2, none⟩)), W, (by simp [go_sem, Act.eval, d11, d12, hin]), rfl, hJ.quiet 13 _ (by omega)⟩⟩
    ·have d13 : a.tmps.getD 26 undef = (.pointer (some ⟨bl, ol + i * 2, none⟩)) := fdn (hF 13 (by decide) (hr 13 (by kernel_rfl)))
     exact .inl ⟨(fun k b h => by cases h), .inl ⟨14, by decide, rfl, (.pointer (some ⟨bl, ol + i * 2 + 1, none⟩)), W, (by simp [go_sem, Act.eval, d13]), rfl, hJ.quiet 14 _ (by omega)⟩⟩
    ·have d14 : a.tmps.getD 27 undef = (.pointer (some ⟨bl, ol + i * 2 + 1, none⟩)) := fdn (hF 14 (by decide) (hr 14 (by kernel_rfl)))
     have cx := HCB.out W hJ.low
     exact .inl ⟨(fun k b h => by cases h), .inl ⟨15, by decide, rfl, (.int .i64 (y : Int)), W, (by simp [go_sem, Act.eval, d14, cx]), rfl, hJ.quiet 15 _ (by omega)⟩⟩
    ·obtain ⟨g10, e10⟩ := hF 10 (by decide) (hr 10 (by kernel_rfl))
     replace e10 : a.tmps.getD 23 undef = vs 10 := e10
     replace g10 : (fun zv => ∃ b, zv = .slice (some ⟨b, 0, none⟩) n n) (vs 10) := g10
     have d15 : a.tmps.getD 28 undef = (.int .i64 (y : Int)) := fdn (hF 15 (by decide) (hr 15 (by kernel_rfl)))
     obtain ⟨cb, kb, hcb⟩ := hJ.h10 (hr 10 (by kernel_rfl))
     rw [kb] at e10
     exact .inl ⟨(fun k b h => by cases h), .inl ⟨16, by decide, rfl, (.pointer (some ⟨cb, y, none⟩)), W, (by simp [go_sem, Act.eval, e10, d15, hyn2]), ⟨_, rfl⟩, hJ.upd 16 _ (fun e => by omega) (fun e => by omega) (fun _ => ⟨_, rfl, hcb⟩)⟩⟩
    ·obtain ⟨g16, e16⟩ := hF 16 (by decide) (hr 16 (by kernel_rfl))
     replace e16 : a.tmps.getD 29 undef = vs 16 := e16
     replace g16 : (fun zv => ∃ b, zv = .pointer (some ⟨b, y, none⟩)) (vs 16) := g16
     obtain ⟨cb, kb, hcb⟩ := hJ.h16 (hr 16 (by kernel_rfl))
     rw [kb] at e16
     have cx := hcb.cell y (by rw [HREL.out]; exact hyn)
     rw [← HQ.out] at cx
     exact .inl ⟨(fun k b h => by cases h), .inl ⟨17, by decide, rfl, (.bool q), W, (by simp [go_sem, Act.eval, e16, cx]), rfl, hJ.quiet 17 _ (by omega)⟩⟩
    ·have d17 : a.tmps.getD 30 undef = (.bool q) := fdn (hF 17 (by decide) (hr 17 (by kernel_rfl)))
     exact .inl ⟨(fun k b h => by cases h), .inl ⟨18, by decide, rfl, (.bool (!q)), W, (by simp [go_sem, Act.eval, d17]), rfl, hJ.quiet 18 _ (by omega)⟩⟩
   case finc =>
    intro d vs Wc hall hJ hF
    have h0 : vs 0 = (.int .i64 (n : Int)) := hF 0 (by decide)
    have h1 : vs 1 = (.slice (some ⟨bl, ol, none⟩) ml ac) := hF 1 (by decide)
    have h2 : vs 2 = (.slice (some ⟨bl, ol, none⟩) ml ac) := hF 2 (by decide)
    have h3 : vs 3 = (.int .i64 (i : Int)) := hF 3 (by decide)
    have h4 : vs 4 = (.pointer (some ⟨bl, ol + i * 2, none⟩)) := hF 4 (by decide)
    have h5 : vs 5 = (.pointer (some ⟨bl, ol + i * 2, none⟩)) := hF 5 (by decide)
    have h6 : vs 6 = (.int .i64 (x : Int)) := hF 6 (by decide)
    have h7 : vs 7 = (.slice (some ⟨bl, ol, none⟩) ml ac) := hF 7 (by decide)
    have h8 : vs 8 = (.int .i64 (i : Int)) := hF 8 (by decide)
    have h9 : (fun zv => ∃ b, zv = .slice (some ⟨b, 0, none⟩) ml ml) (vs 9) := hF 9 (by decide)
    have h10 : (fun zv => ∃ b, zv = .slice (some ⟨b, 0, none⟩) n n) (vs 10) := hF 10 (by decide)
    have h11 : vs 11 = (.slice (some ⟨bl, ol, none⟩) ml ac) := hF 11 (by decide)
    have h12 : vs 12 = (.int .i64 (i : Int)) := hF 12 (by decide)
    have h13 : vs 13 = (.pointer (some ⟨bl, ol + i * 2, none⟩)) := hF 13 (by decide)
    have h14 : vs 14 = (.pointer (some ⟨bl, ol + i * 2 + 1, none⟩)) := hF 14 (by decide)
    have h15 : vs 15 = (.int .i64 (y : Int)) := hF 15 (by decide)
    have h16 : (fun zv => ∃ b, zv = .pointer (some ⟨b, y, none⟩)) (vs 16) := hF 16 (by decide)
    have h17 : vs 17 = (.bool q) := hF 17 (by decide)
    have h18 : vs 18 = (.bool (!q)) := hF 18 (by decide)
    clear hF
    have hJc : Below wr.heap.size wr Wc := BJ.low hJ
    obtain ⟨b9, h9⟩ := h9
    obtain ⟨b10, h10⟩ := h10
    obtain ⟨b16, h16⟩ := h16
    clear hJ hall
    show (_ : Exit → Act → World → Prop) Exit.normal (puts _ vs 19 _) Wc
    simp only [puts, h0, h1, h2, h3, h4, h5, h6, h7, h8, h9, h10, h11, h12, h13, h14, h15, h16, h17, h18, List.getD_cons_zero, List.getD_cons_succ]
    clear h0 h1 h2 h3 h4 h5 h6 h7 h8 h9 h10 h11 h12 h13 h14 h15 h16 h17 h18
    simp only [Act.put, List.setIfInBounds_toArray, List.set_cons_succ, List.set_cons_zero]
    have HN5 := Lib.hid (HN.out.below hJc)
    have hl2 : bl < Wc.heap.size := by have := Below.size hJc; omega
    have cA2 := HCA.out Wc hJc
    have cB2 := HCB.out Wc hJc
    clear hJc cA cB
    cases q with
    | true =>
     have HN6 : Hid (LB w (.slice ao no co) (prI (pickN L P (i + 1))) Wc) := by
      show LB _ _ _ _
      rw [HST.out, if_neg (by rw [HPQ.out]; simp), List.append_nil]
      exact HN5.out
     rw [show (!true) = false from rfl]
     go_wp2_with (fail)
     go_roundw
     case rel => exact ⟨i + 1, no, co, ao, rfl, by go_num, by omega, HN6.out⟩
     case measure => simp [intOf] <;> omega
    | false =>
     have m1 := new_block Wc (.cells #[.int .i64 (x : Int), .int .i64 (y : Int)] 38)
     have HN6 := Lib.hid (HN5.out.below m1.1)
     have HM := Lib.hid m1.2
     have HSM : Hid ((prI (pickN L P i)).length ≤ 1000000) := by show _ ≤ _; rw [prI_len]; have := pickN_len (L := L) (P := P) i; omega
     have HSZ : Hid (w.heap.size ≤ (Wc.alloc (.cells #[.int .i64 (x : Int), .int .i64 (y : Int)] 38)).heap.size) := HN6.out.2.size
     clear m1
     rw [show (!false) = true from rfl]
     go_wp2_with (at_builtin; refine wpList_append_l rfl _ _ rfl w.heap.size _ _ rfl HN6.out.1 Wc.heap.size ((x : Int), (y : Int)) rfl HM.out HSM.out HSZ.out ?_)
     intro v5 W5 ho5 hg5
     have HN7 : Hid (LB w v5 (prI (pickN L P (i + 1))) W5) := by
      refine ⟨?_, grown_low HN6.out.1 hg5 HN6.out.2 (Nat.le_refl _) HSZ.out⟩
      rw [HST.out, if_pos (by rw [HPQ.out]; rfl)]
      simpa [prI] using ho5
     obtain ⟨av5, cv5, hv5⟩ := owns_form ho5
     clear ho5 hg5
     subst hv5
     go_wp2_with (fail)
     go_roundw
     case rel => exact ⟨i + 1, _, cv5, av5, rfl, by go_num, by omega, HN7.out⟩
     case measure => simp [intOf] <;> omega
  ·obtain rfl : ml = i := by omega
   have HE : Hid (OwnL wr w.heap.size (.slice ao no co) (prI R) ∧ Below w.heap.size w wr) := by
    show _ ∧ _
    rw [HR.out]
    exact HN.out
   go_wp2_with (fail)
   go_ret
   exact ⟨⟨_, rfl, HE.out.1⟩, HE.out.2⟩

end Go.Proofs.Ytenilbofncfbdaa

