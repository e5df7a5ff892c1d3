/- Cuts: the way back, pair by pair; the greatest flow for any two numbers: plain. No program here.
Cuts: most, Flow: walked (by program: wip/tools/gen_cm1.py).
Cuts: rows of the call's own that grow: of numbers, of links, of rows.
Cuts: Cut, Weakest: walked. -/
import Derived.Test.YtenilbofncfbdaaCA
import Derived.Test.YtenilbofncfbdaaCC
import Derived.Test.YtenilbofncfbdaaCB
set_option linter.unusedSimpArgs false
set_option linter.unusedVariables false
namespace Go.Proofs.Ytenilbofncfbdaa

/-- on the way back: v stands behind o1 among the met; what is still to be turned is as it was -/
structure BK (L : Prs) (g0 : List Int) (a : Nat) (ord : List Nat) (y : List Int) (v : Nat) (g : List Int) (o1 : List Nat) : Prop where
  ord : ∃ o2, ord = o1 ++ v :: o2
  len : g.length = L.length
  cap : ∀ j, j < L.length → -1 ≤ gF g j ∧ gF g j ≤ 1
  same : ∀ u k, u ∈ o1 ++ [v] → u ≠ a → y.getD u 0 = ((k : Nat) : Int) → gF g k = gF g0 k
theorem back_step {L : Prs} {g0 : List Int} {n a b : Nat} {ord : List Nat} {i : List Bool} {y : List Int} (hf : FitL n L) (h : BI L g0 n a b ord i y) {v : Nat} {g : List Int} {o1 : List Nat} (hb : BK L g0 a ord y v g o1) (hva : v ≠ a) :
    ∃ k u q1, y.getD v 0 = ((k : Nat) : Int) ∧ Edge L k v u ∧ BK L g0 a ord y u (pushL L g k u) q1 ∧ q1.length < o1.length := by
  obtain ⟨⟨o2, hord⟩, hgl, hcap, hag⟩ := hb
  rcases h.met o1 v o2 hord with e | ⟨k, u, hyk, he, ho, hu⟩
  · exact absurd e hva
  · obtain ⟨q1, q2, hq⟩ := List.append_of_mem hu
    have hk : k < L.length := he.1
    have hgk : gF g k = gF g0 k := hag v k (by simp) hva hyk
    have hopen : openP (endA L) (gF g) k u := by
      have h1 := openL_iff.1 ho
      unfold openP at h1 ⊢
      rw [hgk]
      exact h1
    have hcap2 : ∀ j, j < L.length → -1 ≤ gF (pushL L g k u) j ∧ gF (pushL L g k u) j ≤ 1 := by
      intro j hj
      rw [pushL_get (by omega)]
      by_cases e : j = k
      · subst e; exact push_cap _ _ _ _ hopen (hcap j hj)
      · unfold pushP; rw [if_neg e]; exact hcap j hj
    have hord2 : ord = q1 ++ u :: (q2 ++ v :: o2) := by rw [hord, hq]; simp
    have hnod := h.nod
    refine ⟨k, u, q1, hyk, he, ⟨⟨_, hord2⟩, by rw [pushL_len]; exact hgl, hcap2, fun x j hx hxa hyj => ?_⟩, by rw [hq]; simp⟩
    rw [pushL_get (by omega)]
    unfold pushP
    have hjk : j ≠ k := by
      rintro rfl
      have hxo : x ∈ o1 := by rw [hq]; rcases List.mem_append.1 hx with hx | hx <;> simp at hx ⊢ <;> simp [hx]
      obtain ⟨s1, s2, hs⟩ := List.append_of_mem hxo
      have hord3 : ord = s1 ++ x :: (s2 ++ v :: o2) := by rw [hord, hs]; simp
      rcases h.met s1 x (s2 ++ v :: o2) hord3 with e | ⟨k', z, hyk', he', -, hz⟩
      · exact hxa e
      · have hkk : k' = j := by rw [hyj] at hyk'; exact (Int.ofNat.inj hyk').symm
        subst hkk
        have hvx : v ≠ x := by
          rintro rfl
          rw [hord3] at hnod
          have := List.nodup_append.1 hnod
          simp at this
        have hzv : z = v := by
          obtain ⟨-, c1⟩ := he
          obtain ⟨-, c2⟩ := he'
          rcases c1 with ⟨x1, x2⟩ | ⟨x1, x2⟩ <;> rcases c2 with ⟨y1, y2⟩ | ⟨y1, y2⟩ <;> omega
        rw [hzv] at hz
        rw [hord3] at hnod
        have h9 := List.nodup_append.1 hnod
        exact h9.2.2 v hz v (by simp) rfl
    rw [if_neg hjk]
    exact hag x j (by rw [hq]; rcases List.mem_append.1 hx with hx | hx <;> simp at hx ⊢ <;> simp [hx]) hxa hyj
/-- where the search has met b: the way back begins -/
theorem back_start {L : Prs} {n a b : Nat} {g : List Int} {t : Nat} (hf : FitL n L) (ha : a < n) (hb : b < n) (hl : g.length = L.length) (hfl : FlowI (endA L) (endB L) L.length a b (t : Int) (gF g)) (hr : (reachB L g n a b).1.getD b false = true) :
    ∃ ord o1, BI L g n a b ord (reachB L g n a b).1 (reachB L g n a b).2 ∧ BK L g a ord (reachB L g n a b).2 b g o1 ∧ o1.length < n + 1 := by
  obtain ⟨ord, hbi, -⟩ := reach_ok (b := b) g hf ha
  obtain ⟨o1, o2, ho⟩ := List.append_of_mem ((hbi.mem b hb).1 hr)
  have hlen := nodup_bound hbi.nod hbi.lt
  exact ⟨ord, o1, hbi, ⟨⟨o2, ho⟩, hl, hfl.cap, fun u k _ _ _ => rfl⟩, by rw [ho] at hlen; simp at hlen; omega⟩
/-- in the loop -/
structure MI (L : Prs) (n a b : Nat) (M : List Int × Nat) (g : List Int) (t : Nat) : Prop where
  run : ∃ f, M = mostR L n a b f g t ∧ L.length < f + t
  len : g.length = L.length
  flow : FlowI (endA L) (endB L) L.length a b (t : Int) (gF g)
theorem MI.le {L : Prs} {n a b : Nat} {M : List Int × Nat} {g : List Int} {t : Nat} (h : MI L n a b M g t) (hab : a ≠ b) : t ≤ L.length := flow_small hab h.flow
theorem MI.more {L : Prs} {n a b : Nat} {M : List Int × Nat} {g : List Int} {t : Nat} (hf : FitL n L) (ha : a < n) (hb : b < n) (hab : a ≠ b) (h : MI L n a b M g t) (hr : (reachB L g n a b).1.getD b false = true) : MI L n a b M (backB L (reachB L g n a b).2 a (n + 1) b g) (t + 1) := by
  obtain ⟨⟨f, h1, h2⟩, h3, h4⟩ := h
  obtain ⟨h5, h6⟩ := most_step hf ha hb hab h3 h4 hr
  have := flow_small hab h6
  obtain ⟨f, rfl⟩ : ∃ f', f = f' + 1 := ⟨f - 1, by omega⟩
  refine ⟨⟨f, ?_, by omega⟩, h5, h6⟩
  rw [h1]
  show (if _ then _ else _) = _
  rw [if_pos hr]
theorem MI.stop {L : Prs} {n a b : Nat} {M : List Int × Nat} {g : List Int} {t : Nat} (hab : a ≠ b) (h : MI L n a b M g t) (hr : (reachB L g n a b).1.getD b false = false) : M = (g, t) := by
  have hle := h.le hab
  obtain ⟨⟨f, h1, h2⟩, h3, h4⟩ := h
  obtain ⟨f, rfl⟩ : ∃ f', f = f' + 1 := ⟨f - 1, by omega⟩
  rw [h1]
  show (if _ then _ else _) = _
  rw [if_neg (by rw [hr]; simp)]
theorem MI.start {L : Prs} {n a b : Nat} : MI L n a b (mostF L n a b) (List.replicate L.length 0) 0 :=
  ⟨⟨L.length + 1, rfl, by omega⟩, by simp, fun j hj => by simp [gF, List.getD_eq_getElem?_getD, List.getElem?_replicate, hj], fun S => by
    rw [net_zero]
    · simp
    · intro j hj; simp [gF, List.getD_eq_getElem?_getD, List.getElem?_replicate, hj]⟩
/-- two numbers between which something may go -/
def Pair (n : Nat) (a b : Int) : Prop := a ≠ b ∧ 0 ≤ a ∧ a < n ∧ 0 ≤ b ∧ b < n
instance (n : Nat) (a b : Int) : Decidable (Pair n a b) := by unfold Pair; exact inferInstance
def mostI (L : Prs) (n : Nat) (a b : Int) : List Int × Nat := if Pair n a b then mostF L n a.toNat b.toNat else (List.replicate L.length 0, 0)
theorem mostI_pair {L : Prs} {n a b : Nat} (hab : a ≠ b) (ha : a < n) (hb : b < n) : mostI L n (a : Int) (b : Int) = mostF L n a b := by
  unfold mostI
  rw [if_pos ⟨by omega, by omega, by omega, by omega, by omega⟩]
  simp
end Go.Proofs.Ytenilbofncfbdaa

namespace Go.Proofs.Ytenilbofncfbdaa
open Go.RowKit

/-- in the loop, in memory -/
def MW (w : World) (lv : Value) (L : Prs) (n a b : Nat) (M : List Int × Nat) (fb gb t ib yb : Nat) (W : World) : Prop :=
  ∃ g, FlowW W w.heap.size fb gb lv n L g ∧ RowB W ib (reachB L g n a b).1 ∧ RowI W yb (reachB L g n a b).2 ∧ MI L n a b M g t ∧ yb ≠ gb ∧ Below w.heap.size w W
/-- on the way back, in memory -/
def BW (w : World) (lv : Value) (L : Prs) (n a : Nat) (ord : List Nat) (g0 : List Int) (y : List Int) (G : List Int) (fb gb yb v : Nat) (W : World) : Prop :=
  ∃ g o1 f, FlowW W w.heap.size fb gb lv n L g ∧ RowI W yb y ∧ BK L g0 a ord y v g o1 ∧ o1.length < f ∧ G = backB L y a f v g ∧ Below w.heap.size w W
theorem idx_of {ord o1 o2 : List Nat} {v : Nat} (hn : ord.Nodup) (h : ord = o1 ++ v :: o2) : ord.idxOf v = o1.length := by
  have : v ∉ o1 := fun e => by rw [h] at hn; have h9 := List.nodup_append.1 hn; exact h9.2.2 v e v (by simp) rfl
  rw [h]
  clear h hn
  induction o1 with
  | nil => simp
  | cons x r ih =>
    have hx : (x == v) = false := by rw [beq_eq_false_iff_ne]; rintro rfl; exact this List.mem_cons_self
    rw [List.cons_append, List.idxOf_cons, hx]
    simp only [cond_false, List.length_cons]
    rw [ih fun e => this (List.mem_cons_of_mem _ e)]
theorem BI.rowlen {L : Prs} {g : List Int} {n a b : Nat} (hf : FitL n L) (ha : a < n) : (reachB L g n a b).1.length = n ∧ (reachB L g n a b).2.length = n := by
  obtain ⟨ord, h, -⟩ := reach_ok (b := b) g hf ha
  exact ⟨h.il, h.yl⟩

set_option maxRecDepth 100000 in
set_option maxHeartbeats 4000000 in
theorem most_bad (w : World) (lv : Value) (n : Nat) (L : Prs) (a b : Int) (hl : Lis w w.heap.size lv L) (hL : L.length ≤ 1000) (hn : n ≤ 16) (hp : ¬ Pair n a b) :
    Calls Try.prog 31 #[.int .i64 (n : Int), lv, .int .i64 a, .int .i64 b] w fun e w' => (∃ fb gb, e = .returned (.tuple #[.pointer (some ⟨fb, 0, none⟩), .int .i64 0]) ∧ FlowW w' w.heap.size fb gb lv n L (List.replicate L.length 0)) ∧ Below w.heap.size w w' := by
  obtain ⟨ao, cap, rfl, hcap, hcl⟩ := hl.slice
  have HL := Lib.hid hl
  have HE : Hid (∀ gb W, RowI W gb (List.replicate L.length 0) → w.heap.size ≤ gb → Below w.heap.size w W → FlowW (W.alloc (.cells #[.int .i64 (n : Int), .slice ao L.length cap, .slice (some ⟨gb, 0, none⟩) L.length L.length] 69)) w.heap.size W.heap.size gb (.slice ao L.length cap) n L (List.replicate L.length 0)) := by
    intro gb W h1 h2 h3
    have m1 := new_block W (.cells #[.int .i64 (n : Int), .slice ao L.length cap, .slice (some ⟨gb, 0, none⟩) L.length L.length] 69)
    exact ⟨m1.2, h1.keep m1.1, by simp, HL.out.below (h3.trans (m1.1.mono h3.size)) (Nat.le_refl _), h3.size, h2⟩
  obtain ⟨m, hm⟩ : ∃ m, m = L.length := ⟨_, rfl⟩
  rw [← hm] at HE hcl hcap hL ⊢
  rw [← hm] at *
  clear hl hm
  by_cases h0 : a = b
  · subst h0
    go_enter Try.func31, Try.ntmps31
    go_wp2_with (refine wpList_make_int rfl _ _ rfl m rfl rfl (by omega) ?_)
    intro gb W hr hg hB
    have H := Lib.hid (HE.out gb W hr hg hB)
    have B0 := Lib.hid hB
    clear hr hB
    go_wp2
    exact bodyPost_ret (results_tmp2 rfl _ _ _) rfl ⟨⟨_, _, rfl, H.out⟩, B0.out.trans ((new_block _ _).1.mono B0.out.size)⟩
  · have b0 : (a == b) = false := by simpa using h0
    by_cases h1 : a < 0
    · clear hp
      go_enter Try.func31, Try.ntmps31
      go_wp2_with (refine wpList_make_int rfl _ _ rfl m rfl rfl (by omega) ?_)
      intro gb W hr hg hB
      have H := Lib.hid (HE.out gb W hr hg hB)
      have B0 := Lib.hid hB
      clear hr hB
      go_wp2
      exact bodyPost_ret (results_tmp2 rfl _ _ _) rfl ⟨⟨_, _, rfl, H.out⟩, B0.out.trans ((new_block _ _).1.mono B0.out.size)⟩
    · skip
      by_cases h2 : (n : Int) ≤ a
      · clear hp
        go_enter Try.func31, Try.ntmps31
        go_wp2_with (refine wpList_make_int rfl _ _ rfl m rfl rfl (by omega) ?_)
        intro gb W hr hg hB
        have H := Lib.hid (HE.out gb W hr hg hB)
        have B0 := Lib.hid hB
        clear hr hB
        go_wp2
        exact bodyPost_ret (results_tmp2 rfl _ _ _) rfl ⟨⟨_, _, rfl, H.out⟩, B0.out.trans ((new_block _ _).1.mono B0.out.size)⟩
      · skip
        by_cases h3 : b < 0
        · clear hp
          go_enter Try.func31, Try.ntmps31
          go_wp2_with (refine wpList_make_int rfl _ _ rfl m rfl rfl (by omega) ?_)
          intro gb W hr hg hB
          have H := Lib.hid (HE.out gb W hr hg hB)
          have B0 := Lib.hid hB
          clear hr hB
          go_wp2
          exact bodyPost_ret (results_tmp2 rfl _ _ _) rfl ⟨⟨_, _, rfl, H.out⟩, B0.out.trans ((new_block _ _).1.mono B0.out.size)⟩
        · skip
          by_cases h4 : (n : Int) ≤ b
          · clear hp
            go_enter Try.func31, Try.ntmps31
            go_wp2_with (refine wpList_make_int rfl _ _ rfl m rfl rfl (by omega) ?_)
            intro gb W hr hg hB
            have H := Lib.hid (HE.out gb W hr hg hB)
            have B0 := Lib.hid hB
            clear hr hB
            go_wp2
            exact bodyPost_ret (results_tmp2 rfl _ _ _) rfl ⟨⟨_, _, rfl, H.out⟩, B0.out.trans ((new_block _ _).1.mono B0.out.size)⟩
          · exact absurd ⟨h0, by omega, by omega, by omega, by omega⟩ hp

set_option maxRecDepth 100000 in
set_option maxHeartbeats 8000000 in
theorem most_pair (w : World) (lv : Value) (n : Nat) (L : Prs) (a b : Nat) (hl : Lis w w.heap.size lv L) (hf : FitL n L) (hL : L.length ≤ 1000) (hn : n ≤ 16) (ha : a < n) (hb : b < n) (hab : a ≠ b) :
    Calls Try.prog 31 #[.int .i64 (n : Int), lv, .int .i64 (a : Int), .int .i64 (b : Int)] w fun e w' => (∃ fb gb, e = .returned (.tuple #[.pointer (some ⟨fb, 0, none⟩), .int .i64 ((mostF L n a b).2 : Int)]) ∧ FlowW w' w.heap.size fb gb lv n L (mostF L n a b).1) ∧ Below w.heap.size w w' := by
  obtain ⟨M, hM⟩ : ∃ M, M = mostF L n a b := ⟨_, rfl⟩
  rw [← hM]
  have HM0 : Hid (MI L n a b M (List.replicate L.length 0) 0) := by show MI _ _ _ _ _ _ _; rw [hM]; exact MI.start
  clear hM
  obtain ⟨ao, cap, rfl, hcap, hcl⟩ := hl.slice
  have HL := Lib.hid hl
  have HF := Lib.hid hf
  have HL1 := Lib.hid hL
  have HE : Hid (∀ gb W, RowI W gb (List.replicate L.length 0) → w.heap.size ≤ gb → Below w.heap.size w W → FlowW (W.alloc (.cells #[.int .i64 (n : Int), .slice ao L.length cap, .slice (some ⟨gb, 0, none⟩) L.length L.length] 69)) w.heap.size W.heap.size gb (.slice ao L.length cap) n L (List.replicate L.length 0)) := by
    intro gb W h1 h2 h3
    have m1 := new_block W (.cells #[.int .i64 (n : Int), .slice ao L.length cap, .slice (some ⟨gb, 0, none⟩) L.length L.length] 69)
    exact ⟨m1.2, h1.keep m1.1, by simp, HL.out.below (h3.trans (m1.1.mono h3.size)) (Nat.le_refl _), h3.size, h2⟩
  obtain ⟨m, hm⟩ : ∃ m, m = L.length := ⟨_, rfl⟩
  have HMM : Hid (m = L.length) := hm
  obtain ⟨lv, hlv⟩ : ∃ lv, lv = Value.slice ao L.length cap := ⟨_, rfl⟩
  have HLV : Hid (lv = Value.slice ao L.length cap) := hlv
  rw [← hlv] at HE HL ⊢
  rw [← hm] at HE hcl hcap hL hlv
  subst hlv
  clear hl hm hf
  have b0 : ((a : Int) == (b : Int)) = false := by rw [beq_eq_false_iff_ne]; omega
  go_enter Try.func31, Try.ntmps31
  go_wp2_with (refine wpList_make_int rfl _ _ rfl m rfl rfl (by omega) ?_)
  intro gb W hr hg hB
  have H := Lib.hid (HE.out gb W (HMM.out ▸ hr) hg hB)
  have B0 := Lib.hid (hB.trans ((new_block W (.cells #[.int .i64 (n : Int), .slice ao m cap, .slice (some ⟨gb, 0, none⟩) m m] 69)).1.mono hB.size))
  clear hr hB
  go_wp2_with (fail)
  clear b0
  obtain ⟨fb, hfb⟩ : ∃ fb, fb = W.heap.size := ⟨_, rfl⟩
  obtain ⟨W1, hW1⟩ : ∃ W1, W1 = W.alloc (.cells #[.int .i64 (n : Int), .slice ao m cap, .slice (some ⟨gb, 0, none⟩) m m] 69) := ⟨_, rfl⟩
  rw [← hW1] at H B0 ⊢
  rw [← hfb] at H ⊢
  have HGB : Hid (gb < W1.heap.size) := H.out.row.lt
  clear hW1 hfb HE HL
  have HH : Hid (FlowW W1 w.heap.size fb gb (.slice ao m cap) n L (List.replicate L.length 0)) := HMM.out ▸ H.out
  refine (freach_any W1 _ _ _ _ _ _ _ a b HH.out HF.out hn HL1.out ha hb).mono ?_
  rintro e W2 ⟨⟨ib, yb, rfl, hi, hy, hib, hyb⟩, hbel⟩
  have HMW : Hid (MW w (.slice ao m cap) L n a b M fb gb 0 ib yb W2) := ⟨_, HH.out.below hbel, hi, hy, HM0.out, by have := HGB.out; omega, B0.out.trans (hbel.mono B0.out.size)⟩
  clear HM0 H B0 hi hy hib hyb hbel HGB HH
  go_wp2_with (fail)
  go_loopw [11, 12, 13] (fun tv iv yv wx => ∃ t ib yb : Nat, tv = .int .i64 (t : Int) ∧ iv = .slice (some ⟨ib, 0, none⟩) n n ∧ yv = .slice (some ⟨yb, 0, none⟩) n n ∧ t ≤ m ∧ Hid (MW w (.slice ao m cap) L n a b M fb gb t ib yb wx)) (fun tv _ _ _ => m - (intOf tv).toNat)
  case atStart => exact ⟨0, ib, yb, rfl, rfl, rfl, Nat.zero_le _, HMW.out⟩
  case round =>
    clear HMW
    obtain ⟨t, ib, yb, rfl, rfl, rfl, ht, HMW⟩ := hrel
    obtain ⟨g, hfw, hri, hry, hmi, hyg, hbel⟩ := HMW.out
    have cin := hri.cell b (by rw [(BI.rowlen HF.out ha).1]; exact hb)
    have hil := hri.lt
    obtain ⟨bb, hbb⟩ : ∃ x, x = (reachB L g n a b).1.getD b false := ⟨_, rfl⟩
    rw [← hbb] at cin
    have HFWx := Lib.hid hfw
    have HRY := Lib.hid hry
    have HMI := Lib.hid hmi
    have HYG := Lib.hid hyg
    have HBE := Lib.hid hbel
    clear HMW hfw hri hry hmi hyg hbel
    cases bb with
    | false =>
      have HMS : Hid (M = (g, t)) := HMI.out.stop hab hbb.symm
      clear hbb
      go_wp2_with (fail)
      rw [HMS.out]
      exact bodyPost_ret (results_tmp2 rfl _ _ _) rfl ⟨⟨_, _, rfl, HFWx.out⟩, HBE.out⟩
    | true =>
      have HBS := Lib.hid (back_start HF.out ha hb HMI.out.len HMI.out.flow hbb.symm)
      have HMO := Lib.hid (HMI.out.more HF.out ha hb hab hbb.symm)
      clear hbb
      go_wp2_with (fail)
      obtain ⟨ord, o1, hbi, hbk, ho1⟩ := HBS.out
      obtain ⟨y, hy⟩ : ∃ y, y = (reachB L g n a b).2 := ⟨_, rfl⟩
      obtain ⟨i0, hi0⟩ : ∃ i, i = (reachB L g n a b).1 := ⟨_, rfl⟩
      obtain ⟨G, hG⟩ : ∃ G, G = backB L (reachB L g n a b).2 a (n + 1) b g := ⟨_, rfl⟩
      have HG := Lib.hid hG
      have hyl : y.length = n := by rw [hy]; exact (BI.rowlen HF.out ha).2
      rw [← hG] at HMO
      rw [← hy] at HRY hbi hbk
      rw [← hi0] at hbi
      have HBW : Hid (BW w (.slice ao m cap) L n a ord g y G fb gb yb b wr) := ⟨g, o1, n + 1, HFWx.out, HRY.out, hbk, ho1, by rw [hG, hy], HBE.out⟩
      have HNOD := Lib.hid hbi.nod
      have HBI := Lib.hid hbi
      clear HBS hbi hbk ho1 hy hi0 hG HG HFWx HRY HBE cin hil
      go_loopw [14] (fun vv wx => ∃ v : Nat, vv = .int .i64 (v : Int) ∧ Hid (BW w (.slice ao m cap) L n a ord g y G fb gb yb v wx)) (fun vv _ => ord.idxOf (intOf vv).toNat)
      case atStart => exact ⟨b, rfl, HBW.out⟩
      case round =>
        clear HBW
        obtain ⟨v, rfl, HBW⟩ := hrel
        obtain ⟨g1, o1, f, hfw, hry, hbk, hof, hG, hbel⟩ := HBW.out
        obtain ⟨f, rfl⟩ : ∃ f', f = f' + 1 := ⟨f - 1, by omega⟩
        by_cases hva : v = a
        · subst hva
          have HGG : Hid (G = g1) := by show _ = _; rw [hG]; show (if _ then _ else _) = _; rw [if_pos rfl]
          have HFW2 := Lib.hid hfw
          have HBE2 := Lib.hid hbel
          clear HBW hfw hry hbk hof hG hbel
          go_wp2_with (fail)
          refine (freach_any wr _ _ _ _ _ _ _ v b HFW2.out HF.out hn HL1.out ha hb).mono ?_
          rintro e W3 ⟨⟨ib2, yb2, rfl, hi, hy, hib, hyb⟩, hbel3⟩
          have HT : Hid (t + 1 ≤ m) := by have h1 := HMO.out.le hab; have h2 := HMM.out; show _ ≤ _; omega
          have HMW2 : Hid (MW w (.slice ao m cap) L n v b M fb gb (t + 1) ib2 yb2 W3) :=
            ⟨g1, HFW2.out.below hbel3, hi, hy, by have h := HMO.out; rw [HGG.out] at h; exact h, by have := HFW2.out.row.lt; omega, HBE2.out.trans (hbel3.mono HBE2.out.size)⟩
          clear hi hy hib hyb hbel3 HGG HMO HFW2 HBE2
          go_wp2_with (fail)
          go_roundw
          case rel => exact ⟨t + 1, ib2, yb2, by go_num, rfl, rfl, HT.out, HMW2.out⟩
          case measure => have := HT.out; simp [intOf] <;> omega
        · obtain ⟨k, u, q1, hyk, he, hbk2, hq1⟩ := back_step HF.out HBI.out hbk hva
          have hvn := (edge_lt HF.out he).1
          have hun := (edge_lt HF.out he).2.1
          have hk := he.1
          have cy := hry.cell v (by rw [hyl]; exact hvn)
          rw [hyk] at cy
          have hyb := hry.lt
          have hvb : ((v : Int) == (a : Int)) = false := by rw [beq_eq_false_iff_ne]; omega
          have HOT := Lib.hid (other_any wr w.heap.size fb gb (.slice ao m cap) n L g1 k v u hfw hk (by obtain ⟨-, h⟩ := he; omega) (by have := HF.out.lt k hk; omega))
          have HG2 : Hid (G = backB L y a f u (pushL L g1 k u)) := by show _ = _; rw [hG]; show (if _ then _ else _) = _; rw [if_neg hva, hyk, Int.toNat_natCast, other_edge HF.out he]
          have HFW2 := Lib.hid hfw
          have HRY2 := Lib.hid hry
          have HBE2 := Lib.hid hbel
          have HBK := Lib.hid hbk
          have HBK2 := Lib.hid hbk2
          have HQ1 : Hid (q1.length < f) := by show _ < _; omega
          have hvn2 : 0 ≤ (v : Int) ∧ (v : Int) < (n : Int) := by omega
          have HMES : Hid (ord.idxOf u < ord.idxOf v) := by
            obtain ⟨s2, hs⟩ := hbk.ord
            obtain ⟨s3, hs3⟩ := hbk2.ord
            show _ < _
            rw [idx_of HNOD.out hs, idx_of HNOD.out hs3]
            exact hq1
          have HCAP := Lib.hid (hbk.cap k hk)
          have HK := Lib.hid hk
          clear HBW hfw hry hbk hof hG hbel hbk2 hq1 hyk he hva hk
          go_wp2_with (fail)
          refine HOT.out.mono ?_
          rintro e W3 ⟨rfl, hb3⟩
          have HP := Lib.hid (push_any W3 w.heap.size fb gb (.slice ao m cap) n L g1 k u (HFW2.out.below hb3) HK.out HCAP.out)
          have HB3 := Lib.hid hb3
          clear hb3
          go_wp2_with (fail)
          refine HP.out.mono ?_
          rintro e W4 ⟨rfl, hfw4, hb4, hs4, ho4⟩
          have HBW2 : Hid (BW w (.slice ao m cap) L n a ord g y G fb gb yb u W4) :=
            ⟨pushL L g1 k u, q1, f, hfw4, (HRY2.out.keep HB3.out).of (ho4 yb HYG.out), HBK2.out, HQ1.out, HG2.out, (HBE2.out.trans (HB3.out.mono HBE2.out.size)).trans hb4⟩
          clear hfw4 hb4 hs4 ho4 HP HB3
          go_wp2_with (fail)
          go_roundw
          case rel => exact ⟨u, rfl, HBW2.out⟩
          case measure => have := HMES.out; simp [intOf] <;> omega

theorem most_any (w : World) (lv : Value) (n : Nat) (L : Prs) (a b : Int) (hl : Lis w w.heap.size lv L) (hf : FitL n L) (hL : L.length ≤ 1000) (hn : n ≤ 16) :
    Calls Try.prog 31 #[.int .i64 (n : Int), lv, .int .i64 a, .int .i64 b] w fun e w' => (∃ fb gb, e = .returned (.tuple #[.pointer (some ⟨fb, 0, none⟩), .int .i64 ((mostI L n a b).2 : Int)]) ∧ FlowW w' w.heap.size fb gb lv n L (mostI L n a b).1) ∧ Below w.heap.size w w' := by
  by_cases hp : Pair n a b
  · obtain ⟨h1, h2, h3, h4, h5⟩ := hp
    obtain ⟨x, rfl⟩ : ∃ x : Nat, a = (x : Int) := ⟨a.toNat, by omega⟩
    obtain ⟨y, rfl⟩ : ∃ x : Nat, b = (x : Int) := ⟨b.toNat, by omega⟩
    rw [mostI_pair (by omega) (by omega) (by omega)]
    exact most_pair w lv n L x y hl hf hL hn (by omega) (by omega) (by omega)
  · have e : mostI L n a b = (List.replicate L.length 0, 0) := by unfold mostI; rw [if_neg hp]
    rw [e]
    exact most_bad w lv n L a b hl hL hn hp

set_option maxRecDepth 100000 in
set_option maxHeartbeats 4000000 in
theorem flow_any (w : World) (lv : Value) (n : Nat) (L : Prs) (a b : Int) (hl : Lis w w.heap.size lv L) (hf : FitL n L) (hL : L.length ≤ 1000) (hn : n ≤ 16) :
    Calls Try.prog 12 #[.int .i64 (n : Int), lv, .int .i64 a, .int .i64 b] w fun e w' => e = .returned (.int .i64 ((mostI L n a b).2 : Int)) ∧ Below w.heap.size w w' := by
  have HC := Lib.hid (most_any w lv n L a b hl hf hL hn)
  obtain ⟨t, ht⟩ : ∃ t, t = (mostI L n a b).2 := ⟨_, rfl⟩
  rw [← ht] at HC ⊢
  clear ht
  go_enter Try.func12, Try.ntmps12
  go_wp2_with (fail)
  refine HC.out.mono ?_
  rintro e w' ⟨⟨fb, gb, rfl, -⟩, hb⟩
  have HB := Lib.hid hb
  clear hb
  go_wp2
  go_ret
  exact ⟨rfl, HB.out⟩

end Go.Proofs.Ytenilbofncfbdaa

namespace Go.Proofs.Ytenilbofncfbdaa
open Go.RowKit

theorem info_link : (Try.prog.info? 38).map (fun i => (i.zero, i.size, i.bytes)) = some (some (.agg #[.int .i64 0, .int .i64 0]), 2, 16) := by kernel_rfl
theorem info_ints : (Try.prog.info? 35).map (fun i => (i.zero, i.size, i.bytes)) = some (some (.slice none 0 0), 1, 24) := by kernel_rfl
theorem owns_form {w : World} {B n sz : Nat} {e : TypeId} {v : Value} {xs : List Value} (h : w.ownsRow B e sz v n xs) : ∃ ao cap, v = .slice ao n cap := by
  rcases h.2 with ⟨rfl, h0⟩ | ⟨g, cap, cur, rfl, _⟩
  · exact ⟨none, 0, by rw [h0]⟩
  · exact ⟨_, _, rfl⟩
theorem owns_mono {w : World} {B B' n sz : Nat} {e : TypeId} {v : Value} {xs : List Value} (h : w.ownsRow B e sz v n xs) (hB : B' ≤ B) : w.ownsRow B' e sz v n xs := by
  obtain ⟨h1, h2⟩ := h
  refine ⟨h1, ?_⟩
  rcases h2 with h2 | ⟨g, cap, cur, hv, hb, r⟩
  · exact .inl h2
  · exact .inr ⟨g, cap, cur, hv, Nat.le_trans hB hb, r⟩
theorem owns_kind {w : World} {B sz n : Nat} {e : TypeId} {v : Value} {xs : List Value} (h : w.ownsRow B e sz v n xs) (k : Nat) (hk : v.ownBlock = some k) : ∃ cur, w.heap[k]? = some (.cells cur e (0, 0)) ∧ B ≤ k := by
  rcases h.2 with ⟨rfl, -⟩ | ⟨g, cap, cur, rfl, hb, hg, r⟩
  · cases hk
  · cases hk
    exact ⟨_, hg, hb⟩
theorem owns_same {w w' : World} {B sz n : Nat} {e : TypeId} {v : Value} {xs : List Value} (h : w.ownsRow B e sz v n xs) (hk : ∀ k cur, v.ownBlock = some k → w.heap[k]? = some (.cells cur e (0, 0)) → B ≤ k → w'.heap[k]? = w.heap[k]?) : w'.ownsRow B e sz v n xs := by
  obtain ⟨h1, h2⟩ := h
  refine ⟨h1, ?_⟩
  rcases h2 with h2 | ⟨g, cap, cur, rfl, hb, hg, r⟩
  · exact .inl h2
  · exact .inr ⟨g, cap, cur, rfl, hb, (hk g cur rfl hg hb).trans hg, r⟩
theorem owns_below {w w' : World} {B n sz : Nat} {e : TypeId} {v : Value} {xs : List Value} (h : w.ownsRow B e sz v n xs) (hb : Below w.heap.size w w') : w'.ownsRow B e sz v n xs :=
  owns_same h fun k _ _ hg _ => hb.block k (Array.getElem?_eq_some_iff.1 hg).1
theorem grown_other {w w' : World} {B n sz : Nat} {e : TypeId} {v : Value} {xs : List Value} (h : w.ownsRow B e sz v n xs) (hg : w.grownBy w' v.ownBlock) {k : Nat} {o : Obj} (hk : w.heap[k]? = some o) (hne : ∀ cur, o ≠ .cells cur e (0, 0)) : w'.heap[k]? = some o :=
  (hg.block k (Array.getElem?_eq_some_iff.1 hk).1 (fun e3 => by
    obtain ⟨c, hc, -⟩ := owns_kind h k e3.symm
    rw [hk] at hc
    injection hc with hc
    exact hne c hc)).trans hk
theorem grown_low {w w0 w' : World} {B B' n sz : Nat} {e : TypeId} {v : Value} {xs : List Value} (h : w.ownsRow B e sz v n xs) (hg : w.grownBy w' v.ownBlock) (hb : Below B' w0 w) (h1 : B' ≤ B) (h2 : B' ≤ w.heap.size) : Below B' w0 w' :=
  hb.grown hg h2 (fun k hk => Nat.le_trans h1 (owns_kind h k hk).choose_spec.2)

/-- a []int of the call's own -/
def OwnN (w : World) (B : Nat) (v : Value) (xs : List Int) : Prop := w.ownsRow B 3 1 v xs.length (xs.map intV)
theorem OwnN.nil (w : World) (B : Nat) : OwnN w B (.slice none 0 0) [] := World.ownsRow_nil _ _ _ _
theorem OwnN.cel {w : World} {B : Nat} {v : Value} {xs : List Int} (h : OwnN w B v xs) : Its w w.heap.size v xs := by
  rcases h.2 with ⟨rfl, h0⟩ | ⟨g, cap, cur, rfl, hb, hg, hn, hcm, hcs, htake⟩
  · have : xs = [] := List.eq_nil_of_length_eq_zero h0
    subst this
    exact Cel.nil _ _
  · refine ⟨_, cap, by simp, by simpa using hn, by simp only [List.length_map]; omega, (fun h => by cases h), fun _ => ⟨g, 0, rfl, (Array.getElem?_eq_some_iff.1 hg).1, fun i hi => ?_⟩⟩
    rw [Nat.zero_add, cell_of_row w g i cur _ _ hg]
    rw [List.length_map] at hi
    have h3 : (xs.map intV)[i]? = some (intV (xs.getD i 0)) := by simp [List.getD, hi]
    rw [← htake, List.getElem?_take] at h3
    rw [getI hi]
    exact (by simpa [show i < xs.length * 1 by omega] using h3 : i < xs.length ∧ cur[i]? = some (intV (xs.getD i 0))).2
/-- a []api.Link of the call's own -/
def lkV (x : Int × Int) : List Value := [.int .i64 x.1, .int .i64 x.2]
def OwnL (w : World) (B : Nat) (v : Value) (xs : Ipr) : Prop := w.ownsRow B 38 2 v xs.length (xs.flatMap lkV)
theorem OwnL.nil (w : World) (B : Nat) : OwnL w B (.slice none 0 0) [] := World.ownsRow_nil _ _ _ _
theorem flat_get : ∀ (xs : Ipr) (i : Nat), i < xs.length → (xs.flatMap lkV)[i * 2]? = some (.int .i64 (xs.getD i (0, 0)).1) ∧ (xs.flatMap lkV)[i * 2 + 1]? = some (.int .i64 (xs.getD i (0, 0)).2) := by
  intro xs
  induction xs with
  | nil => intro i hi; cases hi
  | cons x r ih =>
    intro i hi
    cases i with
    | zero => exact ⟨rfl, rfl⟩
    | succ i =>
      obtain ⟨h1, h2⟩ := ih i (by simpa using hi)
      rw [List.flatMap_cons]
      refine ⟨?_, ?_⟩
      · rw [show (i + 1) * 2 = i * 2 + 1 + 1 by omega]; simpa [lkV, List.getD] using h1
      · rw [show (i + 1) * 2 + 1 = i * 2 + 1 + 1 + 1 by omega]; simpa [lkV, List.getD] using h2
theorem OwnL.lks {w : World} {B : Nat} {v : Value} {xs : Ipr} (h : OwnL w B v xs) : Lks w w.heap.size v xs := by
  rcases h.2 with ⟨rfl, h0⟩ | ⟨g, cap, cur, rfl, hb, hg, hn, hcm, hcs, htake⟩
  · have : xs = [] := List.eq_nil_of_length_eq_zero h0
    subst this
    exact Lks.nil _ _
  · refine ⟨_, cap, rfl, hn, by omega, (fun h => by cases h), fun _ => ⟨g, 0, rfl, (Array.getElem?_eq_some_iff.1 hg).1, fun i hi => ?_⟩⟩
    rw [Nat.zero_add, cell_of_row w g _ cur _ _ hg, cell_of_row w g _ cur _ _ hg]
    obtain ⟨h3, h4⟩ := flat_get xs i hi
    rw [← htake, List.getElem?_take] at h3 h4
    rw [if_pos (by omega)] at h3 h4
    exact ⟨by simpa using h3, by simpa using h4⟩
/-- append(l, n) : l of the call's own -/
theorem wpList_append_n {w : World} {ops : Array Oper} {rest : List Oper} {o : Oper} {a : Act} {Q : Exit → Act → World → Prop} (hgd : o.guard = none) (s x : Operand)
    (ho : o.op = .call { callee := .builtin .append, args := #[s, x], argTypes := #[35, 35] })
    (base : Nat) (v : Value) (xs : List Int) (hs : a.eval s = v) (hown : OwnN w base v xs) (g : Nat) (z : Int) (hx : a.eval x = .slice (some ⟨g, 0, none⟩) 1 1) (hg : w.heap[g]? = some (.cells #[.int .i64 z] 3 (0, 0)))
    (hlen : xs.length ≤ 1000000) (hbase : base ≤ w.heap.size)
    (h : ∀ v' w', OwnN w' base v' (xs ++ [z]) → w.grownBy w' v.ownBlock → wpList Try.prog ops Q rest (a.put o.dst v') w') : wpList Try.prog ops Q (o :: rest) a w := by
  obtain ⟨i0, hi, hz0, hz1, hz2⟩ := info_parts info_int
  refine wpList_append_own _ hgd s x _ ho base 3 i0 (.int .i64 0) 1 8 Try.underlying35 hi hz0 hz1 hz2 rfl (by decide) v xs.length (xs.map intV) hs hown ⟨g, 0, none⟩ 1 1 [.int .i64 z] hx (by simp) ?_
    (by intro u hu; simp at hu; subst hu; rfl) (by unfold maxLen; omega) (by omega) hbase ?_
  · intro j u hj
    have hj0 : j = 0 := by have := (List.getElem?_eq_some_iff.1 hj).1; simp at this; omega
    subst hj0
    rw [Addr.add_lit, cell_of_row w g _ _ _ _ hg]
    simpa using hj
  · intro v' w' hown' hg' _
    exact h v' w' (by unfold OwnN; simpa using hown') hg'
theorem wpList_append_l {w : World} {ops : Array Oper} {rest : List Oper} {o : Oper} {a : Act} {Q : Exit → Act → World → Prop} (hgd : o.guard = none) (s x : Operand)
    (ho : o.op = .call { callee := .builtin .append, args := #[s, x], argTypes := #[22, 22] })
    (base : Nat) (v : Value) (xs : Ipr) (hs : a.eval s = v) (hown : OwnL w base v xs) (g : Nat) (z : Int × Int) (hx : a.eval x = .slice (some ⟨g, 0, none⟩) 1 1) (hg : w.heap[g]? = some (.cells #[.int .i64 z.1, .int .i64 z.2] 38 (0, 0)))
    (hlen : xs.length ≤ 1000000) (hbase : base ≤ w.heap.size)
    (h : ∀ v' w', OwnL w' base v' (xs ++ [z]) → w.grownBy w' v.ownBlock → wpList Try.prog ops Q rest (a.put o.dst v') w') : wpList Try.prog ops Q (o :: rest) a w := by
  obtain ⟨i0, hi, hz0, hz1, hz2⟩ := info_parts info_link
  refine wpList_append_own _ hgd s x _ ho base 38 i0 _ 2 16 Try.underlying22 hi hz0 hz1 hz2 rfl (by decide) v xs.length (xs.flatMap lkV) hs hown ⟨g, 0, none⟩ 1 1 [.int .i64 z.1, .int .i64 z.2] hx (by simp) ?_
    (by intro u hu; simp at hu; rcases hu with rfl | rfl <;> rfl) (by unfold maxLen; omega) (by omega) hbase ?_
  · intro j u hj
    rw [Addr.add_lit, cell_of_row w g _ _ _ _ hg]
    simpa using hj
  · intro v' w' hown' hg' _
    exact h v' w' (by unfold OwnL; simpa [lkV] using hown') hg'
/-- a [][]int of the call's own: its rows are rows of the call's own -/
def OwnG (w : World) (B : Nat) (v : Value) (xs : List (List Int)) : Prop := ∃ vs : List Value, vs.length = xs.length ∧ w.ownsRow B 35 1 v xs.length vs ∧ ∀ i, i < xs.length → OwnN w B (vs.getD i undef) (xs.getD i [])
theorem OwnG.nil (w : World) (B : Nat) : OwnG w B (.slice none 0 0) [] := ⟨[], rfl, World.ownsRow_nil _ _ _ _, fun i hi => by cases hi⟩
theorem OwnG.of {w w' : World} {B : Nat} {v : Value} {xs : List (List Int)} (h : OwnG w B v xs) (hk : ∀ k cs t, w.heap[k]? = some (.cells cs t (0, 0)) → t = 35 ∨ t = 3 → B ≤ k → w'.heap[k]? = w.heap[k]?) : OwnG w' B v xs := by
  obtain ⟨vs, h1, h2, h3⟩ := h
  exact ⟨vs, h1, owns_same h2 fun k _ _ hg hb => hk k _ _ hg (.inl rfl) hb, fun i hi => owns_same (h3 i hi) fun k _ _ hg hb => hk k _ _ hg (.inr rfl) hb⟩
theorem OwnG.below {w w' : World} {B : Nat} {v : Value} {xs : List (List Int)} (h : OwnG w B v xs) (hb : Below w.heap.size w w') : OwnG w' B v xs :=
  h.of fun k _ _ hg _ _ => hb.block k (Array.getElem?_eq_some_iff.1 hg).1
theorem OwnG.form {w : World} {B : Nat} {v : Value} {xs : List (List Int)} (h : OwnG w B v xs) : ∃ ao cap, v = .slice ao xs.length cap := by
  obtain ⟨vs, h1, h2, h3⟩ := h
  exact owns_form h2
/-- append(l, row) -/
theorem wpList_append_g {w : World} {ops : Array Oper} {rest : List Oper} {o : Oper} {a : Act} {Q : Exit → Act → World → Prop} (hgd : o.guard = none) (s x : Operand)
    (ho : o.op = .call { callee := .builtin .append, args := #[s, x], argTypes := #[32, 32] })
    (base : Nat) (v : Value) (xs : List (List Int)) (hs : a.eval s = v) (hown : OwnG w base v xs) (g : Nat) (z : List Int) (zv : Value) (hx : a.eval x = .slice (some ⟨g, 0, none⟩) 1 1) (hg : w.heap[g]? = some (.cells #[zv] 35 (0, 0))) (hz : OwnN w base zv z)
    (hlen : xs.length ≤ 1000000) (hbase : base ≤ w.heap.size)
    (h : ∀ v' w', OwnG w' base v' (xs ++ [z]) → Below base w w' → (∀ (k : Nat) (o : Obj), w.heap[k]? = some o → (∀ cs, o ≠ Obj.cells cs 35 (0, 0)) → w'.heap[k]? = some o) → wpList Try.prog ops Q rest (a.put o.dst v') w') : wpList Try.prog ops Q (o :: rest) a w := by
  obtain ⟨i0, hi, hz0, hz1, hz2⟩ := info_parts info_ints
  obtain ⟨vs, hv1, hv2, hv3⟩ := hown
  obtain ⟨zo, zc, hzf⟩ := owns_form hz
  refine wpList_append_own _ hgd s x _ ho base 35 i0 (.slice none 0 0) 1 24 Try.underlying32 hi hz0 hz1 hz2 rfl (by decide) v xs.length vs hs hv2 ⟨g, 0, none⟩ 1 1 [zv] hx (by simp) ?_
    (by intro u hu; simp at hu; subst hu; rw [hzf]; rfl) (by unfold maxLen; omega) (by omega) hbase ?_
  · intro j u hj
    have hj0 : j = 0 := by have := (List.getElem?_eq_some_iff.1 hj).1; simp at this; omega
    subst hj0
    rw [Addr.add_lit, cell_of_row w g _ _ _ _ hg]
    simpa using hj
  · intro v' w' hown' hg' _
    have key : ∀ (k : Nat) (o : Obj), w.heap[k]? = some o → (∀ cs, o ≠ Obj.cells cs 35 (0, 0)) → w'.heap[k]? = some o := fun k o hk hne => grown_other hv2 hg' hk hne
    refine h v' w' ⟨vs ++ [zv], by simp [hv1], by simpa using hown', fun i hi => ?_⟩ (grown_low hv2 hg' (Below.refl _ _) (Nat.le_refl _) hbase) key
    have keep : ∀ {u : Value} {ys : List Int}, OwnN w base u ys → OwnN w' base u ys := fun hu => owns_same hu fun k cur _ hk _ => (key k _ hk (fun cs e => by injection e with _ e; exact absurd e (by decide))).trans hk.symm
    rw [List.length_append, List.length_singleton] at hi
    by_cases e : i = xs.length
    · subst e
      have e1 : (vs ++ [zv]).getD xs.length undef = zv := by rw [List.getD_eq_getElem?_getD, List.getElem?_append_right (by omega), hv1]; simp
      have e2 : (xs ++ [z]).getD xs.length [] = z := by rw [List.getD_eq_getElem?_getD, List.getElem?_append_right (by omega)]; simp
      rw [e1, e2]
      exact keep hz
    · have e1 : (vs ++ [zv]).getD i undef = vs.getD i undef := by rw [List.getD_eq_getElem?_getD, List.getElem?_append_left (by omega), ← List.getD_eq_getElem?_getD]
      have e2 : (xs ++ [z]).getD i [] = xs.getD i [] := by rw [List.getD_eq_getElem?_getD, List.getElem?_append_left (by omega), ← List.getD_eq_getElem?_getD]
      rw [e1, e2]
      exact keep (hv3 i (by omega))

end Go.Proofs.Ytenilbofncfbdaa

namespace Go.Proofs.Ytenilbofncfbdaa
open Go.RowKit

/-- the side that a search behind the greatest flow leaves -/
def sideI (L : Prs) (n : Nat) (a b : Int) : List Bool := (reachB L (mostI L n a b).1 n a.toNat b.toNat).1
def cutP (S : List Bool) (p : Nat × Nat) : Bool := S.getD p.1 false != S.getD p.2 false
def cutI (L : Prs) (n : Nat) (a b : Int) : Prs := if (mostI L n a b).2 = 0 then [] else L.filter (cutP (sideI L n a b))
theorem take_filter {L : Prs} {P : Nat × Nat → Bool} {k : Nat} (hk : k < L.length) : (L.take (k + 1)).filter P = (L.take k).filter P ++ (if P (endA L k, endB L k) then [(endA L k, endB L k)] else []) := by
  have e : L[k]? = some (endA L k, endB L k) := get_ends.2 ⟨hk, rfl, rfl⟩
  rw [List.take_add_one, e, List.filter_append]
  by_cases h : P (endA L k, endB L k) = true <;> simp [h]
/-- the links that are taken, in memory -/
def CW (w : World) (S : List Bool) (P : Nat × Nat → Bool) (L : Prs) (ib k : Nat) (v : Value) (W : World) : Prop :=
  OwnL W w.heap.size v (prI ((L.take k).filter P)) ∧ RowB W ib S ∧ Below w.heap.size w W
theorem CW.below {w : World} {S : List Bool} {P : Nat × Nat → Bool} {L : Prs} {ib k : Nat} {v : Value} {W W' : World} (h : CW w S P L ib k v W) (hb : Below W.heap.size W W') : CW w S P L ib k v W' :=
  ⟨owns_below h.1 hb, h.2.1.keep hb, h.2.2.trans (hb.mono h.2.2.size)⟩
theorem prI_small {L : Prs} {P : Nat × Nat → Bool} {k : Nat} : (prI ((L.take k).filter P)).length ≤ L.length := by
  rw [prI_len]
  exact Nat.le_trans (List.length_filter_le _ _) (by simp; omega)
theorem CW.grown {w : World} {S : List Bool} {P : Nat × Nat → Bool} {L : Prs} {ib k : Nat} {v v' : Value} {W W' : World} (h : CW w S P L ib k v W) (hk : k < L.length) (hp : P (endA L k, endB L k) = true) (ho : OwnL W' w.heap.size v' (prI ((L.take k).filter P) ++ [((endA L k : Int), (endB L k : Int))])) (hg : W.grownBy W' v.ownBlock) : CW w S P L ib (k + 1) v' W' := by
  refine ⟨?_, grown_other h.1 hg h.2.1 (fun cur e => by injection e with _ e; exact absurd e (by decide)), grown_low h.1 hg h.2.2 (Nat.le_refl _) h.2.2.size⟩
  rw [take_filter hk, if_pos hp]
  simpa [prI] using ho
theorem CW.skip {w : World} {S : List Bool} {P : Nat × Nat → Bool} {L : Prs} {ib k : Nat} {v : Value} {W : World} (h : CW w S P L ib k v W) (hk : k < L.length) (hp : P (endA L k, endB L k) = false) : CW w S P L ib (k + 1) v W := by
  refine ⟨?_, h.2.1, h.2.2⟩
  rw [take_filter hk, if_neg (by rw [hp]; simp), List.append_nil]
  exact h.1

set_option maxRecDepth 100000 in
set_option maxHeartbeats 8000000 in
theorem cut_any (w : World) (lv : Value) (n : Nat) (L : Prs) (a b : Int) (hl : Lis w w.heap.size lv L) (hf : FitL n L) (hL : L.length ≤ 1000) (hn : n ≤ 16) :
    Calls Try.prog 15 #[.int .i64 (n : Int), lv, .int .i64 a, .int .i64 b] w fun e w' => (∃ v, e = .returned v ∧ OwnL w' w.heap.size v (prI (cutI L n a b))) ∧ Below w.heap.size w w' := by
  have HC := Lib.hid (most_any w lv n L a b hl hf hL hn)
  obtain ⟨C, hC⟩ : ∃ C, C = cutI L n a b := ⟨_, rfl⟩
  obtain ⟨ao, cap, rfl, hcap, hcl⟩ := hl.slice
  have HLS := Lib.hid hl
  have HF := Lib.hid hf
  have HL1 := Lib.hid hL
  obtain ⟨m, hm⟩ : ∃ m, m = L.length := ⟨_, rfl⟩
  have HMM : Hid (m = L.length) := hm
  rw [← hm] at HC HLS hcap hcl hL ⊢
  by_cases ht : (mostI L n a b).2 = 0
  · have e0 : C = [] := by rw [hC]; unfold cutI; rw [if_pos ht]
    rw [← hC, e0]
    rw [ht] at HC
    clear hC e0 hl hm ht hf
    go_enter Try.func15, Try.ntmps15
    go_wp2_with (fail)
    refine HC.out.mono ?_
    rintro e w' ⟨⟨fb, gb, rfl, -⟩, hb⟩
    have HB := Lib.hid hb
    clear hb
    go_wp2
    go_ret
    exact ⟨⟨_, rfl, OwnL.nil _ _⟩, HB.out⟩
  · have hp : Pair n a b := by
      refine Classical.byContradiction fun hp => ht ?_
      unfold mostI
      rw [if_neg hp]
    obtain ⟨p1, p2, p3, p4, p5⟩ := hp
    obtain ⟨x, rfl⟩ : ∃ x : Nat, a = (x : Int) := ⟨a.toNat, by omega⟩
    obtain ⟨y, rfl⟩ : ∃ x : Nat, b = (x : Int) := ⟨b.toNat, by omega⟩
    obtain ⟨S, hS⟩ : ∃ S, S = sideI L n (x : Int) (y : Int) := ⟨_, rfl⟩
    have hSl : S.length = n := by rw [hS]; unfold sideI; exact (BI.rowlen hf (by omega)).1
    have hC2 : C = L.filter (cutP S) := by rw [hC, hS]; unfold cutI; rw [if_neg ht]
    rw [← hC, hC2]
    obtain ⟨t, htt⟩ : ∃ t, t = (mostI L n (x : Int) (y : Int)).2 := ⟨_, rfl⟩
    have ht0 : ((t : Int) == 0) = false := by rw [beq_eq_false_iff_ne]; omega
    have hS2 : S = (reachB L (mostI L n (x : Int) (y : Int)).1 n x y).1 := by rw [hS]; unfold sideI; simp
    obtain ⟨g, hg⟩ : ∃ g, g = (mostI L n (x : Int) (y : Int)).1 := ⟨_, rfl⟩
    rw [← hg] at hS2 HC
    rw [← htt] at HC
    have HS2 := Lib.hid hS2
    have hx : x < n := by omega
    have hy : y < n := by omega
    have HP : Hid (∀ P : Nat × Nat → Bool, (L.take m).filter P = L.filter P) := fun P => by rw [hm, List.take_length]
    clear hC hC2 hS hS2 hg htt hl hm hf ht p1 p2 p3 p4 p5
    go_enter Try.func15, Try.ntmps15
    go_wp2_with (fail)
    refine HC.out.mono ?_
    rintro e W1 ⟨⟨fb, gb, rfl, hfw⟩, hb⟩
    have HB := Lib.hid hb
    have HRE := Lib.hid (freach_any W1 _ fb gb _ n L g x y (HMM.out ▸ hfw) HF.out hn HL1.out hx hy)
    clear hb hfw HC
    go_wp2_with (fail)
    refine HRE.out.mono ?_
    rintro e W2 ⟨⟨ib, yb, rfl, hi, -, -, -⟩, hb2⟩
    have HCW : Hid (CW w S (cutP S) L ib 0 (.slice none 0 0) W2) := ⟨OwnL.nil _ _, by rw [HS2.out]; exact hi, HB.out.trans (hb2.mono HB.out.size)⟩
    clear hi hb2 HRE HB ht0
    go_wp2_with (fail)
    go_loopw [13, 35] (fun v kv wx => ∃ k nv cv : Nat, ∃ av, v = .slice av nv cv ∧ kv = .int .i64 (k : Int) ∧ k ≤ m ∧ Hid (CW w S (cutP S) L ib k (.slice av nv cv) wx)) (fun _ kv _ => m - (intOf kv).toNat)
    case atStart => exact ⟨0, 0, 0, none, rfl, rfl, Nat.zero_le _, HCW.out⟩
    case round =>
      clear HCW
      obtain ⟨k, nv, cv, av, rfl, rfl, hk, HCW⟩ := hrel
      by_cases hlt : k < m
      · have hkL : k < L.length := by have := HMM.out; omega
        obtain ⟨bl, ol, hbl, hbl2, cA, cB⟩ := Lis.at (HLS.out.below HCW.out.2.2 (Nat.le_refl _)) k hkL
        subst hbl
        obtain ⟨hA, hB⟩ := HF.out.lt k hkL
        have HCW2 := Lib.hid (HCW.out.below (new_block wr (.cells #[.int .i64 (endA L k : Int), .int .i64 (endB L k : Int)] 38)).1)
        have cIA := HCW2.out.2.1.cell (endA L k) (by rw [hSl]; omega)
        have cIB := HCW2.out.2.1.cell (endB L k) (by rw [hSl]; omega)
        have hbw : bl < wr.heap.size := by have := HCW.out.2.2.size; omega
        have HPP : Hid (cutP S (endA L k, endB L k) = (S.getD (endA L k) false != S.getD (endB L k) false)) := rfl
        obtain ⟨p, hp⟩ : ∃ p, p = S.getD (endA L k) false := ⟨_, rfl⟩
        obtain ⟨q, hq⟩ : ∃ q, q = S.getD (endB L k) false := ⟨_, rfl⟩
        rw [← hp, ← hq] at HPP
        rw [← hp] at cIA
        rw [← hq] at cIB
        have HKL := Lib.hid hkL
        obtain ⟨u, hu⟩ : ∃ u, u = endA L k := ⟨_, rfl⟩
        obtain ⟨v, hv⟩ : ∃ u, u = endB L k := ⟨_, rfl⟩
        rw [← hu, ← hv] at HCW2 cIA cIB
        rw [← hu] at cA hA
        rw [← hv] at cB hA hB
        rw [← hu, ← hv] at HPP
        have HU : Hid (u = endA L k ∧ v = endB L k) := ⟨hu, hv⟩
        have hun : 0 ≤ (u : Int) ∧ (u : Int) < (n : Int) := by omega
        have hvn : 0 ≤ (v : Int) ∧ (v : Int) < (n : Int) := by omega
        have HSM : Hid ((prI ((L.take k).filter (cutP S))).length ≤ 1000000) := Nat.le_trans prI_small (by have := HL1.out; omega)
        clear hp hq hu hv hkL HCW hA hB
        have hib : ib < wr.heap.size + 1 := by have := HCW2.out.2.1.lt; simpa using this
        have hibn : ib ≠ wr.heap.size := by
          rintro rfl
          have h1 := HCW2.out.2.1
          unfold RowB RowV at h1
          rw [heap_alloc_new] at h1
          injection h1 with h1
          injection h1 with _ h1
          exact absurd h1 (by decide)
        cases p with
        | false =>
          cases q with
          | false =>
            go_wp2_with (fail)
            go_quiet (fail)
            have HCW3 : Hid (CW w S (cutP S) L ib (k + 1) (.slice av nv cv) ((wr.alloc (.cells #[.int .i64 (u : Int), .int .i64 (v : Int)] 38)).drewN nq)) := (HCW2.out.below (bdN _ _ _)).skip HKL.out (by rw [← HU.out.1, ← HU.out.2, HPP.out]; rfl)
            go_wp2_with (fail)
            go_roundw
            case rel => exact ⟨k + 1, nv, cv, av, rfl, by go_num, by omega, HCW3.out⟩
            case measure => simp [intOf] <;> omega
          | true =>
            go_wp2_with (fail)
            go_quiet (fail)
            obtain ⟨W3, hW3⟩ : ∃ W3, W3 = (wr.alloc (.cells #[.int .i64 (u : Int), .int .i64 (v : Int)] 38)).drewN nq := ⟨_, rfl⟩
            have HCW3 : Hid (CW w S (cutP S) L ib k (.slice av nv cv) W3) := by show CW _ _ _ _ _ _ _ _; rw [hW3]; exact HCW2.out.below (bdN _ _ _)
            have h15 : W3.heap[wr.heap.size]? = some (.cells #[.int .i64 (u : Int), .int .i64 (v : Int)] 38 (0, 0)) := by rw [hW3]; exact heap_alloc_new wr _
            have c0 := cell_of_row _ _ 0 _ _ _ h15
            have c1 := cell_of_row _ _ 1 _ _ _ h15
            rw [← hW3]
            have HM3 := Lib.hid (new_block W3 (.cells #[.int .i64 (u : Int), .int .i64 (v : Int)] 38))
            have HO3 : Hid (OwnL (W3.alloc (.cells #[.int .i64 (u : Int), .int .i64 (v : Int)] 38)) w.heap.size (.slice av nv cv) (prI ((L.take k).filter (cutP S)))) := owns_below HCW3.out.1 HM3.out.1
            have HSZ3 : Hid (w.heap.size ≤ (W3.alloc (.cells #[.int .i64 (u : Int), .int .i64 (v : Int)] 38)).heap.size) := Nat.le_trans HCW3.out.2.2.size HM3.out.1.size
            clear hW3 h15
            go_wp2_with (at_builtin; refine wpList_append_l rfl _ _ rfl w.heap.size _ _ rfl HO3.out W3.heap.size ((u : Int), (v : Int)) rfl HM3.out.2 HSM.out HSZ3.out ?_)
            intro v5 W5 ho5 hg5
            have HCW5 : Hid (CW w S (cutP S) L ib (k + 1) v5 W5) := (HCW3.out.below HM3.out.1).grown HKL.out (by rw [← HU.out.1, ← HU.out.2, HPP.out]; rfl) (by rw [← HU.out.1, ← HU.out.2]; exact ho5) hg5
            obtain ⟨av2, cv2, hv5⟩ := owns_form ho5
            clear ho5 hg5
            subst hv5
            go_wp2_with (fail)
            go_roundw
            case rel => exact ⟨k + 1, _, cv2, av2, rfl, by go_num, by omega, HCW5.out⟩
            case measure => simp [intOf] <;> omega
        | true =>
          cases q with
          | false =>
            go_wp2_with (fail)
            go_quiet (fail)
            obtain ⟨W3, hW3⟩ : ∃ W3, W3 = (wr.alloc (.cells #[.int .i64 (u : Int), .int .i64 (v : Int)] 38)).drewN nq := ⟨_, rfl⟩
            have HCW3 : Hid (CW w S (cutP S) L ib k (.slice av nv cv) W3) := by show CW _ _ _ _ _ _ _ _; rw [hW3]; exact HCW2.out.below (bdN _ _ _)
            have h15 : W3.heap[wr.heap.size]? = some (.cells #[.int .i64 (u : Int), .int .i64 (v : Int)] 38 (0, 0)) := by rw [hW3]; exact heap_alloc_new wr _
            have c0 := cell_of_row _ _ 0 _ _ _ h15
            have c1 := cell_of_row _ _ 1 _ _ _ h15
            rw [← hW3]
            have HM3 := Lib.hid (new_block W3 (.cells #[.int .i64 (u : Int), .int .i64 (v : Int)] 38))
            have HO3 : Hid (OwnL (W3.alloc (.cells #[.int .i64 (u : Int), .int .i64 (v : Int)] 38)) w.heap.size (.slice av nv cv) (prI ((L.take k).filter (cutP S)))) := owns_below HCW3.out.1 HM3.out.1
            have HSZ3 : Hid (w.heap.size ≤ (W3.alloc (.cells #[.int .i64 (u : Int), .int .i64 (v : Int)] 38)).heap.size) := Nat.le_trans HCW3.out.2.2.size HM3.out.1.size
            clear hW3 h15
            go_wp2_with (at_builtin; refine wpList_append_l rfl _ _ rfl w.heap.size _ _ rfl HO3.out W3.heap.size ((u : Int), (v : Int)) rfl HM3.out.2 HSM.out HSZ3.out ?_)
            intro v5 W5 ho5 hg5
            have HCW5 : Hid (CW w S (cutP S) L ib (k + 1) v5 W5) := (HCW3.out.below HM3.out.1).grown HKL.out (by rw [← HU.out.1, ← HU.out.2, HPP.out]; rfl) (by rw [← HU.out.1, ← HU.out.2]; exact ho5) hg5
            obtain ⟨av2, cv2, hv5⟩ := owns_form ho5
            clear ho5 hg5
            subst hv5
            go_wp2_with (fail)
            go_roundw
            case rel => exact ⟨k + 1, _, cv2, av2, rfl, by go_num, by omega, HCW5.out⟩
            case measure => simp [intOf] <;> omega
          | true =>
            go_wp2_with (fail)
            go_quiet (fail)
            have HCW3 : Hid (CW w S (cutP S) L ib (k + 1) (.slice av nv cv) ((wr.alloc (.cells #[.int .i64 (u : Int), .int .i64 (v : Int)] 38)).drewN nq)) := (HCW2.out.below (bdN _ _ _)).skip HKL.out (by rw [← HU.out.1, ← HU.out.2, HPP.out]; rfl)
            go_wp2_with (fail)
            go_roundw
            case rel => exact ⟨k + 1, nv, cv, av, rfl, by go_num, by omega, HCW3.out⟩
            case measure => simp [intOf] <;> omega
      · obtain rfl : k = m := by omega
        have HFIN : Hid (OwnL wr w.heap.size (.slice av nv cv) (prI (L.filter (cutP S))) ∧ Below w.heap.size w wr) := by
          have h1 := HCW.out.1
          rw [HP.out] at h1
          exact ⟨h1, HCW.out.2.2⟩
        clear HCW
        go_wp2_with (fail)
        go_ret
        exact ⟨⟨_, rfl, HFIN.out.1⟩, HFIN.out.2⟩

def wkS (s : Nat × Bool) (x : Nat) : Nat × Bool := if s.2 = false ∨ x < s.1 then (x, true) else s
def wkB (L : Prs) (n a : Nat) (s : Nat × Bool) : Nat → Nat × Bool
  | 0 => s
  | j + 1 => wkS (wkB L n a s j) (mostI L n (a : Int) ((a + 1 + j : Nat) : Int)).2
def wkA (L : Prs) (n : Nat) : Nat → Nat × Bool
  | 0 => (0, false)
  | a + 1 => wkB L n a (wkA L n a) (n - (a + 1))
def weakI (L : Prs) (n : Nat) : Nat × Bool := wkA L n n

set_option maxRecDepth 100000 in
set_option maxHeartbeats 8000000 in
theorem weakest_any (w : World) (lv : Value) (n : Nat) (L : Prs) (hl : Lis w w.heap.size lv L) (hf : FitL n L) (hL : L.length ≤ 1000) (hn : n ≤ 16) :
    Calls Try.prog 10 #[.int .i64 (n : Int), lv] w fun e w' => e = .returned (.tuple #[.int .i64 ((weakI L n).1 : Int), .bool (weakI L n).2]) ∧ Below w.heap.size w w' := by
  have HW : Hid (∀ (W : World) (a b : Int), Below w.heap.size w W → Calls Try.prog 12 #[.int .i64 (n : Int), lv, .int .i64 a, .int .i64 b] W fun e w' => e = .returned (.int .i64 ((mostI L n a b).2 : Int)) ∧ Below W.heap.size W w') := fun W a b hW => flow_any W lv n L a b (hl.below hW hW.size) hf hL hn
  have HR : Hid (weakI L n = wkA L n n) := rfl
  obtain ⟨R, hR⟩ : ∃ R, R = weakI L n := ⟨_, rfl⟩
  rw [← hR] at HR ⊢
  obtain ⟨ao, cap, rfl, hcap, hcl⟩ := hl.slice
  obtain ⟨m, hm⟩ : ∃ m, m = L.length := ⟨_, rfl⟩
  rw [← hm] at HW ⊢
  clear hR hl hm hcap hcl hL hf
  go_enter Try.func10, Try.ntmps10
  go_wp2_with (fail)
  go_loopw [6, 7, 12] (fun lv kv av wx => ∃ (a l : Nat) (k : Bool), lv = .int .i64 (l : Int) ∧ kv = .bool k ∧ av = .int .i64 (a : Int) ∧ a ≤ n ∧ Hid ((l, k) = wkA L n a) ∧ Hid (Below w.heap.size w wx)) (fun _ _ av _ => n - (intOf av).toNat)
  case atStart => exact ⟨0, 0, false, rfl, rfl, rfl, Nat.zero_le _, rfl, Below.refl _ _⟩
  case round =>
    obtain ⟨a, l, k, rfl, rfl, rfl, ha, HS, HB⟩ := hrel
    by_cases hlt : a < n
    · go_wp2_with (fail)
      go_loopw [6, 7, 9] (fun lv kv bv wx => ∃ (j l : Nat) (k : Bool), lv = .int .i64 (l : Int) ∧ kv = .bool k ∧ bv = .int .i64 ((a + 1 + j : Nat) : Int) ∧ a + 1 + j ≤ n ∧ Hid ((l, k) = wkB L n a (wkA L n a) j) ∧ Hid (Below w.heap.size w wx)) (fun _ _ bv _ => n - (intOf bv).toNat)
      case atStart => exact ⟨0, l, k, rfl, rfl, by go_num, by omega, HS.out, HB.out⟩
      case round =>
        clear HS HB
        obtain ⟨j, l, k, rfl, rfl, rfl, hj, HS, HB⟩ := hrel
        obtain ⟨b, hb⟩ : ∃ b, b = a + 1 + j := ⟨_, rfl⟩
        rw [← hb] at hj ⊢
        by_cases hlt2 : b < n
        · have HC := Lib.hid (HW.out _ (a : Int) (b : Int) HB.out)
          obtain ⟨x, hx⟩ : ∃ x, x = (mostI L n (a : Int) (b : Int)).2 := ⟨_, rfl⟩
          rw [← hx] at HC
          have HST : Hid (wkB L n a (wkA L n a) (j + 1) = wkS (l, k) x) := by
            show wkS _ _ = _
            rw [HS.out, hx, hb]
          have HBJ := Lib.hid hb
          clear hx hb HS
          go_wp2_with (fail)
          refine HC.out.mono ?_
          rintro e W2 ⟨rfl, hb2⟩
          have HB2 : Hid (Below w.heap.size w W2) := HB.out.trans (hb2.mono HB.out.size)
          clear hb2 HC HB
          cases k with
          | false =>
            have HE : Hid ((x, true) = wkB L n a (wkA L n a) (j + 1)) := by show _ = _; rw [HST.out]; rfl
            clear HST
            go_wp2_with (fail)
            go_roundw
            case rel => exact ⟨j + 1, x, true, rfl, rfl, by have := HBJ.out; go_num, by have := HBJ.out; omega, HE.out, HB2.out⟩
            case measure => simp [intOf] <;> omega
          | true =>
            by_cases hxl : (x : Int) < (l : Int)
            · have HE : Hid ((x, true) = wkB L n a (wkA L n a) (j + 1)) := by show _ = _; rw [HST.out]; unfold wkS; rw [if_pos (.inr (by show x < l; omega))]
              clear HST
              go_wp2_with (fail)
              go_roundw
              case rel => exact ⟨j + 1, x, true, rfl, rfl, by have := HBJ.out; go_num, by have := HBJ.out; omega, HE.out, HB2.out⟩
              case measure => simp [intOf] <;> omega
            · have hno : ¬((l, true).2 = false ∨ x < (l, true).1) := by
                intro h
                rcases h with h | h
                · cases h
                · exact hxl (by show (x : Int) < (l : Int); have : x < l := h; omega)
              have HE : Hid ((l, true) = wkB L n a (wkA L n a) (j + 1)) := by show _ = _; rw [HST.out]; unfold wkS; rw [if_neg hno]
              clear hno
              clear HST
              go_wp2_with (fail)
              go_roundw
              case rel => exact ⟨j + 1, l, true, rfl, rfl, by have := HBJ.out; go_num, by have := HBJ.out; omega, HE.out, HB2.out⟩
              case measure => simp [intOf] <;> omega
        · have HE : Hid ((l, k) = wkA L n (a + 1)) := by show _ = _; rw [HS.out]; show _ = wkB _ _ _ _ _; rw [show n - (a + 1) = j by omega]
          clear hb HS
          go_wp2_with (fail)
          go_roundw
          case rel => exact ⟨a + 1, l, k, rfl, rfl, by go_num, by omega, HE.out, HB.out⟩
          case measure => simp [intOf] <;> omega
    · obtain rfl : a = n := by omega
      have HE : Hid (R = (l, k)) := by show _ = _; rw [HR.out, HS.out]
      clear HS HR
      go_wp2_with (fail)
      rw [HE.out]
      exact bodyPost_ret (results_tmp2 rfl _ _ _) rfl ⟨rfl, HB.out⟩

end Go.Proofs.Ytenilbofncfbdaa

