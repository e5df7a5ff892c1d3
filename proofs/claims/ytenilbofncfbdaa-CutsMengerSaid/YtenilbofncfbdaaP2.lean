/- Cuts: what the ways keep to: plain. No program here.
Cuts: the law's place: walked.
Cuts: rows of rows, read; which pairs the ways have used (plain). -/
import Derived.Test.YtenilbofncfbdaaCG
import Derived.Test.YtenilbofncfbdaaCK
import Derived.Test.YtenilbofncfbdaaCH
set_option linter.unusedSimpArgs false
set_option linter.unusedVariables false
namespace Go.Proofs.Ytenilbofncfbdaa

/-- one way and the pairs it goes over -/
structure WayD (L : Prs) (n a b : Nat) (w ks : List Nat) : Prop where
  nod : w.Nodup
  lt : ∀ x ∈ w, x < n
  hd : w.head? = some a
  last : w.getLast? = some b
  chn : Chn L w ks
  kl : ∀ k ∈ ks, k < L.length
/-- ways that have no pair in common -/
structure WaysD (L : Prs) (n a b : Nat) (ws kss : List (List Nat)) : Prop where
  len : kss.length = ws.length
  nod : kss.flatten.Nodup
  each : ∀ j, j < ws.length → WayD L n a b (ws.getD j []) (kss.getD j [])
theorem getD_app {α : Type} (l r : List α) (d : α) (j : Nat) : (l ++ r).getD j d = if j < l.length then l.getD j d else r.getD (j - l.length) d := by
  simp only [List.getD_eq_getElem?_getD]
  split
  · rename_i h; rw [List.getElem?_append_left h]
  · rename_i h; rw [List.getElem?_append_right (by omega)]
theorem WaysD.nil (L : Prs) (n a b : Nat) : WaysD L n a b [] [] := ⟨rfl, by simp, fun j hj => by cases hj⟩
theorem WaysD.add {L : Prs} {n a b : Nat} {ws kss : List (List Nat)} (h : WaysD L n a b ws kss) {w ks : List Nat} (hw : WayD L n a b w ks) (hk : ks.Nodup) (hd : ∀ k ∈ kss.flatten, k ∉ ks) : WaysD L n a b (ws ++ [w]) (kss ++ [ks]) := by
  refine ⟨by simp [h.len], ?_, fun j hj => ?_⟩
  · rw [List.flatten_append, List.nodup_append]
    refine ⟨h.nod, by simpa using hk, fun x hx y hy => ?_⟩
    rintro rfl
    exact hd x hx (by simpa using hy)
  · rw [List.length_append] at hj
    rw [getD_app, getD_app, h.len]
    by_cases e : j < ws.length
    · rw [if_pos e, if_pos e]; exact h.each j e
    · have : j = ws.length := by simp at hj; omega
      subst this
      rw [if_neg (by omega), if_neg (by omega)]
      simpa using hw
theorem waysR_ok {L : Prs} {n a b : Nat} (hf : FitL n L) (ha : a < n) (hab : a ≠ b) : ∀ (t : Nat) (g : List Int) (ws kss : List (List Nat)), g.length = L.length → FlowI (endA L) (endB L) L.length a b (t : Int) (gF g) → WaysD L n a b ws kss → (∀ k ∈ kss.flatten, gF g k = 0) →
    (waysR L a b t g ws).length = ws.length + t ∧ ∃ kss', WaysD L n a b (waysR L a b t g ws) kss' := by
  intro t
  induction t with
  | zero => intro g ws kss _ _ h _; exact ⟨rfl, kss, h⟩
  | succ t ih =>
    intro g ws kss hl hfl h hz
    unfold waysR
    have hs := WI.start (n := n) ha hl hfl
    have hfu : nzL g < L.length + 1 := by have := nz_len g; omega
    obtain ⟨ok, h1, h2⟩ := wayR_ok hf hab (Nat.succ_pos t) (L.length + 1) g a [a] hs hfu
    obtain ⟨ks, c1, c2, c3⟩ := ok.ks
    have hw : WayD L n a b (wayR L b (L.length + 1) g a [a]).2 ks := ⟨ok.nod, ok.lt, ok.hd, ok.last, c1, fun k hk => (c3 k hk).1⟩
    have hd : ∀ k ∈ kss.flatten, k ∉ ks := fun k hk hk2 => (c3 k hk2).2.2 (hz k hk)
    have e : t + 1 - 1 = t := by omega
    rw [e] at h2
    obtain ⟨e1, e2⟩ := ih _ _ (kss ++ [ks]) h1 h2 (h.add hw c2 hd) (fun k hk => by
      rw [List.flatten_append] at hk
      rcases List.mem_append.1 hk with hk | hk
      · by_cases e0 : gF (wayR L b (L.length + 1) g a [a]).1 k = 0
        · exact e0
        · rw [ok.less k e0]; exact hz k hk
      · exact (c3 k (by simpa using hk)).2.1)
    exact ⟨by rw [e1, List.length_append]; simp; omega, e2⟩
theorem waysI_ok {L : Prs} {n : Nat} {a b : Int} (hf : FitL n L) : (waysI L n a b).length = (mostI L n a b).2 ∧ (waysI L n a b ≠ [] → Pair n a b) ∧ ∃ kss, WaysD L n a.toNat b.toNat (waysI L n a b) kss := by
  unfold waysI
  by_cases hp : Pair n a b
  · have hm : mostI L n a b = mostF L n a.toNat b.toNat := by unfold mostI; rw [if_pos hp]
    obtain ⟨h1, h2, h3, h4, h5⟩ := id hp
    have hab : a.toNat ≠ b.toNat := by omega
    have ok := most_ok (a := a.toNat) (b := b.toNat) hf (by omega) (by omega) hab
    rw [hm]
    obtain ⟨e1, e2⟩ := waysR_ok hf (by omega) hab (mostF L n a.toNat b.toNat).2 (mostF L n a.toNat b.toNat).1 [] [] ok.len ok.flow (WaysD.nil _ _ _ _) (fun k hk => by simp at hk)
    exact ⟨by rw [e1]; simp, fun _ => hp, e2⟩
  · have hm : (mostI L n a b).2 = 0 := by unfold mostI; rw [if_neg hp]
    rw [hm]
    exact ⟨rfl, fun h => absurd rfl h, [], WaysD.nil _ _ _ _⟩
/-- the pair of two nodes stands at one place alone -/
theorem pair_one {n : Nat} {L : Prs} (hf : FitL n L) {i k : Nat} (hi : i < L.length) (hk : k < L.length) (ha : endA L i = endA L k) (hb : endB L i = endB L k) : i = k := by
  rcases Nat.lt_trichotomy i k with h | h | h
  · have := hf.sorted i k h hk; omega
  · exact h
  · have := hf.sorted k i h hi; omega

end Go.Proofs.Ytenilbofncfbdaa

namespace Go.Proofs.Ytenilbofncfbdaa
open Go.RowKit

set_option maxRecDepth 100000 in
set_option maxHeartbeats 1000000 in
theorem place_any (W : World) (v : Value) (n : Nat) (L : Prs) (a b k0 : Nat) (hl : Lis W W.heap.size v L) (hf : FitL n L) (hL : L.length ≤ 1000) (hk0 : Edge L k0 a b) :
    Calls Try.prog 19 #[v, .int .i64 (a : Int), .int .i64 (b : Int)] W fun e w' => e = .returned (.int .i64 (k0 : Int)) ∧ Below W.heap.size W w' := by
  obtain ⟨ao, ac, rfl, hac, hal⟩ := hl.slice
  have HL := Lib.hid hl
  obtain ⟨P, hP⟩ : ∃ p, p = endA L k0 := ⟨_, rfl⟩
  obtain ⟨Q, hQ⟩ : ∃ p, p = endB L k0 := ⟨_, rfl⟩
  have hlt0 := hf.lt k0 hk0.1
  have hcase : (a < b ∧ a = P ∧ b = Q) ∨ (b < a ∧ b = P ∧ a = Q) := by
    rw [hP, hQ]; rcases hk0.2 with ⟨e1, e2⟩ | ⟨e1, e2⟩ <;> omega
  have HOT : Hid (∀ k, k < k0 → ¬ (endA L k = P ∧ endB L k = Q)) := fun k hk h => by
    have := hk0.1
    have := pair_one hf (i := k) (k := k0) (by omega) hk0.1 (by omega) (by omega)
    omega
  have HPQ : Hid (P = endA L k0 ∧ Q = endB L k0) := ⟨hP, hQ⟩
  have hkm := hk0.1
  obtain ⟨m, hm⟩ : ∃ m, m = L.length := ⟨_, rfl⟩
  have HM := Lib.hid hm
  rw [← hm] at HL hac hal hL hkm ⊢
  clear hl hf hk0 hm hlt0 hP hQ
  go_enter Try.func19, Try.ntmps19
  go_wp2_with (fail)
  go_loopw [11] (fun kv wx => ∃ k : Nat, kv = .int .i64 (k : Int) ∧ k ≤ k0 ∧ Hid (Below W.heap.size W wx)) (fun kv _ => k0 - (intOf kv).toNat)
  case atStart => exact ⟨0, rfl, Nat.zero_le _, Below.refl _ _⟩
  case round =>
    obtain ⟨k, rfl, hk, HB⟩ := hrel
    have hlt : k < m := by omega
    have hkL : k < L.length := by have := HM.out; omega
    obtain ⟨bl, ol, e1, hl1, cA, cB⟩ := Lis.at (HL.out.below HB.out (Nat.le_refl _)) k hkL
    subst e1
    have HN : Hid (k < k0 → ¬ (endA L k = P ∧ endB L k = Q)) := HOT.out k
    have HY : Hid (k = k0 → endA L k = P ∧ endB L k = Q) := fun e => by rw [e]; exact ⟨HPQ.out.1.symm, HPQ.out.2.symm⟩
    obtain ⟨x, hx⟩ : ∃ x, x = endA L k := ⟨_, rfl⟩
    obtain ⟨y, hy⟩ : ∃ x, x = endB L k := ⟨_, rfl⟩
    rw [← hx] at cA HN HY
    rw [← hy] at cB HN HY
    have hbw : bl < wr.heap.size := by have := HB.out.size; omega
    obtain ⟨q, hq⟩ : ∃ q, q = wr.heap.size := ⟨_, rfl⟩
    obtain ⟨W1, hW1⟩ : ∃ W1, W1 = wr.alloc (.cells #[.int .i64 (x : Int), .int .i64 (y : Int)] 38) := ⟨_, rfl⟩
    have m1 := new_block wr (.cells #[.int .i64 (x : Int), .int .i64 (y : Int)] 38)
    rw [← hW1, ← hq] at m1
    have HB3 : Hid (Below W.heap.size W W1) := HB.out.trans (m1.1.mono (by rw [hq]; exact HB.out.size))
    have cq0 : W1.cell? ⟨q, 0, none⟩ = some (.int .i64 (x : Int)) := cell_of_row _ _ 0 _ _ _ m1.2
    have cq1 : W1.cell? ⟨q, 1, none⟩ = some (.int .i64 (y : Int)) := cell_of_row _ _ 1 _ _ _ m1.2
    have HW1 := Lib.hid hW1
    have HQ := Lib.hid hq
    clear hx hy hkL m1 hq hW1
    have HB4 := Lib.hid (show Below W.heap.size W (wr.alloc (.cells #[.int .i64 (x : Int), .int .i64 (y : Int)] 38)) by rw [← HW1.out]; exact HB3.out)
    clear HB3 cq0 cq1 HW1 HQ W1 q
    by_cases hkk : k = k0
    · obtain ⟨e1, e2⟩ := HY.out hkk
      subst hkk e1 e2
      clear HY HN HOT HPQ
      rcases hcase with ⟨hab, rfl, rfl⟩ | ⟨hab, rfl, rfl⟩
      · go_wp2_with (fail)
        go_ret
        exact ⟨rfl, HB4.out⟩
      · go_wp2_with (fail)
        go_ret
        exact ⟨rfl, HB4.out⟩
    · have hne := HN.out (by omega)
      clear HY HN HOT HPQ
      rcases hcase with ⟨hab, rfl, rfl⟩ | ⟨hab, rfl, rfl⟩
      · by_cases hx : x = a
        · have hy : ((y : Int) == (b : Int)) = false := by rw [beq_eq_false_iff_ne]; intro e; exact hne ⟨hx, by omega⟩
          subst hx
          go_wp2_with (fail)
          exact ⟨⟨k + 1, by go_num, by omega, HB4.out⟩, by simp [intOf] <;> omega⟩
        · have hx2 : ((x : Int) == (a : Int)) = false := by rw [beq_eq_false_iff_ne]; omega
          go_wp2_with (fail)
          exact ⟨⟨k + 1, by go_num, by omega, HB4.out⟩, by simp [intOf] <;> omega⟩
      · by_cases hx : x = b
        · have hy : ((y : Int) == (a : Int)) = false := by rw [beq_eq_false_iff_ne]; intro e; exact hne ⟨hx, by omega⟩
          subst hx
          go_wp2_with (fail)
          exact ⟨⟨k + 1, by go_num, by omega, HB4.out⟩, by simp [intOf] <;> omega⟩
        · have hx2 : ((x : Int) == (b : Int)) = false := by rw [beq_eq_false_iff_ne]; omega
          go_wp2_with (fail)
          exact ⟨⟨k + 1, by go_num, by omega, HB4.out⟩, by simp [intOf] <;> omega⟩

end Go.Proofs.Ytenilbofncfbdaa

namespace Go.Proofs.Ytenilbofncfbdaa
open Go.RowKit

/-- a slice that reads as rows of numbers -/
def Gis (w : World) (B : Nat) (v : Value) (xs : List (List Int)) : Prop := ∃ vs : List Value, vs.length = xs.length ∧ Cel w B v vs ∧ ∀ i, i < xs.length → Its w B (vs.getD i undef) (xs.getD i [])
theorem Gis.below {w w' : World} {B B' : Nat} {v : Value} {xs : List (List Int)} (h : Gis w B v xs) (hb : Below B w w') (hB : B ≤ B') : Gis w' B' v xs := by
  obtain ⟨vs, h1, h2, h3⟩ := h
  exact ⟨vs, h1, h2.below hb hB, fun i hi => (h3 i hi).below hb hB⟩
theorem Gis.slice {w : World} {B : Nat} {v : Value} {xs : List (List Int)} (h : Gis w B v xs) : ∃ ao cap, v = .slice ao xs.length cap ∧ xs.length ≤ cap ∧ xs.length ≤ 9223372036854775807 := by
  obtain ⟨vs, h1, h2, h3⟩ := h
  have := h2.slice
  rwa [h1] at this
theorem Gis.at {w : World} {B n cap : Nat} {ao : Option Addr} {xs : List (List Int)} (h : Gis w B (.slice ao n cap) xs) (k : Nat) (hk : k < xs.length) : ∃ b off rv, ao = some ⟨b, off, none⟩ ∧ b < B ∧ w.cell? ⟨b, off + k, none⟩ = some rv ∧ Its w B rv (xs.getD k []) := by
  obtain ⟨vs, h1, h2, h3⟩ := h
  obtain ⟨b, off, e1, e2, e3⟩ := h2.at k (by omega)
  exact ⟨b, off, _, e1, e2, e3, h3 k hk⟩
/-- used: pairs of the ways before the j-th, and in it those before the i-th -/
def UO (kss : List (List Nat)) (us : List Bool) (j i : Nat) : Prop := ∀ p, us.getD p false = true → p ∈ (kss.take j).flatten ∨ p ∈ (kss.getD j []).take i
theorem UO.start (kss : List (List Nat)) (m : Nat) : UO kss (List.replicate m false) 0 0 := fun p hp => by
  rw [List.getD_eq_getElem?_getD, List.getElem?_replicate] at hp
  split at hp <;> simp at hp
theorem UO.next {kss : List (List Nat)} {us : List Bool} {j i : Nat} (h : UO kss us j i) (hj : j < kss.length) : UO kss us (j + 1) 0 := fun p hp => by
  refine .inl ?_
  rw [List.take_add_one, List.flatten_append, List.mem_append]
  rcases h p hp with h | h
  · exact .inl h
  · refine .inr ?_
    rw [List.getElem?_eq_getElem hj]
    rw [List.getD_eq_getElem?_getD, List.getElem?_eq_getElem hj] at h
    simpa using List.mem_of_mem_take h
theorem UO.set {kss : List (List Nat)} {us : List Bool} {j i : Nat} (h : UO kss us j i) (hi : i < (kss.getD j []).length) : UO kss (us.set ((kss.getD j []).getD i 0) true) j (i + 1) := fun p hp => by
  by_cases e : p = (kss.getD j []).getD i 0
  · refine .inr ?_
    obtain ⟨K, hK⟩ : ∃ K, K = kss.getD j [] := ⟨_, rfl⟩
    rw [← hK] at hi e ⊢
    have e2 : K.getD i 0 = K[i] := by simp [List.getD, hi]
    rw [e, e2]
    exact List.mem_take_iff_getElem.2 ⟨i, by omega, rfl⟩
  · rw [getD_set_other _ _ _ _ _ (Ne.symm e)] at hp
    rcases h p hp with h | h
    · exact .inl h
    · refine .inr (List.mem_of_mem_take (i := i) ?_)
      rw [List.take_take, Nat.min_eq_left (by omega)]
      exact h
end Go.Proofs.Ytenilbofncfbdaa

