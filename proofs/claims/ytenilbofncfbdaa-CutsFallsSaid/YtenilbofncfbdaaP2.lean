/- Cuts: what the ways keep to: plain. No program here.
Cuts: the law's place: walked.
Cuts: rows of rows, read; which pairs the ways have used (plain). -/
import Derived.Test.YtenilbofncfbdaaCG
import Derived.Test.YtenilbofncfbdaaCK
import Derived.Test.YtenilbofncfbdaaCH
set_option linter.unusedSimpArgs false
set_option linter.unusedVariables false
namespace Go.Proofs.Ytenilbofncfbdaa

/-- one way and the pairs it goes over -/
structure WayD (L : Prs) (n a b : Nat) (w ks : List Nat) : Prop where
  nod : w.Nodup
  lt : ∀ x ∈ w, x < n
  hd : w.head? = some a
  last : w.getLast? = some b
  chn : Chn L w ks
  kl : ∀ k ∈ ks, k < L.length
/-- ways that have no pair in common -/
structure WaysD (L : Prs) (n a b : Nat) (ws kss : List (List Nat)) : Prop where
  len : kss.length = ws.length
  nod : kss.flatten.Nodup
  each : ∀ j, j < ws.length → WayD L n a b (ws.getD j []) (kss.getD j [])
theorem getD_app {α : Type} (l r : List α) (d : α) (j : Nat) : (l ++ r).getD j d = if j < l.length then l.getD j d else r.getD (j - l.length) d := by
  simp only [List.getD_eq_getElem?_getD]
  split
  · rename_i h; rw [List.getElem?_append_left h]
  · rename_i h; rw [List.getElem?_append_right (by omega)]
theorem WaysD.nil (L : Prs) (n a b : Nat) : WaysD L n a b [] [] := ⟨rfl, by simp, fun j hj => by cases hj⟩
theorem WaysD.add {L : Prs} {n a b : Nat} {ws kss : List (List Nat)} (h : WaysD L n a b ws kss) {w ks : List Nat} (hw : WayD L n a b w ks) (hk : ks.Nodup) (hd : ∀ k ∈ kss.flatten, k ∉ ks) : WaysD L n a b (ws ++ [w]) (kss ++ [ks]) := by
  refine ⟨by simp [h.len], ?_, fun j hj => ?_⟩
  · rw [List.flatten_append, List.nodup_append]
    refine ⟨h.nod, by simpa using hk, fun x hx y hy => ?_⟩
    rintro rfl
    exact hd x hx (by simpa using hy)
  · rw [List.length_append] at hj
    rw [getD_app, getD_app, h.len]
    by_cases e : j < ws.length
    · rw [if_pos e, if_pos e]; exact h.each j e
    · have : j = ws.length := by simp at hj; omega
      subst this
      rw [if_neg (by omega), if_neg (by omega)]
      simpa using hw
end Go.Proofs.Ytenilbofncfbdaa

namespace Go.Proofs.Ytenilbofncfbdaa
open Go.RowKit

end Go.Proofs.Ytenilbofncfbdaa

namespace Go.Proofs.Ytenilbofncfbdaa
open Go.RowKit

theorem owns_cel {w : World} {B : Nat} {e : TypeId} {v : Value} {vs : List Value} {n : Nat} (hn0 : vs.length = n) (h : w.ownsRow B e 1 v n vs) : Cel w w.heap.size v vs := by
  rcases h.2 with ⟨rfl, h0⟩ | ⟨g, cap, cur, rfl, hb, hg, hn, hcm, hcs, htake⟩
  · have : vs = [] := List.eq_nil_of_length_eq_zero (by omega)
    subst this
    exact Cel.nil _ _
  · subst hn0
    refine ⟨_, cap, by simp, by simpa using hn, by omega, (fun h => by cases h), fun _ => ⟨g, 0, rfl, (Array.getElem?_eq_some_iff.1 hg).1, fun i hi => ?_⟩⟩
    rw [Nat.zero_add, cell_of_row w g i cur _ _ hg]
    obtain ⟨x, hx⟩ : ∃ x, x = vs.getD i undef := ⟨_, rfl⟩
    have h3 : vs[i]? = some x := by rw [hx]; simp [List.getD, hi]
    rw [← hx]
    rw [← htake, List.getElem?_take, if_pos (by omega)] at h3
    simpa using h3
/-- a slice that reads as rows of numbers -/
def Gis (w : World) (B : Nat) (v : Value) (xs : List (List Int)) : Prop := ∃ vs : List Value, vs.length = xs.length ∧ Cel w B v vs ∧ ∀ i, i < xs.length → Its w B (vs.getD i undef) (xs.getD i [])
theorem OwnG.gis {w : World} {B : Nat} {v : Value} {xs : List (List Int)} (h : OwnG w B v xs) : Gis w w.heap.size v xs := by
  obtain ⟨vs, h1, h2, h3⟩ := h
  exact ⟨vs, h1, owns_cel h1 h2, fun i hi => (h3 i hi).cel⟩
theorem Gis.below {w w' : World} {B B' : Nat} {v : Value} {xs : List (List Int)} (h : Gis w B v xs) (hb : Below B w w') (hB : B ≤ B') : Gis w' B' v xs := by
  obtain ⟨vs, h1, h2, h3⟩ := h
  exact ⟨vs, h1, h2.below hb hB, fun i hi => (h3 i hi).below hb hB⟩
theorem Gis.slice {w : World} {B : Nat} {v : Value} {xs : List (List Int)} (h : Gis w B v xs) : ∃ ao cap, v = .slice ao xs.length cap ∧ xs.length ≤ cap ∧ xs.length ≤ 9223372036854775807 := by
  obtain ⟨vs, h1, h2, h3⟩ := h
  have := h2.slice
  rwa [h1] at this
theorem Gis.at {w : World} {B n cap : Nat} {ao : Option Addr} {xs : List (List Int)} (h : Gis w B (.slice ao n cap) xs) (k : Nat) (hk : k < xs.length) : ∃ b off rv, ao = some ⟨b, off, none⟩ ∧ b < B ∧ w.cell? ⟨b, off + k, none⟩ = some rv ∧ Its w B rv (xs.getD k []) := by
  obtain ⟨vs, h1, h2, h3⟩ := h
  obtain ⟨b, off, e1, e2, e3⟩ := h2.at k (by omega)
  exact ⟨b, off, _, e1, e2, e3, h3 k hk⟩
/-- used: pairs of the ways before the j-th, and in it those before the i-th -/
def UO (kss : List (List Nat)) (us : List Bool) (j i : Nat) : Prop := ∀ p, us.getD p false = true → p ∈ (kss.take j).flatten ∨ p ∈ (kss.getD j []).take i
theorem UO.start (kss : List (List Nat)) (m : Nat) : UO kss (List.replicate m false) 0 0 := fun p hp => by
  rw [List.getD_eq_getElem?_getD, List.getElem?_replicate] at hp
  split at hp <;> simp at hp
theorem UO.next {kss : List (List Nat)} {us : List Bool} {j i : Nat} (h : UO kss us j i) (hj : j < kss.length) : UO kss us (j + 1) 0 := fun p hp => by
  refine .inl ?_
  rw [List.take_add_one, List.flatten_append, List.mem_append]
  rcases h p hp with h | h
  · exact .inl h
  · refine .inr ?_
    rw [List.getElem?_eq_getElem hj]
    rw [List.getD_eq_getElem?_getD, List.getElem?_eq_getElem hj] at h
    simpa using List.mem_of_mem_take h
theorem UO.set {kss : List (List Nat)} {us : List Bool} {j i : Nat} (h : UO kss us j i) (hi : i < (kss.getD j []).length) : UO kss (us.set ((kss.getD j []).getD i 0) true) j (i + 1) := fun p hp => by
  by_cases e : p = (kss.getD j []).getD i 0
  · refine .inr ?_
    obtain ⟨K, hK⟩ : ∃ K, K = kss.getD j [] := ⟨_, rfl⟩
    rw [← hK] at hi e ⊢
    have e2 : K.getD i 0 = K[i] := by simp [List.getD, hi]
    rw [e, e2]
    exact List.mem_take_iff_getElem.2 ⟨i, by omega, rfl⟩
  · rw [getD_set_other _ _ _ _ _ (Ne.symm e)] at hp
    rcases h p hp with h | h
    · exact .inl h
    · refine .inr (List.mem_of_mem_take (i := i) ?_)
      rw [List.take_take, Nat.min_eq_left (by omega)]
      exact h
end Go.Proofs.Ytenilbofncfbdaa

