/- same: rows of fields that are equal. -/
import Derived.Test.YtgnpjenpehfjbaaDoorCodeRead
import Derived.Outline
namespace Go.Proofs.YtgnpjenpehfjbaaDoor
open Go.RowKit

/-- a slice that reads as fields, all of it below block B -/
def Flds (w : World) (B : Nat) (v : Value) (fs : List Fld) : Prop :=
  ∃ ao cap, v = .slice ao fs.length cap ∧ fs.length ≤ cap ∧ fs.length ≤ maxLen ∧ (fs ≠ [] → ∃ b off, ao = some ⟨b, off, none⟩ ∧ b < B ∧ ∀ i f, fs[i]? = some f →
    w.cell? ⟨b, off + i * 4, none⟩ = some (.int .i64 f.kind) ∧ w.cell? ⟨b, off + i * 4 + 1, none⟩ = some (.int .i64 f.num) ∧ w.cell? ⟨b, off + i * 4 + 2, none⟩ = some (.string ⟨f.text.toArray⟩) ∧ w.cell? ⟨b, off + i * 4 + 3, none⟩ = some (.bool f.is_))
theorem Flds.below {w w' : World} {B B' : Nat} {v : Value} {fs : List Fld} (h : Flds w B v fs) (hb : Below B w w') (hB : B ≤ B') : Flds w' B' v fs := by
  obtain ⟨ao, cap, h1, h2, h3, h4⟩ := h
  refine ⟨ao, cap, h1, h2, h3, fun hne => ?_⟩
  obtain ⟨b, off, h5, h6, h7⟩ := h4 hne
  refine ⟨b, off, h5, by omega, fun i f hf => ?_⟩
  obtain ⟨c0, c1, c2, c3⟩ := h7 i f hf
  exact ⟨(hb.cell h6).trans c0, (hb.cell h6).trans c1, (hb.cell h6).trans c2, (hb.cell h6).trans c3⟩
theorem flat_get (fs : List Fld) (i : Nat) (f : Fld) (h : fs[i]? = some f) (j : Nat) (hj : j < 4) : (fs.flatMap Fld.cells)[i * 4 + j]? = f.cells[j]? := by
  induction fs generalizing i with
  | nil => simp at h
  | cons x r ih =>
    have hx : x.cells.length = 4 := rfl
    cases i with
    | zero =>
      simp at h; subst h
      rw [List.flatMap_cons, List.getElem?_append_left (by omega)]
      congr 1; omega
    | succ i =>
      rw [List.flatMap_cons, List.getElem?_append_right (by omega), hx]
      simp at h
      rw [← ih i h]
      congr 1; omega
theorem OwnF.flds {w : World} {B : Nat} {v : Value} {fs : List Fld} (h : OwnF w B v fs) : Flds w w.heap.size v fs := by
  rcases h.2 with ⟨rfl, h0⟩ | ⟨g, cap, cur, rfl, hb, hg, hn, hcm, hcs, htake⟩
  · have : fs = [] := List.eq_nil_of_length_eq_zero h0
    subst this
    exact ⟨none, 0, rfl, by simp, by simp, fun h => absurd rfl h⟩
  · refine ⟨_, cap, rfl, hn, by omega, fun _ => ⟨g, 0, rfl, (Array.getElem?_eq_some_iff.1 hg).1, fun i f hf => ?_⟩⟩
    have key : ∀ j u, j < 4 → f.cells[j]? = some u → w.cell? ⟨g, 0 + i * 4 + j, none⟩ = some u := by
      intro j u hj hu
      rw [cell_of_row w g _ cur _ _ hg]
      have hi : i < fs.length := (List.getElem?_eq_some_iff.1 hf).1
      have h3 := flat_get fs i f hf j hj
      rw [hu, ← htake, List.getElem?_take] at h3
      rw [if_pos (by omega)] at h3
      simpa using h3
    exact ⟨key 0 _ (by decide) rfl, key 1 _ (by decide) rfl, key 2 _ (by decide) rfl, key 3 _ (by decide) rfl⟩

end Go.Proofs.YtgnpjenpehfjbaaDoor
