/- Cuts: bridges and flows of one, blocks and flows of two and more: plain. No program here. -/
import Derived.Test.YtenilbofncfbdaaP4
import Derived.Test.YtenilbofncfbdaaCJ
set_option linter.unusedSimpArgs false
set_option linter.unusedVariables false
namespace Go.Proofs.Ytenilbofncfbdaa

theorem ends_edge {L : Prs} {k : Nat} (hk : k < L.length) : Edge L k (endA L k) (endB L k) := ⟨hk, .inl ⟨rfl, rfl⟩⟩
/-- a pair that is no bridge: a way goes round it -/
theorem not_bridge {L : Prs} {k : Nat} (hk : k < L.length) (h : ¬ Bridge L k) : Way L (· ≠ k) All (endA L k) (endB L k) := by
  refine Classical.byContradiction fun c => h ?_
  exact bridge_of (ends_edge hk) c
theorem br_iff {L : Prs} {n k : Nat} (hf : FitL n L) (hk : k < L.length) : brI L n k = true ↔ Bridge L k := (search_ok hf).2.2.1 k hk
theorem way_split {L : Prs} {E : Nat → Prop} {k a x : Nat} (h : Way L E All a x) : Way L (fun j => E j ∧ j ≠ k) All a x ∨ ∃ u v, Edge L k u v ∧ Way L (fun j => E j ∧ j ≠ k) All a u ∧ Way L (fun j => E j ∧ j ≠ k) All v x := by
  induction h with
  | nil _ => exact .inl (.nil trivial)
  | @step y z e h1 he hE _ ih =>
    rcases ih with ih | ⟨u, v, h2, h3, h4⟩
    · by_cases c : e = k
      · subst c; exact .inr ⟨y, z, he, ih, .nil trivial⟩
      · exact .inl (.step ih he ⟨hE, c⟩ trivial)
    · by_cases c : e = k
      · subst c
        rcases he.2 with ⟨x1, x2⟩ | ⟨x1, x2⟩ <;> rcases h2.2 with ⟨y1, y2⟩ | ⟨y1, y2⟩
        · obtain rfl : z = v := by omega
          exact .inr ⟨u, z, h2, h3, .nil trivial⟩
        · obtain rfl : z = u := by omega
          exact .inl h3
        · obtain rfl : z = u := by omega
          exact .inl h3
        · obtain rfl : z = v := by omega
          exact .inr ⟨u, z, h2, h3, .nil trivial⟩
      · exact .inr ⟨u, v, h2, h3, .step h4 he ⟨hE, c⟩ trivial⟩
theorem mem_pickN {L : Prs} {P : Nat → Bool} {p : Nat × Nat} : ∀ m, p ∈ pickN L P m ↔ ∃ k, k < m ∧ P k = true ∧ p = (endA L k, endB L k) := by
  intro m
  induction m with
  | zero => simp [pickN]
  | succ m ih =>
    unfold pickN
    rw [List.mem_append, ih]
    constructor
    · rintro (⟨k, h1, h2, h3⟩ | h)
      · exact ⟨k, by omega, h2, h3⟩
      · split at h
        · rename_i hP; exact ⟨m, by omega, hP, by simpa using h⟩
        · cases h
    · rintro ⟨k, h1, h2, h3⟩
      by_cases e : k = m
      · subst e; rw [if_pos h2]; exact .inr (by simp [h3])
      · exact .inl ⟨k, by omega, h2, h3⟩
theorem edge_mem {L : Prs} {u v : Nat} : (∃ k, Edge L k u v) ↔ (u, v) ∈ L ∨ (v, u) ∈ L := by
  constructor
  · rintro ⟨k, hk, ⟨e1, e2⟩ | ⟨e1, e2⟩⟩
    · exact .inl (List.mem_of_getElem? (get_ends.2 ⟨hk, e1, e2⟩))
    · exact .inr (List.mem_of_getElem? (get_ends.2 ⟨hk, e1, e2⟩))
  · rintro (h | h)
    · obtain ⟨k, hk⟩ := List.getElem?_of_mem h
      obtain ⟨x1, x2, x3⟩ := get_ends.1 hk
      exact ⟨k, x1, .inl ⟨x2, x3⟩⟩
    · obtain ⟨k, hk⟩ := List.getElem?_of_mem h
      obtain ⟨x1, x2, x3⟩ := get_ends.1 hk
      exact ⟨k, x1, .inr ⟨x2, x3⟩⟩
theorem pick_edge {L : Prs} {P : Nat → Bool} {u v : Nat} : (∃ i, Edge (pickN L P L.length) i u v) ↔ ∃ k, Edge L k u v ∧ P k = true := by
  rw [edge_mem, mem_pickN, mem_pickN]
  constructor
  · rintro (⟨k, h1, h2, h3⟩ | ⟨k, h1, h2, h3⟩)
    · injection h3 with e1 e2; exact ⟨k, ⟨h1, .inl ⟨e1.symm, e2.symm⟩⟩, h2⟩
    · injection h3 with e1 e2; exact ⟨k, ⟨h1, .inr ⟨e1.symm, e2.symm⟩⟩, h2⟩
  · rintro ⟨k, ⟨h1, ⟨e1, e2⟩ | ⟨e1, e2⟩⟩, h2⟩
    · exact .inl ⟨k, h1, h2, by rw [e1, e2]⟩
    · exact .inr ⟨k, h1, h2, by rw [e1, e2]⟩
theorem pick_way {L : Prs} {P : Nat → Bool} {a b : Nat} : Way (pickN L P L.length) All All a b ↔ Way L (fun k => P k = true) All a b := by
  constructor
  · intro h
    induction h with
    | nil _ => exact .nil trivial
    | step _ he _ _ ih =>
      obtain ⟨k, h1, h2⟩ := pick_edge.1 ⟨_, he⟩
      exact .step ih h1 h2 trivial
  · intro h
    induction h with
    | nil _ => exact .nil trivial
    | step _ he hk _ ih =>
      obtain ⟨i, hi⟩ := pick_edge.2 ⟨_, he, hk⟩
      exact .step ih hi trivial trivial
theorem far_way {R : Prs} {n v : Nat} {d : List Int} (hf : FitL n R) (hv : v < n) (h : DistOk R n v d) {u : Nat} (hu : u < n) : 0 ≤ d.getD u 0 ↔ Way R All All v u := by
  constructor
  · have key : ∀ (m u : Nat), u < n → d.getD u 0 = (m : Int) → Way R All All v u := by
      intro m
      induction m with
      | zero =>
        intro u hu h0
        have := (h.zero u hu).1 h0
        subst this
        exact .nil trivial
      | succ m ih =>
        intro u hu h0
        obtain ⟨k, x, h1, h2⟩ := h.by_ u hu (by omega)
        exact .step (ih x (edge_lt hf h1).1 (by omega)) h1 trivial trivial
    intro h0
    exact key (d.getD u 0).toNat u hu (by omega)
  · intro hw
    exact hw.inside (fun x => 0 ≤ d.getD x 0) (by have := (h.zero v hv).2 rfl; omega) (fun k x y he _ hx _ => (h.edge y x k he.symm hx).1)
end Go.Proofs.Ytenilbofncfbdaa

