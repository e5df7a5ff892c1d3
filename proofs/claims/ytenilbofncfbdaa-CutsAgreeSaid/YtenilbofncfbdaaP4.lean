/- Cuts: what parts two nodes, and that with one pair of it again a way leads: plain. No program here. -/
import Derived.Test.YtenilbofncfbdaaCM
import Derived.Test.YtenilbofncfbdaaCB
set_option linter.unusedSimpArgs false
set_option linter.unusedVariables false
namespace Go.Proofs.Ytenilbofncfbdaa

/-- the pairs that leave a side -/
def cutN (L : Prs) (S : Nat → Bool) (m : Nat) : List Nat := (List.range m).filter fun k => S (endA L k) != S (endB L k)
theorem cutN_succ (L : Prs) (S : Nat → Bool) (m : Nat) : cutN L S (m + 1) = cutN L S m ++ (if S (endA L m) != S (endB L m) then [m] else []) := by
  unfold cutN
  rw [List.range_succ, List.filter_append, List.filter_cons]
  split <;> simp_all
theorem cutN_len (L : Prs) (S : Nat → Bool) : ∀ m, (cutN L S m).length = crossF (endA L) (endB L) S m := by
  intro m
  induction m with
  | zero => rfl
  | succ m ih =>
    rw [cutN_succ, List.length_append, ih, cross_succ]
    cases S (endA L m) <;> cases S (endB L m) <;> rfl
theorem mem_cutN {L : Prs} {S : Nat → Bool} {m k : Nat} : k ∈ cutN L S m ↔ k < m ∧ S (endA L k) ≠ S (endB L k) := by
  unfold cutN
  rw [List.mem_filter, List.mem_range]
  simp
theorem cutN_nodup (L : Prs) (S : Nat → Bool) (m : Nat) : (cutN L S m).Nodup := List.Nodup.sublist List.filter_sublist List.nodup_range
end Go.Proofs.Ytenilbofncfbdaa

