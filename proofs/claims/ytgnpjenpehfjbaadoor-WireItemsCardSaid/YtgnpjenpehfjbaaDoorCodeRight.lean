/- Is a field as its kind has it: code's right, the document's right (by program: wip/tools/gen_right.py). -/
import Derived.Test.YtgnpjenpehfjbaaDoorCodeField
namespace Go.Proofs.YtgnpjenpehfjbaaDoor
open Go.RowKit

def rightB (f : Fld) : Bool :=
  if f.kind = 1 then decide (0 ≤ f.num) && f.text.isEmpty && !f.is_
  else if f.kind = 2 then f.text.isEmpty && !f.is_
  else if f.kind = 3 then f.num == 0 && !f.is_
  else if f.kind = 4 then f.num == 0 && f.text.isEmpty
  else false


set_option maxRecDepth 100000 in
set_option maxHeartbeats 4000000 in
theorem code_right (f : Fld) (w : World) : Calls Tryd.prog 50 #[f.val] w fun e w' => e = .returned (.bool (rightB f)) ∧ Below w.heap.size w w' := by
  obtain ⟨k, num, t, b⟩ := f
  unfold Fld.val
  simp only
  by_cases h1 : k = 1
  · subst h1
    by_cases hn : num < 0
    · have hr : rightB ⟨1, num, t, b⟩ = false := by simp [rightB]; omega
      have HR := Lib.hid hr
      clear hr
      go_enter Tryd.func50, Tryd.ntmps50
      go_wp2
      go_ret
      rw [HR.out]
      exact ⟨rfl, ((Below.refl _ _).alloc (Nat.le_refl _) _).alloc (by simp) _⟩
    · cases t with
      | nil =>
        cases b
        · have hr : rightB ⟨1, num, [], false⟩ = true := by simp [rightB]; omega
          have HR := Lib.hid hr
          clear hr
          go_enter Tryd.func50, Tryd.ntmps50
          go_wp2
          go_ret
          rw [HR.out]
          exact ⟨rfl, ((Below.refl _ _).alloc (Nat.le_refl _) _).alloc (by simp) _⟩
        · have hr : rightB ⟨1, num, [], true⟩ = false := by simp [rightB]
          have HR := Lib.hid hr
          clear hr
          go_enter Tryd.func50, Tryd.ntmps50
          go_wp2
          go_ret
          rw [HR.out]
          exact ⟨rfl, ((Below.refl _ _).alloc (Nat.le_refl _) _).alloc (by simp) _⟩
      | cons c r =>
        have hr : rightB ⟨1, num, (c :: r), b⟩ = false := by simp [rightB]
        have HR := Lib.hid hr
        clear hr
        go_enter Tryd.func50, Tryd.ntmps50
        go_wp2
        go_ret
        rw [HR.out]
        exact ⟨rfl, ((Below.refl _ _).alloc (Nat.le_refl _) _).alloc (by simp) _⟩
  by_cases h2 : k = 2
  · subst h2
    clear h1
    cases t with
    | nil =>
      cases b
      · have hr : rightB ⟨2, num, [], false⟩ = true := by simp [rightB]
        have HR := Lib.hid hr
        clear hr
        go_enter Tryd.func50, Tryd.ntmps50
        go_wp2
        go_ret
        rw [HR.out]
        exact ⟨rfl, ((Below.refl _ _).alloc (Nat.le_refl _) _).alloc (by simp) _⟩
      · have hr : rightB ⟨2, num, [], true⟩ = false := by simp [rightB]
        have HR := Lib.hid hr
        clear hr
        go_enter Tryd.func50, Tryd.ntmps50
        go_wp2
        go_ret
        rw [HR.out]
        exact ⟨rfl, ((Below.refl _ _).alloc (Nat.le_refl _) _).alloc (by simp) _⟩
    | cons c r =>
      have hr : rightB ⟨2, num, (c :: r), b⟩ = false := by simp [rightB]
      have HR := Lib.hid hr
      clear hr
      go_enter Tryd.func50, Tryd.ntmps50
      go_wp2
      go_ret
      rw [HR.out]
      exact ⟨rfl, ((Below.refl _ _).alloc (Nat.le_refl _) _).alloc (by simp) _⟩
  by_cases h3 : k = 3
  · subst h3
    clear h1 h2
    by_cases hn : num = 0
    · subst hn
      cases b
      · have hr : rightB ⟨3, 0, t, false⟩ = true := by simp [rightB]
        have HR := Lib.hid hr
        clear hr
        go_enter Tryd.func50, Tryd.ntmps50
        go_wp2
        go_ret
        rw [HR.out]
        exact ⟨rfl, ((Below.refl _ _).alloc (Nat.le_refl _) _).alloc (by simp) _⟩
      · have hr : rightB ⟨3, 0, t, true⟩ = false := by simp [rightB]
        have HR := Lib.hid hr
        clear hr
        go_enter Tryd.func50, Tryd.ntmps50
        go_wp2
        go_ret
        rw [HR.out]
        exact ⟨rfl, ((Below.refl _ _).alloc (Nat.le_refl _) _).alloc (by simp) _⟩
    · have hr : rightB ⟨3, num, t, b⟩ = false := by simp [rightB] ; intro h; exact absurd h hn
      have HR := Lib.hid hr
      clear hr
      have e1 : (num == 0) = false := by simpa using hn
      have e2 : ((0 : Int) == num) = false := by simpa using (fun h => hn h.symm)
      clear hn
      go_enter Tryd.func50, Tryd.ntmps50
      go_wp2
      go_ret
      rw [HR.out]
      exact ⟨rfl, ((Below.refl _ _).alloc (Nat.le_refl _) _).alloc (by simp) _⟩
  by_cases h4 : k = 4
  · subst h4
    clear h1 h2 h3
    by_cases hn : num = 0
    · subst hn
      cases t with
      | nil =>
        have hr : rightB ⟨4, 0, [], b⟩ = true := by simp [rightB]
        have HR := Lib.hid hr
        clear hr
        go_enter Tryd.func50, Tryd.ntmps50
        go_wp2
        go_ret
        rw [HR.out]
        exact ⟨rfl, ((Below.refl _ _).alloc (Nat.le_refl _) _).alloc (by simp) _⟩
      | cons c r =>
        have hr : rightB ⟨4, 0, (c :: r), b⟩ = false := by simp [rightB]
        have HR := Lib.hid hr
        clear hr
        go_enter Tryd.func50, Tryd.ntmps50
        go_wp2
        go_ret
        rw [HR.out]
        exact ⟨rfl, ((Below.refl _ _).alloc (Nat.le_refl _) _).alloc (by simp) _⟩
    · have hr : rightB ⟨4, num, t, b⟩ = false := by simp [rightB] ; intro h; exact absurd h hn
      have HR := Lib.hid hr
      clear hr
      have e1 : (num == 0) = false := by simpa using hn
      have e2 : ((0 : Int) == num) = false := by simpa using (fun h => hn h.symm)
      clear hn
      go_enter Tryd.func50, Tryd.ntmps50
      go_wp2
      go_ret
      rw [HR.out]
      exact ⟨rfl, ((Below.refl _ _).alloc (Nat.le_refl _) _).alloc (by simp) _⟩
  have hr : rightB ⟨k, num, t, b⟩ = false := by simp [rightB, h1, h2, h3, h4]
  have HR := Lib.hid hr
  have e1 : (k == 1) = false := by simpa using h1
  have e2 : (k == 2) = false := by simpa using h2
  have e3 : (k == 3) = false := by simpa using h3
  have e4 : (k == 4) = false := by simpa using h4
  clear hr h1 h2 h3 h4
  go_enter Tryd.func50, Tryd.ntmps50
  go_wp2
  go_ret
  rw [HR.out]
  exact ⟨rfl, ((Below.refl _ _).alloc (Nat.le_refl _) _).alloc (by simp) _⟩

end Go.Proofs.YtgnpjenpehfjbaaDoor
