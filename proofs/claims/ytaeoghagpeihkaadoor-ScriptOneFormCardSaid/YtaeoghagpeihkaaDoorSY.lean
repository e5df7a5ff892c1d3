/- Scripts, plain: what is read is within the limits of the walks. -/
import Derived.Test.YtaeoghagpeihkaaDoorSO
set_option linter.unusedSimpArgs false
set_option linter.unusedVariables false
namespace Go.Proofs.YtaeoghagpeihkaaDoor

theorem putF_name {c : UInt8} {t : Tok} {s s' : Stp} {N : Nat} (h : putF c t s = some s') (ht : t.t.length ≤ N) (hs : s.name.length ≤ N) : s'.name.length ≤ N := by
  unfold putF at h
  split at h
  · split at h
    · injection h with h; subst h; exact ht
    · cases h
  · split at h
    · cases h
    · split at h
      · cases h
      · split at h
        · cases h
        · split at h
          · injection h with h; subst h; exact hs
          · split at h
            · injection h with h; subst h; exact hs
            · split at h
              · injection h with h; subst h; exact hs
              · injection h with h; subst h; exact hs
theorem argsF_name {N : Nat} : ∀ (cs : List UInt8) (ts : List Tok) (s s' : Stp), (∀ t ∈ ts, t.t.length ≤ N) → s.name.length ≤ N → argsF cs ts s = some s' → s'.name.length ≤ N := by
  intro cs
  induction cs with
  | nil => intro ts s s' _ hs h; unfold argsF at h; injection h with h; subst h; exact hs
  | cons c cs ih =>
    intro ts s s' ht hs h
    cases ts with
    | nil => unfold argsF at h; injection h with h; subst h; exact hs
    | cons t ts =>
      unfold argsF at h
      split at h
      · cases h
      · rename_i s1 h1
        exact ih ts s1 s' (fun x hx => ht x (List.mem_cons_of_mem _ hx)) (putF_name h1 (ht t List.mem_cons_self) hs) h
theorem stepF_name {N : Nat} {l : List Tok} (h : ∀ t ∈ l, t.t.length ≤ N) : (stepF l).1.name.length ≤ N := by
  cases l with
  | nil => exact Nat.zero_le _
  | cons w args =>
    unfold stepF
    simp only
    split
    · exact Nat.zero_le _
    · split
      · exact Nat.zero_le _
      · split
        · exact Nat.zero_le _
        · rename_i s hs
          exact argsF_name _ _ _ _ (fun t ht => h t (List.mem_cons_of_mem _ ht)) (Nat.zero_le _) hs
theorem parseA_name {N : Nat} : ∀ (f : Nat) (text : List UInt8) (line : Nat) (out : List Stp), text.length ≤ N → (∀ s ∈ out, s.name.length ≤ N) → ∀ s ∈ (parseA f text line out).1, s.name.length ≤ N := by
  intro f
  induction f with
  | zero => intro text line out _ ho; exact ho
  | succ f ih =>
    intro text line out hl ho
    cases text with
    | nil => exact ho
    | cons c r =>
      have hrest : (((c :: r).dropWhile fun x => x != 10).drop 1).length ≤ N := by
        have h1 := drop_while_len (p := fun x => x != 10) (c :: r)
        rw [List.length_drop]
        omega
      have hline : ((c :: r).takeWhile fun x => x != 10).length ≤ N := Nat.le_trans (List.takeWhile_sublist _).length_le hl
      rw [parseA]
      split
      · intro s hs; cases hs
      · exact ih _ _ _ hrest ho
      · rename_i w ts hc
        split
        · intro s hs; cases hs
        · split
          · intro s hs; cases hs
          · refine ih _ _ _ hrest fun s hs => ?_
            rcases List.mem_append.1 hs with hs | hs
            · exact ho s hs
            · rw [List.mem_singleton] at hs
              subst hs
              exact stepF_name fun t ht => Nat.le_trans ((cutL_small hc).2 t ht) hline
theorem parseF_sms {text : List UInt8} (h : (parseF text).2.2 = 0) : SmS (parseF text).1 ∧ (parseF text).1.length ≤ 65536 ∧ ∀ s ∈ (parseF text).1, okS s := by
  have h1 := (parseF_ok text).1 h
  refine ⟨⟨by omega, fun s hs => ⟨(h1.1 s hs).2, ?_⟩⟩, h1.2, fun s hs => (h1.1 s hs).1⟩
  unfold parseF at h hs
  split at h
  · cases h
  · rename_i hn
    rw [if_neg hn] at hs
    exact parseA_name _ _ _ _ (by omega) (fun s hs => by cases hs) s hs

end Go.Proofs.YtaeoghagpeihkaaDoor

