/- Plain law: what Salvage finds where frames stand one behind the other, behind bytes of which none could begin one. -/
import Derived.Test.YtmekpmboghmfpaaDoorSealRows
namespace Go.Proofs.YtmekpmboghmfpaaDoor

theorem salv_skip (l : List UInt8) (k m : Nat) (h : k ≤ m) (hs : m ≤ (salv l k).1) : salv l m = salv l k := by
  induction m with
  | zero => have : k = 0 := by omega
            rw [this]
  | succ m ih =>
    by_cases hk : k = m + 1
    · rw [hk]
    · have h1 := ih (by omega) (by omega)
      show salvStep l (salv l m) m = _
      rw [h1]
      unfold salvStep
      rw [if_pos (by omega)]

theorem salv_hit (l : List UInt8) (k n : Nat) (b : List UInt8) (q : Nat) (ps : List Nat) (h : salv l k = (q, ps)) (hq : q ≤ k) (hop : openF (l.drop k) = (b, n, 0)) (hn : 0 < n) :
    salv l (k + n) = (k + n, ps ++ [k]) := by
  have h1 : salv l (k + 1) = (k + n, ps ++ [k]) := by
    show salvStep l (salv l k) k = _
    rw [h]
    unfold salvStep
    rw [hop, if_neg (by simp; omega), if_neg (by simp)]
  rw [salv_skip l (k + 1) (k + n) (by omega) (by rw [h1]; exact Nat.le_refl _), h1]

theorem salv_miss (l : List UInt8) (k : Nat) (q : Nat) (ps : List Nat) (h : salv l k = (q, ps)) (hop : (openF (l.drop k)).2.2 ≠ 0) : salv l (k + 1) = (q, ps) := by
  show salvStep l (salv l k) k = _
  rw [h]
  unfold salvStep
  by_cases hk : k < q
  · rw [if_pos hk]
  · rw [if_neg hk, if_pos hop]

def okL (ls : List (List UInt8)) : List (List UInt8) := ls.filter fun l => decide (l.length ≤ 65535)
def starts : Nat → List (List UInt8) → List Nat
  | _, [] => []
  | p, x :: r => p :: starts (p + (x.length + 8)) r
theorem starts_len (p : Nat) (ls : List (List UInt8)) : (starts p ls).length = ls.length := by
  induction ls generalizing p with
  | nil => rfl
  | cons x r ih => simp [starts, ih]

theorem flat_cons (x : List UInt8) (r : List (List UInt8)) : flat (x :: r) = sealB x ++ flat r := by unfold flat; rw [List.flatMap_cons]

theorem salv_frames (ls : List (List UInt8)) : ∀ (pre : List UInt8) (q : Nat) (ps : List Nat), salv (pre ++ flat ls) pre.length = (q, ps) → q ≤ pre.length →
    (salv (pre ++ flat ls) (pre ++ flat ls).length).2 = ps ++ starts pre.length (okL ls) ∧ (starts pre.length (okL ls)).map (bodyAt (pre ++ flat ls)) = okL ls := by
  induction ls with
  | nil =>
    intro pre q ps h hq
    have e : pre ++ flat [] = pre := by unfold flat; simp
    rw [e] at h ⊢
    rw [h]
    simp [okL, starts]
  | cons x r ih =>
    intro pre q ps h hq
    by_cases hx : x.length ≤ 65535
    · have e1 : sealB x = frameOf x := by unfold sealB; rw [if_pos hx]
      have e2 : okL (x :: r) = x :: okL r := by unfold okL; rw [List.filter_cons_of_pos (by simpa using hx)]
      have e3 : pre ++ flat (x :: r) = (pre ++ frameOf x) ++ flat r := by rw [flat_cons, e1, List.append_assoc]
      have hop : openF ((pre ++ flat (x :: r)).drop pre.length) = (x, x.length + 8, 0) := by
        rw [flat_cons, e1, List.drop_left]
        exact open_frame x _ hx
      have h1 := salv_hit _ _ _ _ _ _ h hq hop (by omega)
      have hl : (pre ++ frameOf x).length = pre.length + (x.length + 8) := by rw [List.length_append, frameOf_len]
      have hb : bodyAt (pre ++ flat (x :: r)) pre.length = x := by unfold bodyAt; rw [hop]
      rw [e3] at h1
      rw [← hl] at h1
      obtain ⟨h2, h3⟩ := ih (pre ++ frameOf x) _ _ h1 (by rw [hl]; exact Nat.le_refl _)
      rw [hl] at h2 h3
      rw [e2]
      show (salv _ _).2 = ps ++ (pre.length :: starts (pre.length + (x.length + 8)) (okL r)) ∧ bodyAt _ pre.length :: (starts (pre.length + (x.length + 8)) (okL r)).map _ = _
      rw [hb, e3]
      refine ⟨by rw [h2]; simp, by rw [h3]⟩
    · have e1 : sealB x = [] := by unfold sealB; rw [if_neg hx]
      have e2 : okL (x :: r) = okL r := by unfold okL; rw [List.filter_cons_of_neg (by simpa using hx)]
      have e3 : pre ++ flat (x :: r) = pre ++ flat r := by rw [flat_cons, e1, List.nil_append]
      rw [e3] at h ⊢
      rw [e2]
      exact ih pre q ps h hq

theorem salv_clear (A rest : List UInt8) (hA : ∀ c ∈ A, c ≠ 237) (k : Nat) (hk : k ≤ A.length) : salv (A ++ rest) k = (0, []) := by
  induction k with
  | zero => rfl
  | succ k ih =>
    refine salv_miss _ _ _ _ (ih (by omega)) ?_
    have hd : (A ++ rest).drop k = A.getD k 0 :: (A ++ rest).drop (k + 1) := by
      rw [List.drop_eq_getElem_cons (by rw [List.length_append]; omega)]
      congr 1
      rw [List.getElem_append_left (by omega)]
      simp [List.getD, show k < A.length by omega]
    have hc : A.getD k 0 ≠ 237 := by
      refine hA _ ?_
      simp [List.getD, show k < A.length by omega]
    rw [hd]
    unfold openF
    rw [if_pos (by unfold badForm; exact .inl ⟨by simp, by simpa using hc⟩)]
    decide

theorem finds (A : List UInt8) (ls : List (List UInt8)) (hA : ∀ c ∈ A, c ≠ 237) :
    places (A ++ flat ls) = starts A.length (okL ls) ∧ (places (A ++ flat ls)).map (bodyAt (A ++ flat ls)) = okL ls := by
  obtain ⟨h1, h2⟩ := salv_frames ls A 0 [] (salv_clear A (flat ls) hA A.length (Nat.le_refl _)) (Nat.zero_le _)
  have h3 : places (A ++ flat ls) = starts A.length (okL ls) := by unfold places; rw [h1]; rfl
  rw [h3]
  exact ⟨rfl, h2⟩

theorem okL_take (ls : List (List UInt8)) (i : Nat) (hi : i < ls.length) (hx : (ls.getD i []).length ≤ 65535) :
    okL (ls.take (i + 1)) = okL (ls.take i) ++ [ls.getD i []] ∧ (okL (ls.take i)).length < (okL ls).length ∧ (okL ls).getD (okL (ls.take i)).length [] = ls.getD i [] := by
  have e1 : ls.take (i + 1) = ls.take i ++ [ls.getD i []] := by
    rw [List.take_add_one]; simp [List.getD, hi]
  have e2 : okL (ls.take (i + 1)) = okL (ls.take i) ++ [ls.getD i []] := by
    rw [e1]; unfold okL; rw [List.filter_append]; simp at hx ⊢; exact hx
  have e3 : okL ls = okL (ls.take i) ++ ([ls.getD i []] ++ okL (ls.drop (i + 1))) := by
    have : ls = ls.take (i + 1) ++ ls.drop (i + 1) := (List.take_append_drop _ _).symm
    rw [← List.append_assoc, ← e2]
    conv => lhs; rw [this]
    unfold okL; rw [List.filter_append]
  refine ⟨e2, ?_, ?_⟩
  · rw [e3]; simp
  · rw [e3]; simp [List.getD]

theorem okL_skip (ls : List (List UInt8)) (i : Nat) (hi : i < ls.length) (hx : ¬ (ls.getD i []).length ≤ 65535) : okL (ls.take (i + 1)) = okL (ls.take i) := by
  have e1 : ls.take (i + 1) = ls.take i ++ [ls.getD i []] := by
    rw [List.take_add_one]; simp [List.getD, hi]
  rw [e1]; unfold okL; rw [List.filter_append]
  simp at hx ⊢
  exact hx

/-- bytes that can't begin a frame -/
def no237 (l : List UInt8) : List UInt8 := l.filter fun c => !(c == 237)
theorem no237_ne (l : List UInt8) : ∀ c ∈ no237 l, c ≠ 237 := by
  intro c hc
  have := (List.mem_filter.1 hc).2
  simpa using this
theorem no237_take (l : List UInt8) (k : Nat) (h : k < l.length) : no237 (l.take (k + 1)) = if l.getD k 0 = 237 then no237 (l.take k) else no237 (l.take k) ++ [l.getD k 0] := by
  have e1 : l.take (k + 1) = l.take k ++ [l.getD k 0] := by
    rw [List.take_add_one]; simp [List.getD, h]
  rw [e1]; unfold no237; rw [List.filter_append]
  by_cases hc : l.getD k 0 = 237
  · rw [if_pos hc, hc]; simp
  · rw [if_neg hc]
    congr 1
    rw [List.filter_cons_of_pos (by simpa using hc)]; rfl
theorem no237_len (l : List UInt8) : (no237 l).length ≤ l.length := List.length_filter_le _ _

end Go.Proofs.YtmekpmboghmfpaaDoor
