/- Slices of int64 that are read, or of the call's own; small laws on worlds. -/
import Derived.Test.YtghgnalbahneoaaDoorBase
import Derived.Deep.QuietTactic
import Derived.BigQuiet
import Derived.Laws.AppendOwnNone
import Derived.Outline
namespace Go.Proofs.YtghgnalbahneoaaDoor
open Go.RowKit

theorem bel_set {B b i : Nat} {v : Value} {w w' : World} (hb : B ≤ b) (h : Below B w w') : Below B w (w'.setCell ⟨b, i, none⟩ v) := h.setCell (p := ⟨b, i, none⟩) hb v
theorem bel_drew {B k : Nat} {w w' : World} (h : Below B w w') : Below B w (w'.drewN k) := h.trans (bdN _ _ _)
theorem bel_alloc {B : Nat} {o : Obj} {w w' : World} (h : Below B w w') (hb : B ≤ w'.heap.size) : Below B w (w'.alloc o) := h.alloc hb o
/-- a block that is there stays -/
theorem stays {W W' : World} {k : Nat} {o : Obj} (h : W.heap[k]? = some o) (hb : Below W.heap.size W W') : W'.heap[k]? = some o := (hb.block _ (Array.getElem?_eq_some_iff.1 h).1).trans h
theorem info_i64 : (Tryd.prog.info? 2).map (fun i => (i.zero, i.size, i.bytes)) = some (some (.int .i64 0), 1, 8) := by kernel_rfl

/-- a slice of numbers that is read -/
def Its (w : World) (B : Nat) (v : Value) (l : List Int) : Prop :=
  ∃ ao cap, v = .slice ao l.length cap ∧ l.length ≤ cap ∧ l.length ≤ 9223372036854775807 ∧ (ao = none → cap = 0) ∧ (l ≠ [] → ∃ b off, ao = some ⟨b, off, none⟩ ∧ b < B ∧ ∀ i, i < l.length → w.cell? ⟨b, off + i, none⟩ = some (.int .i64 (l.getD i 0)))
theorem Its.below {w w' : World} {B B' : Nat} {v : Value} {l : List Int} (h : Its w B v l) (hb : Below B w w') (hB : B ≤ B') : Its w' B' v l := by
  obtain ⟨ao, cap, h1, h2, h3, hn, h4⟩ := h
  refine ⟨ao, cap, h1, h2, h3, hn, fun hne => ?_⟩
  obtain ⟨b, off, h5, h6, h7⟩ := h4 hne
  exact ⟨b, off, h5, by omega, fun i hi => (hb.cell (p := ⟨b, off + i, none⟩) h6).trans (h7 i hi)⟩
theorem Its.kept {w w' : World} {v : Value} {l : List Int} (h : Its w w.heap.size v l) (hb : Below w.heap.size w w') : Its w' w'.heap.size v l := h.below hb hb.size
theorem Its.nil (w : World) (B : Nat) : Its w B (.slice none 0 0) [] := ⟨none, 0, rfl, by simp, by simp, fun _ => rfl, fun h => absurd rfl h⟩
/-- its form: empty, or with its cells -/
theorem Its.form {w : World} {B : Nat} {v : Value} {l : List Int} (h : Its w B v l) :
    (l = [] ∧ ∃ ao cap, v = .slice ao 0 cap ∧ (ao = none → cap = 0)) ∨ (0 < l.length ∧ ∃ b off cap, v = .slice (some ⟨b, off, none⟩) l.length cap ∧ l.length ≤ cap ∧ l.length ≤ 9223372036854775807 ∧ b < B ∧ ∀ i, i < l.length → w.cell? ⟨b, off + i, none⟩ = some (.int .i64 (l.getD i 0))) := by
  obtain ⟨ao, cap, rfl, h2, h3, hn, h4⟩ := h
  cases l with
  | nil => exact .inl ⟨rfl, ao, cap, rfl, hn⟩
  | cons x r =>
    obtain ⟨b, off, rfl, h6, h7⟩ := h4 (by simp)
    exact .inr ⟨by simp, b, off, cap, rfl, h2, h3, h6, h7⟩
theorem Its.slice {w : World} {B : Nat} {v : Value} {l : List Int} (h : Its w B v l) : ∃ ao cap, v = .slice ao l.length cap ∧ l.length ≤ 9223372036854775807 := by
  obtain ⟨ao, cap, rfl, _, h3, _, _⟩ := h
  exact ⟨ao, cap, rfl, h3⟩
theorem Its.lenInt {w : World} {B : Nat} {v : Value} {l : List Int} (h : Its w B v l) : l.length ≤ 9223372036854775807 := by obtain ⟨_, _, _, _, h3, _, _⟩ := h; exact h3

/-- a []int64 of the call's own -/
def OwnI (w : World) (B : Nat) (v : Value) (xs : List Int) : Prop := w.ownsRow B 2 1 v xs.length (xs.map (Value.int .i64))
theorem OwnI.nil (w : World) (B : Nat) : OwnI w B (.slice none 0 0) [] := World.ownsRow_nil _ _ _ _
theorem OwnI.below {w w' : World} {B : Nat} {v : Value} {xs : List Int} (h : OwnI w B v xs) (hb : Below w.heap.size w w') : OwnI w' B v xs := by
  obtain ⟨h1, h2⟩ := h
  refine ⟨h1, ?_⟩
  rcases h2 with h2 | ⟨g, cap, cur, hv, hB, hg, r⟩
  · exact .inl h2
  · exact .inr ⟨g, cap, cur, hv, hB, by rw [hb.block g (Array.getElem?_eq_some_iff.1 hg).1]; exact hg, r⟩
theorem OwnI.mono {w : World} {B B' : Nat} {v : Value} {xs : List Int} (h : OwnI w B v xs) (hB : B' ≤ B) : OwnI w B' v xs := by
  obtain ⟨h1, h2⟩ := h
  refine ⟨h1, ?_⟩
  rcases h2 with h2 | ⟨g, cap, cur, hv, hb, r⟩
  · exact .inl h2
  · exact .inr ⟨g, cap, cur, hv, by omega, r⟩
theorem OwnI.its {w : World} {B : Nat} {v : Value} {xs : List Int} (h : OwnI w B v xs) : Its w w.heap.size v xs := by
  rcases h.2 with ⟨hv, h0⟩ | ⟨g, cap, cur, hv, hb, hg, hn, hcm, hcs, htake⟩
  · obtain rfl := List.eq_nil_of_length_eq_zero h0
    exact ⟨none, 0, hv, by simp, by simp, fun _ => rfl, fun h => absurd rfl h⟩
  · refine ⟨_, cap, hv, hn, by unfold maxLen at hcm; omega, fun h => (by cases h), fun _ => ⟨g, 0, rfl, (Array.getElem?_eq_some_iff.1 hg).1, fun i hi => ?_⟩⟩
    rw [Nat.zero_add, cell_of_row w g i cur _ _ hg]
    have h3 : (xs.map (Value.int .i64))[i]? = some (.int .i64 (xs.getD i 0)) := by simp [List.getD, hi]
    rw [← htake, List.getElem?_take] at h3
    exact (by simpa [show i < xs.length * 1 by omega, List.getD] using h3 : i < xs.length ∧ cur[i]? = some (Value.int .i64 (xs.getD i 0))).2
/-- append(l, n) : l of the call's own -/
theorem wpList_append_i64 {w : World} {ops : Array Oper} {rest : List Oper} {o : Oper} {a : Act} {Q : Exit → Act → World → Prop} (hgd : o.guard = none) (s x : Operand)
    (ho : o.op = .call { callee := .builtin .append, args := #[s, x], argTypes := #[22, 22] })
    (base : Nat) (v : Value) (xs : List Int) (hs : a.eval s = v) (hown : OwnI w base v xs) (g : Nat) (z : Int) (hx : a.eval x = .slice (some ⟨g, 0, none⟩) 1 1) (hg : w.heap[g]? = some (.cells #[.int .i64 z] 2 (0, 0)))
    (hlen : xs.length + 1 ≤ 10000000000) (hbase : base ≤ w.heap.size)
    (h : ∀ v' w', OwnI w' base v' (xs ++ [z]) → w.grownBy w' v.ownBlock → wpList Tryd.prog ops Q rest (a.put o.dst v') w') : wpList Tryd.prog ops Q (o :: rest) a w := by
  obtain ⟨i0, hi, hz0, hz1, hz2⟩ := info_parts info_i64
  refine wpList_append_own _ hgd s x _ ho base 2 i0 (.int .i64 0) 1 8 Tryd.underlying22 hi hz0 hz1 hz2 rfl (by decide) v xs.length (xs.map (Value.int .i64)) hs hown ⟨g, 0, none⟩ 1 1 [.int .i64 z] hx (by simp) ?_
    (by intro u hu; simp at hu; subst hu; rfl) (by unfold maxLen; omega) (by omega) hbase ?_
  · intro j u hj
    have hj0 : j = 0 := by have := (List.getElem?_eq_some_iff.1 hj).1; simp at this; omega
    subst hj0
    rw [Addr.add_lit, cell_of_row w g _ _ _ _ hg]
    simpa using hj
  · intro v' w' hown' hg' _
    exact h v' w' (by unfold OwnI; simpa using hown') hg'
/-- append(s, x...) : s of the call's own, x a slice that is read -/
theorem wpList_append_its {w : World} {ops : Array Oper} {rest : List Oper} {o : Oper} {a : Act} {Q : Exit → Act → World → Prop} (hgd : o.guard = none) (s x : Operand)
    (ho : o.op = .call { callee := .builtin .append, args := #[s, x], argTypes := #[22, 22] })
    (base : Nat) (v : Value) (xs : List Int) (hs : a.eval s = v) (hown : OwnI w base v xs) (vx : Value) (l : List Int) (hx : a.eval x = vx) (hl : Its w w.heap.size vx l)
    (hlen : (xs.length + l.length) * 8 ≤ 140737488355328) (hbase : base ≤ w.heap.size)
    (h : ∀ v' w', OwnI w' base v' (xs ++ l) → w.grownBy w' v.ownBlock → wpList Tryd.prog ops Q rest (a.put o.dst v') w') : wpList Tryd.prog ops Q (o :: rest) a w := by
  obtain ⟨i0, hi, hz0, hz1, hz2⟩ := info_parts info_i64
  have main : ∀ (ad : Addr) (c : Nat), vx = .slice (some ad) l.length c → (∀ j u, (l.map (Value.int .i64))[j]? = some u → w.cell? (ad.add j) = some u) → wpList Tryd.prog ops Q (o :: rest) a w := by
    intro ad c hv hcell
    refine wpList_append_own _ hgd s x _ ho base 2 i0 (.int .i64 0) 1 8 Tryd.underlying22 hi hz0 hz1 hz2 rfl (by decide) v xs.length (xs.map (Value.int .i64)) hs hown ad l.length c (l.map (Value.int .i64)) (hx.trans hv) (by simp) hcell
      (by intro u hu; obtain ⟨c, _, rfl⟩ := List.mem_map.1 hu; rfl) (by unfold maxLen; omega) (by omega) hbase ?_
    intro v' w' hown' hg' _
    exact h v' w' (by unfold OwnI; simpa using hown') hg'
  rcases hl.form with ⟨rfl, ao, cap, rfl, hn⟩ | ⟨hpos, b, off, cap, rfl, hcap, hm, hbB, hc⟩
  · cases ao with
    | some ad => exact main ad cap rfl (by intro j u hj; simp at hj)
    | none =>
      obtain rfl := hn rfl
      refine wpList_append_own_none hgd s x _ ho base 2 i0 1 Tryd.underlying22 hi v xs.length (xs.map (Value.int .i64)) hs hown hx ?_
      exact h v w (by simpa using hown) (World.grownBy.refl _ _)
  · refine main ⟨b, off, none⟩ cap rfl ?_
    intro j u hj
    have hjl : j < l.length := by
      have := (List.getElem?_eq_some_iff.1 hj).1
      simpa using this
    rw [Addr.add_lit, hc j hjl]
    simp [hjl] at hj
    subst hj
    simp [List.getD, hjl]

end Go.Proofs.YtghgnalbahneoaaDoor
