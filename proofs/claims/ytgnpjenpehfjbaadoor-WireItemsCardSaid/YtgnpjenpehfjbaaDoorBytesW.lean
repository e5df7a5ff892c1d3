/- append of bytes where the sum may pass 2^47: the growth is a quarter there. -/
import Derived.Test.YtgnpjenpehfjbaaDoorBytes
import Derived.Deep.DeepAppendWide
namespace Go.Proofs.YtgnpjenpehfjbaaDoor
open Go.RowKit

theorem wpList_append_btsW {w : World} {ops : Array Oper} {rest : List Oper} {o : Oper} {a : Act} {Q : Exit → Act → World → Prop} (hgd : o.guard = none) (s x : Operand)
    (ho : o.op = .call { callee := .builtin .append, args := #[s, x], argTypes := #[27, 27] })
    (base : Nat) (v : Value) (xs : List UInt8) (hs : a.eval s = v) (hown : Own w base v xs)
    (vx : Value) (l : List UInt8) (B : Nat) (hx : a.eval x = vx) (hb : Bts w B vx l)
    (hlen : xs.length + l.length ≤ 200000000000000) (hbase : base ≤ w.heap.size)
    (h : ∀ v' w', Own w' base v' (xs ++ l) → w.grownBy w' v.ownBlock → (v' = .slice none 0 0 ↔ v = .slice none 0 0 ∧ l = []) → wpList Tryd.prog ops Q rest (a.put o.dst v') w') : wpList Tryd.prog ops Q (o :: rest) a w := by
  obtain ⟨i0, hi, hz0, hz1, hz2⟩ := info_parts info_u8
  have main : ∀ (ad : Addr) (c : Nat), vx = .slice (some ad) l.length c → (∀ j u, (l.map byteV)[j]? = some u → w.cell? (ad.add j) = some u) → wpList Tryd.prog ops Q (o :: rest) a w := by
    intro ad c hv hcell
    refine wpList_append_own_wide w hgd s x _ ho base 5 i0 (.int .u8 0) 1 1 Tryd.underlying27 hi hz0 hz1 hz2 rfl (by decide) v xs.length (xs.map byteV) hs hown ad l.length c (l.map byteV) (hx.trans hv) (by simp) hcell
      (bytes_oneCell l) (by unfold maxLen; omega) (by omega) hbase ?_
    intro v' w' hown' hg hnil
    refine h v' w' (by unfold Own; simpa using hown') hg ?_
    rw [hnil]
    constructor
    · rintro ⟨h1, h2⟩; exact ⟨h1, List.eq_nil_of_length_eq_zero h2⟩
    · rintro ⟨h1, rfl⟩; exact ⟨h1, rfl⟩
  rcases hb.form with ⟨rfl, ao, cap, rfl, hn⟩ | ⟨hpos, b, off, cap, rfl, hcap, hm, hbB, hc⟩
  · cases ao with
    | some ad => exact main ad cap rfl (by intro j u hj; simp at hj)
    | none =>
      obtain rfl := hn rfl
      refine wpList_append_own_none hgd s x _ ho base 5 i0 1 Tryd.underlying27 hi v xs.length (xs.map byteV) hs hown hx ?_
      exact h v w (by simpa using hown) (World.grownBy.refl _ _) ⟨fun h => ⟨h, rfl⟩, fun h => h.1⟩
  · refine main ⟨b, off, none⟩ cap rfl ?_
    intro j u hj
    have hjl : j < l.length := by
      have := (List.getElem?_eq_some_iff.1 hj).1
      simpa using this
    rw [Addr.add_lit, hc j hjl]
    simp [hjl] at hj
    subst hj
    simp [List.getD, hjl]

end Go.Proofs.YtgnpjenpehfjbaaDoor
