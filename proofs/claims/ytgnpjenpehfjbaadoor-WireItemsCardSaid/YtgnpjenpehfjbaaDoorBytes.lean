/- Slices of bytes that a call makes itself, by this seat's own types. -/
import Derived.Test.YtgnpjenpehfjbaaDoorBase
import Derived.Laws.AppendOwnNone
namespace Go.Proofs.YtgnpjenpehfjbaaDoor
open Go.RowKit

theorem info_u8 : (Tryd.prog.info? 5).map (fun i => (i.zero, i.size, i.bytes)) = some (some (.int .u8 0), 1, 1) := by kernel_rfl

/-- v is a slice of the call's own (blocks from B on) that holds the bytes l. -/
def Own (w : World) (B : Nat) (v : Value) (l : List UInt8) : Prop := w.ownsRow B 5 1 v l.length (l.map byteV)

theorem Own.bts {w : World} {B : Nat} {v : Value} {l : List UInt8} (h : Own w B v l) : Bts w w.heap.size v l := by
  obtain ⟨h1, h2⟩ := h
  rcases h2 with ⟨rfl, h0⟩ | ⟨g, cap, cur, rfl, hb, hg, hn, hcm, hcs, htake⟩
  · obtain rfl := List.eq_nil_of_length_eq_zero h0
    exact Bts.nil _ _
  · refine ⟨_, _, rfl, hn, by omega, fun h => by (cases h), fun _ => ⟨g, 0, rfl, (Array.getElem?_eq_some_iff.1 hg).1, fun i hi => ?_⟩⟩
    rw [Nat.zero_add, cell_of_row w g i cur _ _ hg]
    have h3 : (l.map byteV)[i]? = some (.int .u8 ((l.getD i 0).toNat : Int)) := by simp [List.getD, hi, byteV]
    rw [← htake, List.getElem?_take] at h3
    simpa [hi] using h3

theorem Own.nil (w : World) (B : Nat) : Own w B (.slice none 0 0) [] := World.ownsRow_nil _ _ _ _
theorem Own.mono {w : World} {B B' : Nat} {v : Value} {l : List UInt8} (h : Own w B v l) (hB : B' ≤ B) : Own w B' v l := by
  obtain ⟨h1, h2⟩ := h
  refine ⟨h1, ?_⟩
  rcases h2 with h2 | ⟨g, cap, cur, hv, hb, r⟩
  · exact .inl h2
  · exact .inr ⟨g, cap, cur, hv, by omega, r⟩
/-- what is owned stays so while other blocks turn -/
theorem Own.kept {w w' : World} {B : Nat} {v : Value} {l : List UInt8} {row : Option Nat} (h : Own w B v l) (hg : w.grownBy w' row) (hne : v.ownBlock = none ∨ v.ownBlock ≠ row) : Own w' B v l := World.ownsRow.kept h hg hne
theorem Own.lt {w : World} {B : Nat} {v : Value} {l : List UInt8} (h : Own w B v l) : ∀ k, v.ownBlock = some k → B ≤ k ∧ k < w.heap.size := World.ownsRow.lt h
/-- what is owned stays so while nothing that there is turns -/
theorem Own.below {w w' : World} {B : Nat} {v : Value} {l : List UInt8} (h : Own w B v l) (hb : Below w.heap.size w w') : Own w' B v l := by
  obtain ⟨h1, h2⟩ := h
  refine ⟨h1, ?_⟩
  rcases h2 with h2 | ⟨g, cap, cur, hv, hB, hg, r⟩
  · exact .inl h2
  · exact .inr ⟨g, cap, cur, hv, hB, by rw [hb.block g (Array.getElem?_eq_some_iff.1 hg).1]; exact hg, r⟩

theorem bytes_oneCell (l : List UInt8) : ∀ u ∈ l.map byteV, u.oneCell' = true := by
  intro u hu
  obtain ⟨c, _, rfl⟩ := List.mem_map.1 hu
  rfl

/-- append(s, x...) : s of the call's own, x whatever reads as bytes -/
theorem wpList_append_bts {w : World} {ops : Array Oper} {rest : List Oper} {o : Oper} {a : Act} {Q : Exit → Act → World → Prop} (hgd : o.guard = none) (s x : Operand)
    (ho : o.op = .call { callee := .builtin .append, args := #[s, x], argTypes := #[27, 27] })
    (base : Nat) (v : Value) (xs : List UInt8) (hs : a.eval s = v) (hown : Own w base v xs)
    (vx : Value) (l : List UInt8) (B : Nat) (hx : a.eval x = vx) (hb : Bts w B vx l)
    (hlen : xs.length + l.length ≤ 140737488355328) (hbase : base ≤ w.heap.size)
    (h : ∀ v' w', Own w' base v' (xs ++ l) → w.grownBy w' v.ownBlock → (v' = .slice none 0 0 ↔ v = .slice none 0 0 ∧ l = []) → wpList Tryd.prog ops Q rest (a.put o.dst v') w') : wpList Tryd.prog ops Q (o :: rest) a w := by
  obtain ⟨i0, hi, hz0, hz1, hz2⟩ := info_parts info_u8
  have main : ∀ (ad : Addr) (c : Nat), vx = .slice (some ad) l.length c → (∀ j u, (l.map byteV)[j]? = some u → w.cell? (ad.add j) = some u) → wpList Tryd.prog ops Q (o :: rest) a w := by
    intro ad c hv hcell
    refine wpList_append_own _ hgd s x _ ho base 5 i0 (.int .u8 0) 1 1 Tryd.underlying27 hi hz0 hz1 hz2 rfl (by decide) v xs.length (xs.map byteV) hs hown ad l.length c (l.map byteV) (hx.trans hv) (by simp) hcell
      (bytes_oneCell l) (by unfold maxLen; omega) (by omega) hbase ?_
    intro v' w' hown' hg hnil
    refine h v' w' (by unfold Own; simpa using hown') hg ?_
    rw [hnil]
    constructor
    · rintro ⟨h1, h2⟩; exact ⟨h1, List.eq_nil_of_length_eq_zero h2⟩
    · rintro ⟨h1, rfl⟩; exact ⟨h1, rfl⟩
  rcases hb.form with ⟨rfl, ao, cap, rfl, hn⟩ | ⟨hpos, b, off, cap, rfl, hcap, hm, hbB, hc⟩
  · cases ao with
    | some ad => exact main ad cap rfl (by intro j u hj; simp at hj)
    | none =>
      obtain rfl := hn rfl
      refine wpList_append_own_none hgd s x _ ho base 5 i0 1 Tryd.underlying27 hi v xs.length (xs.map byteV) hs hown hx ?_
      exact h v w (by simpa using hown) (World.grownBy.refl _ _) ⟨fun h => ⟨h, rfl⟩, fun h => h.1⟩
  · refine main ⟨b, off, none⟩ cap rfl ?_
    intro j u hj
    have hjl : j < l.length := by
      have := (List.getElem?_eq_some_iff.1 hj).1
      simpa using this
    rw [Addr.add_lit, hc j hjl]
    simp [hjl] at hj
    subst hj
    simp [List.getD, hjl]

theorem bts_cells {w : World} {b off : Nat} {l : List UInt8} (hc : ∀ i, i < l.length → w.cell? ⟨b, off + i, none⟩ = some (.int .u8 ((l.getD i 0).toNat : Int))) :
    ∀ j u, (l.map byteV)[j]? = some u → w.cell? ((⟨b, off, none⟩ : Addr).add j) = some u := by
  intro j u hj
  have hjl : j < l.length := by
    have := (List.getElem?_eq_some_iff.1 hj).1
    simpa using this
  rw [Addr.add_lit, hc j hjl]
  simp [hjl] at hj
  subst hj
  simp [List.getD, hjl]

/-- append(s, x...) : s whatever reads as bytes and has no room for x -/
theorem wpList_append_bts_grows {w : World} {ops : Array Oper} {rest : List Oper} {o : Oper} {a : Act} {Q : Exit → Act → World → Prop} (hgd : o.guard = none) (s x : Operand)
    (ho : o.op = .call { callee := .builtin .append, args := #[s, x], argTypes := #[27, 27] })
    (ao : Option Addr) (n cap : Nat) (xs : List UInt8) (B : Nat) (hs : a.eval s = .slice ao n cap) (hbs : Bts w B (.slice ao n cap) xs)
    (vx : Value) (l : List UInt8) (B' : Nat) (hx : a.eval x = vx) (hb : Bts w B' vx l) (hne : 0 < l.length) (hfull : cap < xs.length + l.length)
    (hlen : xs.length + l.length ≤ 140737488355328)
    (h : ∀ v' w', Own w' w.heap.size v' (xs ++ l) → w.grownBy w' none → wpList Tryd.prog ops Q rest (a.put o.dst v') w') : wpList Tryd.prog ops Q (o :: rest) a w := by
  obtain ⟨i0, hi, hz0, hz1, hz2⟩ := info_parts info_u8
  obtain ⟨rfl, hnone, hold⟩ : n = xs.length ∧ (ao = none → xs.length = 0 ∧ cap = 0) ∧ ∀ b, ao = some b → ∀ j u, (xs.map byteV)[j]? = some u → w.cell? (b.add j) = some u := by
    obtain ⟨ao', cap', he, hc, hm, hn, hl⟩ := hbs
    cases he
    refine ⟨rfl, fun h0 => ⟨by have := hn h0; omega, hn h0⟩, fun b hb0 => ?_⟩
    by_cases hx0 : xs = []
    · subst hx0; intro j u hj; simp at hj
    · obtain ⟨b', off, rfl, _, hcell⟩ := hl hx0
      cases hb0
      exact bts_cells hcell
  rcases hb.form with ⟨rfl, _⟩ | ⟨hpos, b, off, capx, rfl, hcapx, hm, hbB, hc⟩
  · simp at hne
  · refine wpList_append_grows _ hgd s x _ ho 5 i0 (.int .u8 0) 1 1 Tryd.underlying27 hi hz0 hz1 hz2 rfl (by decide) ao xs.length cap (xs.map byteV) hs hnone (by simp) hold ⟨b, off, none⟩ l.length capx (l.map byteV) hx (by simp) (bts_cells hc)
      (bytes_oneCell l) hfull (by unfold maxLen; omega) (by omega) ?_
    intro v' w' hown' hg
    exact h v' w' (by unfold Own; simpa using hown') hg

/-- a literal of bytes, just laid: block g -/
theorem Bts.lit (w : World) (g : Nat) (cur : Array Value) (e : TypeId) (fr : Nat × Nat) (l : List UInt8) (n cap : Nat) (hg : w.heap[g]? = some (.cells cur e fr)) (hn : l.length = n) (hcap : n ≤ cap) (hm : n ≤ maxLen)
    (hcur : ∀ i, i < n → cur[i]? = some (.int .u8 ((l.getD i 0).toNat : Int))) : Bts w w.heap.size (.slice (some ⟨g, 0, none⟩) n cap) l := by
  subst hn
  refine ⟨_, _, rfl, hcap, hm, fun h => by (cases h), fun _ => ⟨g, 0, rfl, (Array.getElem?_eq_some_iff.1 hg).1, fun i hi => ?_⟩⟩
  rw [Nat.zero_add, cell_of_row w g i cur _ _ hg]
  exact hcur i hi

theorem sizeOf_u8 : ∀ W, (sizeOf 5).run Tryd.prog W = .ok 1 W := fun _ => by kernel_rfl
theorem elem_u8 : Tryd.prog.elem 27 = 5 := by kernel_rfl
theorem Bts.cutB {w : World} {B : Nat} {v : Value} {l : List UInt8} (h : Bts w B v l) (lo hi : Nat) (h1 : lo ≤ hi) (h2 : hi ≤ l.length) : ∃ v', Bts w B v' ((l.take hi).drop lo) ∧
      (∀ (W : World) (kl kh : IntKind), (Instr.slice 27 v (some (.int kl (lo : Int))) (some (.int kh (hi : Int))) none).run Tryd.prog W = .ok v' W) :=
  h.cut 27 5 Tryd.underlying27 elem_u8 sizeOf_u8 lo hi h1 h2
theorem Bts.fromB {w : World} {B : Nat} {v : Value} {l : List UInt8} (h : Bts w B v l) (lo : Nat) (h1 : lo ≤ l.length) : ∃ v', Bts w B v' (l.drop lo) ∧
      (∀ (W : World) (kl : IntKind), (Instr.slice 27 v (some (.int kl (lo : Int))) none none).run Tryd.prog W = .ok v' W) := by
  obtain ⟨v', hb', hrun⟩ := h.cutB lo l.length h1 (Nat.le_refl _)
  refine ⟨v', by simpa using hb', fun W kl => ?_⟩
  obtain ⟨ao, cap, rfl, hc, _⟩ := id h
  have h2 := hrun W kl kl
  rw [run_slice_lh W 27 ao l.length cap (by rw [elem_u8]; exact Tryd.underlying27) kl kl lo l.length (by omega) (by omega) (by omega)] at h2
  rw [run_slice_l W 27 ao l.length cap (by rw [elem_u8]; exact Tryd.underlying27) kl lo (by omega) (by omega)]
  simpa using h2
theorem Bts.toB {w : World} {B : Nat} {v : Value} {l : List UInt8} (h : Bts w B v l) (hi : Nat) (h1 : hi ≤ l.length) : ∃ v', Bts w B v' (l.take hi) ∧
      (∀ (W : World) (kh : IntKind), (Instr.slice 27 v none (some (.int kh (hi : Int))) none).run Tryd.prog W = .ok v' W) := by
  obtain ⟨v', hb', hrun⟩ := h.cutB 0 hi (by omega) h1
  refine ⟨v', by simpa using hb', fun W kl => ?_⟩
  obtain ⟨ao, cap, rfl, hc, _⟩ := id h
  have h2 := hrun W kl kl
  rw [run_slice_lh W 27 ao l.length cap (by rw [elem_u8]; exact Tryd.underlying27) kl kl (0 : Nat) hi (by omega) (by omega) (by omega)] at h2
  rw [run_slice_h W 27 ao l.length cap (by rw [elem_u8]; exact Tryd.underlying27) kl hi (by omega) (by omega)]
  simpa using h2
theorem Bts.strB {w : World} {B : Nat} {v : Value} {l : List UInt8} (h : Bts w B v l) : (convert 27 9 v).run Tryd.prog w = .ok (.string ⟨l.toArray⟩) w :=
  h.str 27 5 9 Tryd.underlying27 Tryd.underlying5 Tryd.underlying9

end Go.Proofs.YtgnpjenpehfjbaaDoor
