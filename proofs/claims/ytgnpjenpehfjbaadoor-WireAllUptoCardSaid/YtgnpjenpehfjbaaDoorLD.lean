/- Rows of packets that came in, with their bulk (by program: wip/tools/gen_readsq.py). -/
import Derived.Test.YtgnpjenpehfjbaaDoorMX
import Derived.Test.YtgnpjenpehfjbaaDoorLC
set_option linter.unusedSimpArgs false
set_option linter.unusedVariables false
namespace Go.Proofs.YtgnpjenpehfjbaaDoor
open Go.ChangeShapes Go.WideShapes Go.ChangeAt Go.RowKit

def bulkQ (qs : List (Pkt × Value)) : Nat := (qs.map fun q => bulkX q.1.items + 1).sum
def nilPk : Pkt := ⟨0, 0, 0, 0, 0, 0, 0, []⟩
theorem bulkQ_len (qs : List (Pkt × Value)) : qs.length ≤ bulkQ qs := by
  unfold bulkQ
  induction qs with
  | nil => simp
  | cons q r ih => simp only [List.map_cons, List.sum_cons, List.length_cons]; omega
/-- packets that came in -/
theorem read_packets {H : Type} {enc : TypeId × Value → H} {W : World} {u : Value} {d : DataW H} {p : List MemPlace} {ao : Option Addr} {len cap : Nat} (hu : u = .slice ao len cap) (h : DataW.Trod enc Tryd.prog W 0 (fun _ => true) true 52 u d p) :
    ∃ qs : List (Pkt × Value), Pks W W.heap.size u qs ∧ (∀ q ∈ qs, PkOk q.1) ∧ bulkQ qs ≤ Rows.uptoBulk d := by
  subst hu
  obtain ⟨fuel, hf⟩ := h
  rcases Deep.open_slice Tryd.underlying52 hf with ⟨hcs, hx⟩ | ⟨x, l, c, m, n, D, Pl, hcs, _, hl, hm, hmm, hx, hi⟩
  · simp [Value.cells] at hcs
    obtain ⟨rfl, rfl, rfl⟩ := hcs
    exact ⟨[], ⟨⟨none, 0, rfl, by simp, by simp, fun h => absurd rfl h⟩, fun q h => by cases h⟩, (fun q h => by cases h), by simp [bulkQ]⟩
  · simp [Value.cells] at hcs
    obtain ⟨rfl, rfl, rfl⟩ := hcs
    simp only [if_true] at hmm
    obtain rfl : cap = m := hmm.symm
    have each : ∀ i, i < cap → ∃ q : Pkt × Value, (∀ j u, (q.1.cells q.2)[j]? = some u → W.cell? (x.add (i * 8 + j)) = some u) ∧ (Ims W W.heap.size q.2 q.1.items ∧ Sl q.2) ∧ PkOk q.1 ∧ bulkX q.1.items + 1 ≤ Rows.uptoBulk (D i) := by
      intro i hic
      obtain ⟨cs, hc, ht⟩ := hi i hic
      rw [cells_pkt] at hc
      obtain ⟨q, u, rfl, h1, h2, h3, h4, -⟩ := read_pktc ht
      obtain ⟨_, hcl, hat⟩ := World.cells?_some hc
      refine ⟨(q, u), fun j u' hj => ?_, ⟨h1, h2⟩, h3, h4⟩
      have hj4 : j < 8 := (List.getElem?_eq_some_iff.1 hj).1
      rw [← Deep.add_add, hat j hj4, hj]
    obtain ⟨F, hF⟩ : ∃ F : Nat → Pkt × Value, ∀ i, i < cap → (∀ j u, ((F i).1.cells (F i).2)[j]? = some u → W.cell? (x.add (i * 8 + j)) = some u) ∧ (Ims W W.heap.size (F i).2 (F i).1.items ∧ Sl (F i).2) ∧ PkOk (F i).1 ∧ bulkX (F i).1.items + 1 ≤ Rows.uptoBulk (D i) := by
      refine ⟨fun i => if hic : i < cap then (each i hic).choose else (nilPk, undef), fun i hic => ?_⟩
      simp only [dif_pos hic]
      exact (each i hic).choose_spec
    have hlen : ((List.range len).map F).length = len := by simp
    have hd : d = _ := congrArg Prod.fst hx
    refine ⟨(List.range len).map F, ⟨⟨some x, cap, by rw [hlen], by rw [hlen]; exact hl, by rw [hlen]; omega, fun hne => ?_⟩, fun q hq => ?_⟩, fun q hq => ?_, ?_⟩
    · have hpos : 0 < len := by
        rcases Nat.eq_zero_or_pos len with h0 | h0
        · subst h0; simp at hne
        · exact h0
      obtain ⟨b, off, spot⟩ := x
      have hc0 := (hF 0 (by omega)).1 0 _ rfl
      have hspot : spot = none := by simpa [Addr.add] using World.cell?_spot hc0
      subst hspot
      refine ⟨b, off, rfl, by have := World.block_lt_of_cell? W _ hc0; simpa [Addr.add] using this, fun i f hf j u hu => ?_⟩
      have hil : i < len := by have := (List.getElem?_eq_some_iff.1 hf).1; simpa using this
      have hfe : f = F i := by simpa [hil] using hf.symm
      subst hfe
      have hk := (hF i (by omega)).1 j u hu
      rw [Addr.add_lit] at hk
      rw [Nat.add_assoc]
      exact hk
    · obtain ⟨i, hi', rfl⟩ := List.mem_map.1 hq
      exact (hF i (by have := List.mem_range.1 hi'; omega)).2.1
    · obtain ⟨i, hi', rfl⟩ := List.mem_map.1 hq
      exact (hF i (by have := List.mem_range.1 hi'; omega)).2.2.1
    · rw [hd]
      simp only [Rows.uptoBulk, bulkQ]
      have key : ∀ (q : List Nat), (∀ i ∈ q, i < cap) → ((q.map F).map fun f => bulkX f.1.items + 1).sum ≤ Rows.uptoBulkAll (q.map D) := by
        intro q hq
        induction q with
        | nil => simp [Rows.uptoBulkAll]
        | cons i r ih =>
          have h1 := (hF i (hq i List.mem_cons_self)).2.2.2
          have h2 := ih fun j hj => hq j (List.mem_cons_of_mem _ hj)
          simp only [List.map_cons, List.sum_cons, Rows.uptoBulkAll]
          omega
      have := key (List.range len) (fun i hi => by have := List.mem_range.1 hi; omega)
      omega

end Go.Proofs.YtgnpjenpehfjbaaDoor

