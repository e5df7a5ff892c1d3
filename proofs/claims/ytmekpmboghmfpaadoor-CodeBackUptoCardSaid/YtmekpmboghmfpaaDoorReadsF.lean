/- A []api.Field that came in. -/
import Derived.Test.YtmekpmboghmfpaaDoorReadsN
import Derived.Test.YtmekpmboghmfpaaDoorLawCodeFields
import Derived.Deep.Slices
import Derived.Deep.Fields
namespace Go.Proofs.YtmekpmboghmfpaaDoor
open Go.ChangeShapes Go.WideShapes Go.ChangeAt Go.RowKit

theorem field_struct : ∃ f0 f1 f2 f3 : Field, Tryd.prog.underlying 71 = some (.struct #[f0, f1, f2, f3]) ∧ (f0.offset = 0 ∧ f1.offset = 1 ∧ f2.offset = 2 ∧ f3.offset = 3) ∧ f0.type = 3 ∧ f1.type = 2 ∧ f2.type = 9 ∧ f3.type = 4 :=
  ⟨_, _, _, _, Tryd.underlying71, ⟨rfl, rfl, rfl, rfl⟩, rfl, rfl, rfl, rfl⟩

theorem bulkF_len {H : Type} (l : List (DataW H)) : l.length ≤ Rows.uptoBulkAll l := by
  induction l with
  | nil => simp [Rows.uptoBulkAll]
  | cons x r ih =>
    have : 1 ≤ Rows.uptoBulk x := by
      cases x with
      | lit l => cases l <;> simp [Rows.uptoBulk]
      | _ => simp [Rows.uptoBulk]
    simp only [Rows.uptoBulkAll, List.length_cons]; omega

set_option maxRecDepth 100000 in
/-- one field's four cells -/
theorem read_field {H : Type} {enc : TypeId × Value → H} {W : World} {n : Nat} {cs : List Value} {D : DataW H} {Pl : List MemPlace}
    (h : DataW.trod enc Tryd.prog W 0 (fun _ => true) true n 71 cs = some (D, Pl)) :
    ∃ f : Fld, cs = f.cells ∧ -9223372036854775808 ≤ f.num ∧ f.num < 9223372036854775808 ∧ f.text.length + 5 ≤ Rows.uptoBulk D := by
  obtain ⟨f0, f1, f2, f3, hs, ⟨o0, o1, o2, o3⟩, t0, t1, t2, t3⟩ := field_struct
  obtain ⟨xs, m, -, hx, hlen, hxl, hf⟩ := DataW.trod_struct hs h
  have hc4 : Tryd.prog.cellsOf 71 = 4 := by kernel_rfl
  have ci : Tryd.prog.cellsOf 3 = 1 := by kernel_rfl
  have cj : Tryd.prog.cellsOf 2 = 1 := by kernel_rfl
  have ct : Tryd.prog.cellsOf 9 = 1 := by kernel_rfl
  have cb : Tryd.prog.cellsOf 4 = 1 := by kernel_rfl
  rw [hc4] at hlen
  match cs, hlen, xs, hxl with
  | [c0, c1, c2, c3], _, [y0, y1, y2, y3], _ =>
    have h0 := hf 0 f0 rfl
    have h1 := hf 1 f1 rfl
    have h2 := hf 2 f2 rfl
    have h3 := hf 3 f3 rfl
    rw [o0, t0, ci] at h0
    rw [o1, t1, cj] at h1
    rw [o2, t2, ct] at h2
    rw [o3, t3, cb] at h3
    obtain ⟨k, e0, z0, -⟩ := DataW.trod_int Tryd.underlying3 h0
    obtain ⟨num, e1, z1, w1⟩ := DataW.trod_int Tryd.underlying2 h1
    obtain ⟨s, e2, z2, -⟩ := DataW.trod_string Tryd.underlying9 h2
    obtain ⟨b, e3, z3⟩ := DataW.trod_bool Tryd.underlying4 h3
    simp at e0 e1 e2 e3
    subst e0 e1 e2 e3
    have hD : D = .agg [y0.1, y1.1, y2.1, y3.1] := congrArg Prod.fst hx
    have hy0 : y0 = _ := z0
    have hy1 : y1 = _ := z1
    have hy2 : y2 = _ := z2
    have hy3 : y3 = _ := z3
    subst hy0 hy1 hy2 hy3
    have hb : -9223372036854775808 ≤ num ∧ num ≤ 9223372036854775807 := by
      simp [Lit.wf, IntKind.min, IntKind.max, IntKind.signed, IntKind.bits] at w1
      omega
    refine ⟨⟨k, num, s.data.toList, b⟩, by simp [Fld.cells], hb.1, by show num < _; omega, ?_⟩
    rw [hD]
    simp only [Rows.uptoBulk, Rows.uptoBulkAll]
    omega

theorem read_fields {H : Type} {enc : TypeId × Value → H} {W : World} {d : DataW H} {p : List MemPlace} {a : Option Addr} {len cap : Nat}
    (h : DataW.Trod enc Tryd.prog W 0 (fun _ => true) true 52 (.slice a len cap) d p) :
    ∃ fs : List Fld, Flds W W.heap.size (.slice a len cap) fs ∧ (∀ f ∈ fs, -9223372036854775808 ≤ f.num ∧ f.num < 9223372036854775808) ∧ (fs.map fun f => f.text.length).sum + fs.length ≤ Rows.uptoBulk d := by
  obtain ⟨fuel, hf⟩ := h
  rcases Deep.open_slice Tryd.underlying52 hf with ⟨hcs, hx⟩ | ⟨x, l, c, m, n, D, Pl, hcs, _, hl, hm, hmm, hx, hi⟩
  · simp [Value.cells] at hcs
    obtain ⟨rfl, rfl, rfl⟩ := hcs
    exact ⟨[], ⟨none, 0, rfl, by simp, by simp [maxLen], fun h => absurd rfl h⟩, by simp, by simp⟩
  · simp [Value.cells] at hcs
    obtain ⟨rfl, rfl, rfl⟩ := hcs
    simp only [if_true] at hmm
    obtain rfl : cap = m := hmm.symm
    have hc4 : Tryd.prog.cellsOf 71 = 4 := by kernel_rfl
    have each : ∀ i, i < cap → ∃ f : Fld, (∀ j u, f.cells[j]? = some u → W.cell? (x.add (i * 4 + j)) = some u) ∧ -9223372036854775808 ≤ f.num ∧ f.num < 9223372036854775808 ∧ f.text.length + 5 ≤ Rows.uptoBulk (D i) := by
      intro i hic
      obtain ⟨cs, hc, ht⟩ := hi i hic
      rw [hc4] at hc
      obtain ⟨f, rfl, h1, h2, h3⟩ := read_field ht
      obtain ⟨_, hcl, hat⟩ := World.cells?_some hc
      refine ⟨f, fun j u hj => ?_, h1, h2, h3⟩
      have hj4 : j < 4 := by have := (List.getElem?_eq_some_iff.1 hj).1; simpa [Fld.cells] using this
      rw [← Deep.add_add, hat j hj4, hj]
    obtain ⟨F, hF⟩ : ∃ F : Nat → Fld, ∀ i, i < cap → (∀ j u, (F i).cells[j]? = some u → W.cell? (x.add (i * 4 + j)) = some u) ∧ -9223372036854775808 ≤ (F i).num ∧ (F i).num < 9223372036854775808 ∧ (F i).text.length + 5 ≤ Rows.uptoBulk (D i) := by
      refine ⟨fun i => if hic : i < cap then (each i hic).choose else ⟨0, 0, [], false⟩, fun i hic => ?_⟩
      simp only [dif_pos hic]
      exact (each i hic).choose_spec
    have hlen : ((List.range len).map F).length = len := by simp
    refine ⟨(List.range len).map F, ⟨some x, cap, by rw [hlen], by rw [hlen]; exact hl, by rw [hlen]; omega, fun hne => ?_⟩, ?_, ?_⟩
    · have hpos : 0 < len := by
        rcases Nat.eq_zero_or_pos len with h0 | h0
        · subst h0; simp at hne
        · exact h0
      obtain ⟨b, off, spot⟩ := x
      have hc0 := (hF 0 (by omega)).1 0 _ rfl
      have hspot : spot = none := by simpa [Addr.add] using World.cell?_spot hc0
      subst hspot
      refine ⟨b, off, rfl, by have := World.block_lt_of_cell? W _ hc0; simpa [Addr.add] using this, fun i f hf => ?_⟩
      have hil : i < len := by have := (List.getElem?_eq_some_iff.1 hf).1; simpa using this
      have hfe : f = F i := by simpa [hil] using hf.symm
      subst hfe
      have hk := (hF i (by omega)).1
      have g0 := hk 0 _ rfl
      have g1 := hk 1 _ rfl
      have g2 := hk 2 _ rfl
      have g3 := hk 3 _ rfl
      rw [Addr.add_lit] at g0 g1 g2 g3
      exact ⟨g0, g1, g2, g3⟩
    · intro f hf
      obtain ⟨i, hi', rfl⟩ := List.mem_map.1 hf
      have := hF i (by have := List.mem_range.1 hi'; omega)
      exact ⟨this.2.1, this.2.2.1⟩
    · have hd : d = _ := congrArg Prod.fst hx
      rw [hd]
      simp only [Rows.uptoBulk]
      have key : ∀ (q : List Nat), (∀ i ∈ q, i < cap) → ((q.map F).map fun f => f.text.length).sum + q.length ≤ Rows.uptoBulkAll (q.map D) := by
        intro q hq
        induction q with
        | nil => simp
        | cons i r ih =>
          have h1 := (hF i (hq i List.mem_cons_self)).2.2.2
          have h2 := ih fun j hj => hq j (List.mem_cons_of_mem _ hj)
          simp only [List.map_cons, List.sum_cons, List.length_cons, Rows.uptoBulkAll]
          omega
      have := key (List.range len) (fun i hi => by have := List.mem_range.1 hi; omega)
      rw [hlen]
      simp only [List.length_range] at this
      omega

theorem le_sum {l : List Nat} {x : Nat} (h : x ∈ l) : x ≤ l.sum := by
  induction l with
  | nil => cases h
  | cons y r ih =>
    rw [List.sum_cons]
    rcases List.mem_cons.1 h with rfl | h
    · omega
    · have := ih h; omega
theorem fields_small (fs : List Fld) (hn : ∀ f ∈ fs, -9223372036854775808 ≤ f.num ∧ f.num < 9223372036854775808) (hs : (fs.map fun f => f.text.length).sum + fs.length ≤ 1048576) :
    (∀ f ∈ fs, FldOk f) ∧ (fs.flatMap fbytes).length ≤ 20000000 ∧ fs.length ≤ 1048576 := by
  have h1 : ∀ f ∈ fs, FldOk f := fun f hf => by
    have h2 := le_sum (show f.text.length ∈ fs.map fun f => f.text.length from List.mem_map.2 ⟨f, hf, rfl⟩)
    exact ⟨(hn f hf).1, (hn f hf).2, by omega⟩
  exact ⟨h1, by have := fields_len fs h1; omega, by omega⟩

end Go.Proofs.YtmekpmboghmfpaaDoor
