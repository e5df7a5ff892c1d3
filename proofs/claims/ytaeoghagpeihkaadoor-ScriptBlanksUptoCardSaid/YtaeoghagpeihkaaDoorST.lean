/- Rows of steps that came in, with their bulk. -/
import Derived.Test.YtaeoghagpeihkaaDoorSS
import Derived.Test.YtaeoghagpeihkaaDoorSO
set_option linter.unusedSimpArgs false
set_option linter.unusedVariables false
namespace Go.Proofs.YtaeoghagpeihkaaDoor
open Go.ChangeShapes Go.WideShapes Go.ChangeAt Go.RowKit

theorem cells_int : Tryd.prog.cellsOf 3 = 1 := by kernel_rfl
theorem cells_i64 : Tryd.prog.cellsOf 2 = 1 := by kernel_rfl
theorem cells_str : Tryd.prog.cellsOf 9 = 1 := by kernel_rfl
theorem cells_stp : Tryd.prog.cellsOf 35 = 6 := by kernel_rfl
theorem stp_struct : ∃ f0 f1 f2 f3 f4 f5 : Field, Tryd.prog.underlying 35 = some (.struct #[f0, f1, f2, f3, f4, f5]) ∧ (f0.offset = 0 ∧ f1.offset = 1 ∧ f2.offset = 2 ∧ f3.offset = 3 ∧ f4.offset = 4 ∧ f5.offset = 5) ∧ f0.type = 3 ∧ f1.type = 3 ∧ f2.type = 3 ∧ f3.type = 9 ∧ f4.type = 3 ∧ f5.type = 2 :=
  ⟨_, _, _, _, _, _, Tryd.underlying35, ⟨rfl, rfl, rfl, rfl, rfl, rfl⟩, rfl, rfl, rfl, rfl, rfl, rfl⟩
set_option maxRecDepth 100000 in
theorem lit_s {num : Int} (h : Lit.wf (.int .i64 num) = true) : I64s num := by
  simp [Lit.wf, IntKind.min, IntKind.max, IntKind.signed, IntKind.bits] at h
  unfold I64s
  omega
set_option maxRecDepth 100000 in
theorem read_stp {H : Type} {enc : TypeId × Value → H} {W : World} {n : Nat} {cs : List Value} {y : DataW H × List MemPlace}
    (h : DataW.trod enc Tryd.prog W 0 (fun _ => true) true n 35 cs = some y) : ∃ s : Stp, cs = stepL s ∧ Stp64 s ∧ s.name.length + 6 ≤ Rows.uptoBulk y.1 := by
  obtain ⟨f0, f1, f2, f3, f4, f5, hs, ⟨o0, o1, o2, o3, o4, o5⟩, t0, t1, t2, t3, t4, t5⟩ := stp_struct
  obtain ⟨xs, m, -, hx, hlen, hxl, hf⟩ := DataW.trod_struct hs h
  rw [cells_stp] at hlen
  match cs, hlen, xs, hxl with
  | [c0, c1, c2, c3, c4, c5], _, [y0, y1, y2, y3, y4, y5], _ =>
    have h0 := hf 0 f0 rfl
    rw [o0, t0, cells_int] at h0
    have h1 := hf 1 f1 rfl
    rw [o1, t1, cells_int] at h1
    have h2 := hf 2 f2 rfl
    rw [o2, t2, cells_int] at h2
    have h3 := hf 3 f3 rfl
    rw [o3, t3, cells_str] at h3
    have h4 := hf 4 f4 rfl
    rw [o4, t4, cells_int] at h4
    have h5 := hf 5 f5 rfl
    rw [o5, t5, cells_i64] at h5
    obtain ⟨k0, e0, z0, w0⟩ := DataW.trod_int Tryd.underlying3 h0
    obtain ⟨k1, e1, z1, w1⟩ := DataW.trod_int Tryd.underlying3 h1
    obtain ⟨k2, e2, z2, w2⟩ := DataW.trod_int Tryd.underlying3 h2
    obtain ⟨k3, e3, z3, w3⟩ := DataW.trod_string Tryd.underlying9 h3
    obtain ⟨k4, e4, z4, w4⟩ := DataW.trod_int Tryd.underlying3 h4
    obtain ⟨k5, e5, z5, w5⟩ := DataW.trod_int Tryd.underlying2 h5
    simp at e0 e1 e2 e3 e4 e5
    subst e0 e1 e2 e3 e4 e5
    have hD : y.1 = .agg [y0.1, y1.1, y2.1, y3.1, y4.1, y5.1] := congrArg Prod.fst hx
    have hy0 : y0 = _ := z0
    have hy1 : y1 = _ := z1
    have hy2 : y2 = _ := z2
    have hy3 : y3 = _ := z3
    have hy4 : y4 = _ := z4
    have hy5 : y5 = _ := z5
    subst hy0 hy1 hy2 hy3 hy4 hy5
    refine ⟨⟨k0, k1, k2, k3.data.toList, k4, k5⟩, ?_, ⟨lit_s w1, lit_s w2, lit_s w4, lit_s w5⟩, ?_⟩
    · simp [stepL]
    · rw [hD]
      simp only [Rows.uptoBulk, Rows.uptoBulkAll]
      omega
def bulkS (xs : List Stp) : Nat := (xs.map fun x => x.name.length + 6).sum
theorem bulkS_mem {xs : List Stp} {s : Stp} (h : s ∈ xs) : s.name.length + 6 ≤ bulkS xs := by
  unfold bulkS
  induction xs with
  | nil => cases h
  | cons x xs ih =>
    simp only [List.map_cons, List.sum_cons]
    rcases List.mem_cons.1 h with rfl | h
    · omega
    · have := ih h; omega
theorem bulkS_len (xs : List Stp) : xs.length ≤ bulkS xs := by
  unfold bulkS
  induction xs with
  | nil => simp
  | cons x xs ih => simp only [List.map_cons, List.sum_cons, List.length_cons]; omega
theorem bulkS_sms {xs : List Stp} (h64 : ∀ s ∈ xs, Stp64 s) (hb : bulkS xs ≤ 1048576) : SmS xs :=
  ⟨Nat.le_trans (bulkS_len xs) hb, fun s hs => ⟨h64 s hs, by have := bulkS_mem hs; omega⟩⟩
/-- steps that came in -/
theorem read_steps {H : Type} {enc : TypeId × Value → H} {W : World} {u : Value} {d : DataW H} {p : List MemPlace} {ao : Option Addr} {len cap : Nat} (hu : u = .slice ao len cap) (h : DataW.Trod enc Tryd.prog W 0 (fun _ => true) true 22 u d p) :
    ∃ xs : List Stp, Sps W W.heap.size u xs ∧ (∀ s ∈ xs, Stp64 s) ∧ bulkS xs ≤ Rows.uptoBulk d := by
  subst hu
  obtain ⟨fuel, hf⟩ := h
  rcases Deep.open_slice Tryd.underlying22 hf with ⟨hcs, hx⟩ | ⟨x, l, c, m, n, D, Pl, hcs, _, hl, hm, hmm, hx, hi⟩
  · simp [Value.cells] at hcs
    obtain ⟨rfl, rfl, rfl⟩ := hcs
    exact ⟨[], Sps.nil _ _, (fun s h => by cases h), (by simp [bulkS])⟩
  · simp [Value.cells] at hcs
    obtain ⟨rfl, rfl, rfl⟩ := hcs
    simp only [if_true] at hmm
    obtain rfl : cap = m := hmm.symm
    have each : ∀ i, i < cap → ∃ f : Stp, (∀ j u, (stepL f)[j]? = some u → W.cell? (x.add (i * 6 + j)) = some u) ∧ Stp64 f ∧ f.name.length + 6 ≤ Rows.uptoBulk (D i) := by
      intro i hic
      obtain ⟨cs, hc, ht⟩ := hi i hic
      rw [cells_stp] at hc
      obtain ⟨f, rfl, h1, h2⟩ := read_stp ht
      obtain ⟨_, hcl, hat⟩ := World.cells?_some hc
      refine ⟨f, fun j u hj => ?_, h1, h2⟩
      have hj4 : j < 6 := (List.getElem?_eq_some_iff.1 hj).1
      rw [← Deep.add_add, hat j hj4, hj]
    obtain ⟨F, hF⟩ : ∃ F : Nat → Stp, ∀ i, i < cap → (∀ j u, (stepL (F i))[j]? = some u → W.cell? (x.add (i * 6 + j)) = some u) ∧ Stp64 (F i) ∧ (F i).name.length + 6 ≤ Rows.uptoBulk (D i) := by
      refine ⟨fun i => if hic : i < cap then (each i hic).choose else zeroS, fun i hic => ?_⟩
      simp only [dif_pos hic]
      exact (each i hic).choose_spec
    have hlen : ((List.range len).map F).length = len := by simp
    have hd : d = _ := congrArg Prod.fst hx
    refine ⟨(List.range len).map F, ⟨some x, cap, by rw [hlen], by rw [hlen]; exact hl, by rw [hlen]; omega, fun hne => ?_⟩, ?_, ?_⟩
    · have hpos : 0 < len := by
        rcases Nat.eq_zero_or_pos len with h0 | h0
        · subst h0; simp at hne
        · exact h0
      obtain ⟨b, off, spot⟩ := x
      have hc0 := (hF 0 (by omega)).1 0 _ rfl
      have hspot : spot = none := by simpa [Addr.add] using World.cell?_spot hc0
      subst hspot
      refine ⟨b, off, rfl, by have := World.block_lt_of_cell? W _ hc0; simpa [Addr.add] using this, fun i f hf j u hu => ?_⟩
      have hil : i < len := by have := (List.getElem?_eq_some_iff.1 hf).1; simpa using this
      have hfe : f = F i := by simpa [hil] using hf.symm
      subst hfe
      have hk := (hF i (by omega)).1 j u hu
      rw [Addr.add_lit] at hk
      rw [Nat.add_assoc]
      exact hk
    · intro f hf
      obtain ⟨i, hi', rfl⟩ := List.mem_map.1 hf
      exact (hF i (by have := List.mem_range.1 hi'; omega)).2.1
    · rw [hd]
      simp only [Rows.uptoBulk, bulkS]
      have key : ∀ (q : List Nat), (∀ i ∈ q, i < cap) → ((q.map F).map fun f => f.name.length + 6).sum ≤ Rows.uptoBulkAll (q.map D) := by
        intro q hq
        induction q with
        | nil => simp [Rows.uptoBulkAll]
        | cons i r ih =>
          have h1 := (hF i (hq i List.mem_cons_self)).2.2
          have h2 := ih fun j hj => hq j (List.mem_cons_of_mem _ hj)
          simp only [List.map_cons, List.sum_cons, Rows.uptoBulkAll]
          omega
      have := key (List.range len) (fun i hi => by have := List.mem_range.1 hi; omega)
      omega

end Go.Proofs.YtaeoghagpeihkaaDoor

