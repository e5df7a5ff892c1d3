/- An api.Item that came in (by program: wip/tools/gen_readsw.py).
An api.Packet that came in, with its numbers' bounds and its bulk (by program: wip/tools/gen_readsp.py). -/
import Derived.Test.YtgnpjenpehfjbaaDoorNC
import Derived.Test.YtgnpjenpehfjbaaDoorMC
import Derived.Deep.Slices
import Derived.Deep.Fields
import Derived.Test.YtgnpjenpehfjbaaDoorML
set_option linter.unusedSimpArgs false
set_option linter.unusedVariables false
namespace Go.Proofs.YtgnpjenpehfjbaaDoor
open Go.ChangeShapes Go.WideShapes Go.ChangeAt Go.RowKit

theorem cells_int : Tryd.prog.cellsOf 3 = 1 := by kernel_rfl
theorem cells_i64 : Tryd.prog.cellsOf 2 = 1 := by kernel_rfl
theorem cells_str : Tryd.prog.cellsOf 9 = 1 := by kernel_rfl
theorem cells_bool : Tryd.prog.cellsOf 4 = 1 := by kernel_rfl
theorem cells_chan : Tryd.prog.cellsOf 32 = 6 := by kernel_rfl
theorem cells_reg : Tryd.prog.cellsOf 34 = 3 := by kernel_rfl
theorem cells_ext : Tryd.prog.cellsOf 36 = 4 := by kernel_rfl
theorem cells_item : Tryd.prog.cellsOf 38 = 19 := by kernel_rfl
theorem chan_struct : ∃ f0 f1 f2 f3 f4 f5 : Field, Tryd.prog.underlying 32 = some (.struct #[f0, f1, f2, f3, f4, f5]) ∧ (f0.offset = 0 ∧ f1.offset = 1 ∧ f2.offset = 2 ∧ f3.offset = 3 ∧ f4.offset = 4 ∧ f5.offset = 5) ∧ f0.type = 9 ∧ f1.type = 2 ∧ f2.type = 3 ∧ f3.type = 4 ∧ f4.type = 3 ∧ f5.type = 2 :=
  ⟨_, _, _, _, _, _, Tryd.underlying32, ⟨rfl, rfl, rfl, rfl, rfl, rfl⟩, rfl, rfl, rfl, rfl, rfl, rfl⟩
theorem reg_struct : ∃ f0 f1 f2 : Field, Tryd.prog.underlying 34 = some (.struct #[f0, f1, f2]) ∧ (f0.offset = 0 ∧ f1.offset = 1 ∧ f2.offset = 2) ∧ f0.type = 2 ∧ f1.type = 3 ∧ f2.type = 2 :=
  ⟨_, _, _, Tryd.underlying34, ⟨rfl, rfl, rfl⟩, rfl, rfl, rfl⟩
theorem ext_struct : ∃ f0 f1 f2 f3 : Field, Tryd.prog.underlying 36 = some (.struct #[f0, f1, f2, f3]) ∧ (f0.offset = 0 ∧ f1.offset = 1 ∧ f2.offset = 2 ∧ f3.offset = 3) ∧ f0.type = 4 ∧ f1.type = 2 ∧ f2.type = 3 ∧ f3.type = 2 :=
  ⟨_, _, _, _, Tryd.underlying36, ⟨rfl, rfl, rfl, rfl⟩, rfl, rfl, rfl, rfl⟩
theorem item_struct : ∃ f0 f1 f2 f3 f4 f5 : Field, Tryd.prog.underlying 38 = some (.struct #[f0, f1, f2, f3, f4, f5]) ∧ (f0.offset = 0 ∧ f1.offset = 6 ∧ f2.offset = 9 ∧ f3.offset = 10 ∧ f4.offset = 11 ∧ f5.offset = 15) ∧ f0.type = 32 ∧ f1.type = 34 ∧ f2.type = 4 ∧ f3.type = 2 ∧ f4.type = 36 ∧ f5.type = 36 :=
  ⟨_, _, _, _, _, _, Tryd.underlying38, ⟨rfl, rfl, rfl, rfl, rfl, rfl⟩, rfl, rfl, rfl, rfl, rfl, rfl⟩
end Go.Proofs.YtgnpjenpehfjbaaDoor

namespace Go.Proofs.YtgnpjenpehfjbaaDoor
open Go.ChangeShapes Go.WideShapes Go.ChangeAt Go.RowKit

set_option maxRecDepth 100000 in
theorem lit_64 {num : Int} (h : Lit.wf (.int .i64 num) = true) : I64 num := by
  simp [Lit.wf, IntKind.min, IntKind.max, IntKind.signed, IntKind.bits] at h
  unfold I64
  omega
set_option maxRecDepth 100000 in
theorem read_chan8 {H : Type} {enc : TypeId × Value → H} {W : World} {n : Nat} {cs : List Value} {y : DataW H × List MemPlace}
    (h : DataW.trod enc Tryd.prog W 0 (fun _ => true) true n 32 cs = some y) : ∃ (s : ByteArray) (e k : Int) (a : Bool) (kd sc : Int), s.size ≤ maxLen ∧ cs = [.string s, .int .i64 e, .int .i64 k, .bool a, .int .i64 kd, .int .i64 sc] ∧ s.size + 6 ≤ Rows.uptoBulk y.1 := by
  obtain ⟨f0, f1, f2, f3, f4, f5, hs, ⟨o0, o1, o2, o3, o4, o5⟩, t0, t1, t2, t3, t4, t5⟩ := chan_struct
  obtain ⟨xs, m, -, hx, hlen, hxl, hf⟩ := DataW.trod_struct hs h
  rw [cells_chan] at hlen
  match cs, hlen, xs, hxl with
  | [c0, c1, c2, c3, c4, c5], _, [y0, y1, y2, y3, y4, y5], _ =>
    have h0 := hf 0 f0 rfl
    rw [o0, t0, cells_str] at h0
    have h1 := hf 1 f1 rfl
    rw [o1, t1, cells_i64] at h1
    have h2 := hf 2 f2 rfl
    rw [o2, t2, cells_int] at h2
    have h3 := hf 3 f3 rfl
    rw [o3, t3, cells_bool] at h3
    have h4 := hf 4 f4 rfl
    rw [o4, t4, cells_int] at h4
    have h5 := hf 5 f5 rfl
    rw [o5, t5, cells_i64] at h5
    obtain ⟨k0, e0, z0, w0⟩ := DataW.trod_string Tryd.underlying9 h0
    obtain ⟨k1, e1, z1, w1⟩ := DataW.trod_int Tryd.underlying2 h1
    obtain ⟨k2, e2, z2, w2⟩ := DataW.trod_int Tryd.underlying3 h2
    obtain ⟨k3, e3, z3⟩ := DataW.trod_bool Tryd.underlying4 h3
    obtain ⟨k4, e4, z4, w4⟩ := DataW.trod_int Tryd.underlying3 h4
    obtain ⟨k5, e5, z5, w5⟩ := DataW.trod_int Tryd.underlying2 h5
    simp at e0 e1 e2 e3 e4 e5
    subst e0 e1 e2 e3 e4 e5
    have hD : y.1 = .agg [y0.1, y1.1, y2.1, y3.1, y4.1, y5.1] := congrArg Prod.fst hx
    have hy0 : y0 = _ := z0
    have hy1 : y1 = _ := z1
    have hy2 : y2 = _ := z2
    have hy3 : y3 = _ := z3
    have hy4 : y4 = _ := z4
    have hy5 : y5 = _ := z5
    subst hy0 hy1 hy2 hy3 hy4 hy5
    refine ⟨k0, k1, k2, k3, k4, k5, w0, rfl, ?_⟩
    rw [hD]
    simp only [Rows.uptoBulk, Rows.uptoBulkAll]
    have : k0.data.toList.length = k0.size := Array.length_toList
    omega
set_option maxRecDepth 100000 in
theorem read_reg8 {H : Type} {enc : TypeId × Value → H} {W : World} {n : Nat} {cs : List Value} {y : DataW H × List MemPlace}
    (h : DataW.trod enc Tryd.prog W 0 (fun _ => true) true n 34 cs = some y) : ∃ (e k f : Int), cs = [.int .i64 e, .int .i64 k, .int .i64 f] ∧ I64 f ∧ 3 ≤ Rows.uptoBulk y.1 := by
  obtain ⟨f0, f1, f2, hs, ⟨o0, o1, o2⟩, t0, t1, t2⟩ := reg_struct
  obtain ⟨xs, m, -, hx, hlen, hxl, hf⟩ := DataW.trod_struct hs h
  rw [cells_reg] at hlen
  match cs, hlen, xs, hxl with
  | [c0, c1, c2], _, [y0, y1, y2], _ =>
    have h0 := hf 0 f0 rfl
    rw [o0, t0, cells_i64] at h0
    have h1 := hf 1 f1 rfl
    rw [o1, t1, cells_int] at h1
    have h2 := hf 2 f2 rfl
    rw [o2, t2, cells_i64] at h2
    obtain ⟨k0, e0, z0, w0⟩ := DataW.trod_int Tryd.underlying2 h0
    obtain ⟨k1, e1, z1, w1⟩ := DataW.trod_int Tryd.underlying3 h1
    obtain ⟨k2, e2, z2, w2⟩ := DataW.trod_int Tryd.underlying2 h2
    simp at e0 e1 e2
    subst e0 e1 e2
    have hD : y.1 = .agg [y0.1, y1.1, y2.1] := congrArg Prod.fst hx
    have hy0 : y0 = _ := z0
    have hy1 : y1 = _ := z1
    have hy2 : y2 = _ := z2
    subst hy0 hy1 hy2
    refine ⟨k0, k1, k2, rfl, lit_64 w2, ?_⟩
    rw [hD]
    simp only [Rows.uptoBulk, Rows.uptoBulkAll]
    omega
set_option maxRecDepth 100000 in
theorem read_ext8 {H : Type} {enc : TypeId × Value → H} {W : World} {n : Nat} {cs : List Value} {y : DataW H × List MemPlace}
    (h : DataW.trod enc Tryd.prog W 0 (fun _ => true) true n 36 cs = some y) : ∃ x : Xt, cs = x.cells ∧ I64 x.val ∧ 4 ≤ Rows.uptoBulk y.1 := by
  obtain ⟨f0, f1, f2, f3, hs, ⟨o0, o1, o2, o3⟩, t0, t1, t2, t3⟩ := ext_struct
  obtain ⟨xs, m, -, hx, hlen, hxl, hf⟩ := DataW.trod_struct hs h
  rw [cells_ext] at hlen
  match cs, hlen, xs, hxl with
  | [c0, c1, c2, c3], _, [y0, y1, y2, y3], _ =>
    have h0 := hf 0 f0 rfl
    rw [o0, t0, cells_bool] at h0
    have h1 := hf 1 f1 rfl
    rw [o1, t1, cells_i64] at h1
    have h2 := hf 2 f2 rfl
    rw [o2, t2, cells_int] at h2
    have h3 := hf 3 f3 rfl
    rw [o3, t3, cells_i64] at h3
    obtain ⟨k0, e0, z0⟩ := DataW.trod_bool Tryd.underlying4 h0
    obtain ⟨k1, e1, z1, w1⟩ := DataW.trod_int Tryd.underlying2 h1
    obtain ⟨k2, e2, z2, w2⟩ := DataW.trod_int Tryd.underlying3 h2
    obtain ⟨k3, e3, z3, w3⟩ := DataW.trod_int Tryd.underlying2 h3
    simp at e0 e1 e2 e3
    subst e0 e1 e2 e3
    have hD : y.1 = .agg [y0.1, y1.1, y2.1, y3.1] := congrArg Prod.fst hx
    have hy0 : y0 = _ := z0
    have hy1 : y1 = _ := z1
    have hy2 : y2 = _ := z2
    have hy3 : y3 = _ := z3
    subst hy0 hy1 hy2 hy3
    refine ⟨⟨k0, k1, k2, k3⟩, rfl, lit_64 w1, ?_⟩
    rw [hD]
    simp only [Rows.uptoBulk, Rows.uptoBulkAll]
    omega
set_option maxRecDepth 100000 in
theorem read_item8 {H : Type} {enc : TypeId × Value → H} {W : World} {n : Nat} {cs : List Value} {y : DataW H × List MemPlace}
    (h : DataW.trod enc Tryd.prog W 0 (fun _ => true) true n 38 cs = some y) : ∃ x : Itm, cs = x.cells ∧ x.name.length ≤ 9223372036854775807 ∧ Itm64 x ∧ x.name.length + 20 ≤ Rows.uptoBulk y.1 := by
  obtain ⟨f0, f1, f2, f3, f4, f5, hs, ⟨o0, o1, o2, o3, o4, o5⟩, t0, t1, t2, t3, t4, t5⟩ := item_struct
  obtain ⟨xs, m, -, hx, hlen, hxl, hf⟩ := DataW.trod_struct hs h
  rw [cells_item] at hlen
  match cs, hlen, xs, hxl with
  | [c0, c1, c2, c3, c4, c5, c6, c7, c8, c9, c10, c11, c12, c13, c14, c15, c16, c17, c18], _, [y0, y1, y2, y3, y4, y5], _ =>
    have h0 := hf 0 f0 rfl
    have h1 := hf 1 f1 rfl
    have h2 := hf 2 f2 rfl
    have h3 := hf 3 f3 rfl
    have h4 := hf 4 f4 rfl
    have h5 := hf 5 f5 rfl
    rw [o0, t0, cells_chan] at h0
    rw [o1, t1, cells_reg] at h1
    rw [o2, t2, cells_bool] at h2
    rw [o3, t3, cells_i64] at h3
    rw [o4, t4, cells_ext] at h4
    rw [o5, t5, cells_ext] at h5
    obtain ⟨s, e, k, a, kd, sc, hs1, e0, q0⟩ := read_chan8 h0
    obtain ⟨rv, rw_, rf, e1, i1, q1⟩ := read_reg8 h1
    obtain ⟨hr, e2, q2⟩ := DataW.trod_bool Tryd.underlying4 h2
    obtain ⟨rs, e3, q3, i3⟩ := DataW.trod_int Tryd.underlying2 h3
    obtain ⟨⟨m1, m2, m3, m4⟩, e4, i4, q4⟩ := read_ext8 h4
    obtain ⟨⟨x1, x2, x3, x4⟩, e5, i5, q5⟩ := read_ext8 h5
    replace e0 : [c0, c1, c2, c3, c4, c5] = _ := e0
    replace e1 : [c6, c7, c8] = _ := e1
    replace e2 : [c9] = _ := e2
    replace e3 : [c10] = _ := e3
    replace e4 : [c11, c12, c13, c14] = _ := e4
    replace e5 : [c15, c16, c17, c18] = _ := e5
    cases e0
    cases e1
    cases e2
    cases e3
    cases e4
    cases e5
    obtain ⟨l, hl⟩ : ∃ l : List UInt8, s = ⟨l.toArray⟩ := ⟨s.data.toList, by cases s; simp⟩
    subst hl
    refine ⟨⟨l, e, k, a, kd, sc, rv, rw_, rf, hr, rs, ⟨m1, m2, m3, m4⟩, ⟨x1, x2, x3, x4⟩⟩, rfl, by simpa [ByteArray.size, maxLen] using hs1, ⟨i1, lit_64 i3, i4, i5⟩, ?_⟩
    have hD : y.1 = .agg [y0.1, y1.1, y2.1, y3.1, y4.1, y5.1] := congrArg Prod.fst hx
    have hy2 : y2 = _ := q2
    have hy3 : y3 = _ := q3
    subst hy2 hy3
    rw [hD]
    simp only [Rows.uptoBulk, Rows.uptoBulkAll]
    have : (⟨l.toArray⟩ : ByteArray).size = l.length := rfl
    rw [this] at q0
    show l.length + 20 ≤ _
    omega
theorem cells_pkt : Tryd.prog.cellsOf 24 = 8 := by kernel_rfl
theorem cells_items : Tryd.prog.cellsOf 22 = 1 := by kernel_rfl
theorem bytes_item : Tryd.prog.bytesOf 38 = 160 := by kernel_rfl
theorem pkt_struct : ∃ f0 f1 f2 f3 f4 f5 f6 f7 : Field, Tryd.prog.underlying 24 = some (.struct #[f0, f1, f2, f3, f4, f5, f6, f7]) ∧ (f0.offset = 0 ∧ f1.offset = 1 ∧ f2.offset = 2 ∧ f3.offset = 3 ∧ f4.offset = 4 ∧ f5.offset = 5 ∧ f6.offset = 6 ∧ f7.offset = 7) ∧ f0.type = 3 ∧ f1.type = 3 ∧ f2.type = 3 ∧ f3.type = 2 ∧ f4.type = 2 ∧ f5.type = 2 ∧ f6.type = 2 ∧ f7.type = 22 :=
  ⟨_, _, _, _, _, _, _, _, Tryd.underlying24, ⟨rfl, rfl, rfl, rfl, rfl, rfl, rfl, rfl⟩, rfl, rfl, rfl, rfl, rfl, rfl, rfl, rfl⟩
def bulkX (xs : List Itm) : Nat := (xs.map fun x => x.name.length + 20).sum
/-- items that came in -/
theorem read_items {H : Type} {enc : TypeId × Value → H} {W : World} {fuel : Nat} {u : Value} {y : DataW H × List MemPlace} (hf : DataW.trod enc Tryd.prog W 0 (fun _ => true) true fuel 22 [u] = some y) :
    ∃ xs : List Itm, Ims W W.heap.size u xs ∧ Sl u ∧ (∀ x ∈ xs, x.name.length ≤ 9223372036854775807 ∧ Itm64 x) ∧ bulkX xs ≤ Rows.uptoBulk y.1 ∧ (xs = [] ∨ xs.length * 160 ∈ y.1.weights Tryd.prog 22 ∨ ∃ n, xs.length * 160 ≤ n ∧ n ∈ y.1.weights Tryd.prog 22) := by
  rcases Deep.open_slice Tryd.underlying22 hf with ⟨hcs, hx⟩ | ⟨x, len, c, m, n, D, Pl, hcs, _, hl, hm, hmm, hx, hi⟩
  · simp at hcs
    subst hcs
    exact ⟨[], Ims.nil _ _, .inl rfl, (fun x h => by cases h), by simp [bulkX], .inl rfl⟩
  · simp at hcs
    subst hcs
    simp only [if_true] at hmm
    obtain rfl : c = m := hmm.symm
    have each : ∀ i, i < c → ∃ f : Itm, (∀ j u, f.cells[j]? = some u → W.cell? (x.add (i * 19 + j)) = some u) ∧ (f.name.length ≤ 9223372036854775807 ∧ Itm64 f) ∧ f.name.length + 20 ≤ Rows.uptoBulk (D i) := by
      intro i hic
      obtain ⟨cs, hc, ht⟩ := hi i hic
      rw [cells_item] at hc
      obtain ⟨f, rfl, h1, h2, h3⟩ := read_item8 ht
      obtain ⟨_, hcl, hat⟩ := World.cells?_some hc
      refine ⟨f, fun j u hj => ?_, ⟨h1, h2⟩, h3⟩
      have hj4 : j < 19 := (List.getElem?_eq_some_iff.1 hj).1
      rw [← Deep.add_add, hat j hj4, hj]
    obtain ⟨F, hF⟩ : ∃ F : Nat → Itm, ∀ i, i < c → (∀ j u, (F i).cells[j]? = some u → W.cell? (x.add (i * 19 + j)) = some u) ∧ ((F i).name.length ≤ 9223372036854775807 ∧ Itm64 (F i)) ∧ (F i).name.length + 20 ≤ Rows.uptoBulk (D i) := by
      refine ⟨fun i => if hic : i < c then (each i hic).choose else nilI, fun i hic => ?_⟩
      simp only [dif_pos hic]
      exact (each i hic).choose_spec
    have hlen : ((List.range len).map F).length = len := by simp
    have hd : y.1 = _ := congrArg Prod.fst hx
    refine ⟨(List.range len).map F, ⟨some x, c, by rw [hlen], by rw [hlen]; exact hl, by rw [hlen]; omega, fun hne => ?_⟩, .inr ⟨_, _, _, rfl⟩, ?_, ?_, .inr (.inr ?_)⟩
    · have hpos : 0 < len := by
        rcases Nat.eq_zero_or_pos len with h0 | h0
        · subst h0; simp at hne
        · exact h0
      obtain ⟨b, off, spot⟩ := x
      have hc0 := (hF 0 (by omega)).1 0 _ rfl
      have hspot : spot = none := by simpa [Addr.add] using World.cell?_spot hc0
      subst hspot
      refine ⟨b, off, rfl, by have := World.block_lt_of_cell? W _ hc0; simpa [Addr.add] using this, fun i f hf j u hu => ?_⟩
      have hil : i < len := by have := (List.getElem?_eq_some_iff.1 hf).1; simpa using this
      have hfe : f = F i := by simpa [hil] using hf.symm
      subst hfe
      have hk := (hF i (by omega)).1 j u hu
      rw [Addr.add_lit] at hk
      rw [Nat.add_assoc]
      exact hk
    · intro f hf
      obtain ⟨i, hi', rfl⟩ := List.mem_map.1 hf
      exact (hF i (by have := List.mem_range.1 hi'; omega)).2.1
    · rw [hd]
      simp only [Rows.uptoBulk, bulkX]
      have key : ∀ (q : List Nat), (∀ i ∈ q, i < c) → ((q.map F).map fun f => f.name.length + 20).sum ≤ Rows.uptoBulkAll (q.map D) := by
        intro q hq
        induction q with
        | nil => simp [Rows.uptoBulkAll]
        | cons i r ih =>
          have h1 := (hF i (hq i List.mem_cons_self)).2.2
          have h2 := ih fun j hj => hq j (List.mem_cons_of_mem _ hj)
          simp only [List.map_cons, List.sum_cons, Rows.uptoBulkAll]
          omega
      have := key (List.range len) (fun i hi => by have := List.mem_range.1 hi; omega)
      omega
    · rw [hd, hlen]
      refine ⟨(len + (c - len)) * 160, Nat.mul_le_mul_right _ (by omega), ?_⟩
      simp only [DataW.weights, Tryd.underlying22, bytes_item, List.length_map, List.length_range]
      exact List.mem_cons_self
theorem weights_of_each {H : Type} {ts : List TypeId} {ds : List (DataW H)} (h : (DataW.weightsEach Tryd.prog ts ds).all (· ≤ reachBytes) = true) {j : Nat} {t : TypeId} {d : DataW H} (ht : ts[j]? = some t) (hd : ds[j]? = some d) : (d.weights Tryd.prog t).all (· ≤ reachBytes) = true :=
  List.all_eq_true.2 fun n hn => List.all_eq_true.1 h n (DataW.weights_mem_each ht hd n hn)
structure PkOk (q : Pkt) : Prop where
  items : ∀ x ∈ q.items, x.name.length ≤ 9223372036854775807 ∧ Itm64 x
  head : I64 q.kind ∧ I64 q.frm ∧ I64 q.to ∧ I64 q.boot ∧ I64 q.life ∧ I64 q.echo ∧ I64 q.elife
set_option maxRecDepth 100000 in
/-- a packet's cells -/
theorem read_pktc {H : Type} {enc : TypeId × Value → H} {W : World} {n : Nat} {cs : List Value} {y : DataW H × List MemPlace} (h : DataW.trod enc Tryd.prog W 0 (fun _ => true) true n 24 cs = some y) :
    ∃ (q : Pkt) (u : Value), cs = q.cells u ∧ Ims W W.heap.size u q.items ∧ Sl u ∧ PkOk q ∧ bulkX q.items + 1 ≤ Rows.uptoBulk y.1 ∧ ((y.1.weights Tryd.prog 24).all (· ≤ reachBytes) = true → q.items.length * 160 ≤ 140737488355328) := by
  obtain ⟨f0, f1, f2, f3, f4, f5, f6, f7, hs, ⟨o0, o1, o2, o3, o4, o5, o6, o7⟩, t0, t1, t2, t3, t4, t5, t6, t7⟩ := pkt_struct
  obtain ⟨xs, m, -, hx, hlen, hxl, hf⟩ := DataW.trod_struct hs h
  rw [cells_pkt] at hlen
  match cs, hlen, xs, hxl with
  | [c0, c1, c2, c3, c4, c5, c6, c7], _, [y0, y1, y2, y3, y4, y5, y6, y7], _ =>
    have h0 := hf 0 f0 rfl
    rw [o0, t0, cells_int] at h0
    have h1 := hf 1 f1 rfl
    rw [o1, t1, cells_int] at h1
    have h2 := hf 2 f2 rfl
    rw [o2, t2, cells_int] at h2
    have h3 := hf 3 f3 rfl
    rw [o3, t3, cells_i64] at h3
    have h4 := hf 4 f4 rfl
    rw [o4, t4, cells_i64] at h4
    have h5 := hf 5 f5 rfl
    rw [o5, t5, cells_i64] at h5
    have h6 := hf 6 f6 rfl
    rw [o6, t6, cells_i64] at h6
    have h7 := hf 7 f7 rfl
    rw [o7, t7, cells_items] at h7
    obtain ⟨k0, e0, z0, w0⟩ := DataW.trod_int Tryd.underlying3 h0
    obtain ⟨k1, e1, z1, w1⟩ := DataW.trod_int Tryd.underlying3 h1
    obtain ⟨k2, e2, z2, w2⟩ := DataW.trod_int Tryd.underlying3 h2
    obtain ⟨k3, e3, z3, w3⟩ := DataW.trod_int Tryd.underlying2 h3
    obtain ⟨k4, e4, z4, w4⟩ := DataW.trod_int Tryd.underlying2 h4
    obtain ⟨k5, e5, z5, w5⟩ := DataW.trod_int Tryd.underlying2 h5
    obtain ⟨k6, e6, z6, w6⟩ := DataW.trod_int Tryd.underlying2 h6
    simp at e0 e1 e2 e3 e4 e5 e6
    subst e0 e1 e2 e3 e4 e5 e6
    replace h7 : DataW.trod enc Tryd.prog W 0 (fun _ => true) true m 22 [c7] = some y7 := h7
    obtain ⟨is, hI, hS, hO, hB, hW⟩ := read_items h7
    have hD : y.1 = .agg [y0.1, y1.1, y2.1, y3.1, y4.1, y5.1, y6.1, y7.1] := congrArg Prod.fst hx
    refine ⟨⟨k0, k1, k2, k3, k4, k5, k6, is⟩, c7, rfl, hI, hS, ⟨hO, lit_64 w0, lit_64 w1, lit_64 w2, lit_64 w3, lit_64 w4, lit_64 w5, lit_64 w6⟩, ?_, fun hwt => ?_⟩
    · rw [hD]
      simp only [Rows.uptoBulk, Rows.uptoBulkAll]
      show bulkX is + 1 ≤ _
      omega
    · show is.length * 160 ≤ _
      rcases hW with rfl | hW
      · simp
      · obtain ⟨n, hn, hmem⟩ : ∃ n, is.length * 160 ≤ n ∧ n ∈ y7.1.weights Tryd.prog 22 := by
          rcases hW with h | h
          · exact ⟨_, Nat.le_refl _, h⟩
          · exact h
        have hin : n ∈ y.1.weights Tryd.prog 24 := by
          rw [hD]
          simp only [DataW.weights, hs]
          exact DataW.weights_mem_each (j := 7) (t := 22) (by simp [t7]) rfl n hmem
        have := List.all_eq_true.1 hwt n hin
        have h2 : n ≤ reachBytes := by simpa using this
        unfold reachBytes at h2
        omega
set_option maxRecDepth 100000 in
/-- a packet, by value -/
theorem read_packet {H : Type} {enc : TypeId × Value → H} {W : World} {base : Nat} {v : Value} {d : DataW H} {p : List MemPlace} (hv : Value.okWide Tryd.prog W .any base 24 v)
    (h : DataW.Trod enc Tryd.prog W 0 (fun _ => true) true 24 v d p) : ∃ (q : Pkt) (u : Value), v = .agg (q.cells u).toArray ∧ Ims W W.heap.size u q.items ∧ Sl u ∧ PkOk q ∧ bulkX q.items + 1 ≤ Rows.uptoBulk d ∧ ((d.weights Tryd.prog 24).all (· ≤ reachBytes) = true → q.items.length * 160 ≤ 140737488355328) := by
  obtain ⟨f0, f1, f2, f3, f4, f5, f6, f7, hs, -⟩ := pkt_struct
  obtain ⟨cs, rfl, hsz⟩ := okWide_struct hs hv
  obtain ⟨fuel, hf⟩ := h
  obtain ⟨q, u, hq, h1⟩ := read_pktc hf
  refine ⟨q, u, ?_, h1⟩
  have hq' : cs.toList = q.cells u := hq
  rw [← hq']

end Go.Proofs.YtgnpjenpehfjbaaDoor

