/- An api.Item that came in (by program: wip/tools/gen_readsw.py). -/
import Derived.Test.YtgnpjenpehfjbaaDoorReadsN
import Derived.Test.YtgnpjenpehfjbaaDoorWire3
import Derived.Deep.Slices
import Derived.Deep.Fields
namespace Go.Proofs.YtgnpjenpehfjbaaDoor
open Go.ChangeShapes Go.WideShapes Go.ChangeAt Go.RowKit

theorem cells_int : Tryd.prog.cellsOf 3 = 1 := by kernel_rfl
theorem cells_i64 : Tryd.prog.cellsOf 2 = 1 := by kernel_rfl
theorem cells_str : Tryd.prog.cellsOf 9 = 1 := by kernel_rfl
theorem cells_bool : Tryd.prog.cellsOf 4 = 1 := by kernel_rfl
theorem cells_chan : Tryd.prog.cellsOf 32 = 6 := by kernel_rfl
theorem cells_reg : Tryd.prog.cellsOf 34 = 3 := by kernel_rfl
theorem cells_ext : Tryd.prog.cellsOf 36 = 4 := by kernel_rfl
theorem cells_item : Tryd.prog.cellsOf 38 = 19 := by kernel_rfl
theorem chan_struct : ∃ f0 f1 f2 f3 f4 f5 : Field, Tryd.prog.underlying 32 = some (.struct #[f0, f1, f2, f3, f4, f5]) ∧ (f0.offset = 0 ∧ f1.offset = 1 ∧ f2.offset = 2 ∧ f3.offset = 3 ∧ f4.offset = 4 ∧ f5.offset = 5) ∧ f0.type = 9 ∧ f1.type = 2 ∧ f2.type = 3 ∧ f3.type = 4 ∧ f4.type = 3 ∧ f5.type = 2 :=
  ⟨_, _, _, _, _, _, Tryd.underlying32, ⟨rfl, rfl, rfl, rfl, rfl, rfl⟩, rfl, rfl, rfl, rfl, rfl, rfl⟩
set_option maxRecDepth 100000 in
theorem read_chan {H : Type} {enc : TypeId × Value → H} {W : World} {n : Nat} {cs : List Value} {y : DataW H × List MemPlace}
    (h : DataW.trod enc Tryd.prog W 0 (fun _ => true) true n 32 cs = some y) : ∃ (s : ByteArray) (e k : Int) (a : Bool) (kd sc : Int), s.size ≤ maxLen ∧ cs = [.string s, .int .i64 e, .int .i64 k, .bool a, .int .i64 kd, .int .i64 sc] := by
  obtain ⟨f0, f1, f2, f3, f4, f5, hs, ⟨o0, o1, o2, o3, o4, o5⟩, t0, t1, t2, t3, t4, t5⟩ := chan_struct
  obtain ⟨xs, m, -, hx, hlen, hxl, hf⟩ := DataW.trod_struct hs h
  rw [cells_chan] at hlen
  match cs, hlen, xs, hxl with
  | [c0, c1, c2, c3, c4, c5], _, [y0, y1, y2, y3, y4, y5], _ =>
    have h0 := hf 0 f0 rfl
    rw [o0, t0, cells_str] at h0
    have h1 := hf 1 f1 rfl
    rw [o1, t1, cells_i64] at h1
    have h2 := hf 2 f2 rfl
    rw [o2, t2, cells_int] at h2
    have h3 := hf 3 f3 rfl
    rw [o3, t3, cells_bool] at h3
    have h4 := hf 4 f4 rfl
    rw [o4, t4, cells_int] at h4
    have h5 := hf 5 f5 rfl
    rw [o5, t5, cells_i64] at h5
    obtain ⟨k0, e0, z0, w0⟩ := DataW.trod_string Tryd.underlying9 h0
    obtain ⟨k1, e1, z1, -⟩ := DataW.trod_int Tryd.underlying2 h1
    obtain ⟨k2, e2, z2, -⟩ := DataW.trod_int Tryd.underlying3 h2
    obtain ⟨k3, e3, z3⟩ := DataW.trod_bool Tryd.underlying4 h3
    obtain ⟨k4, e4, z4, -⟩ := DataW.trod_int Tryd.underlying3 h4
    obtain ⟨k5, e5, z5, -⟩ := DataW.trod_int Tryd.underlying2 h5
    simp at e0 e1 e2 e3 e4 e5
    subst e0 e1 e2 e3 e4 e5
    exact ⟨k0, k1, k2, k3, k4, k5, w0, rfl⟩
theorem reg_struct : ∃ f0 f1 f2 : Field, Tryd.prog.underlying 34 = some (.struct #[f0, f1, f2]) ∧ (f0.offset = 0 ∧ f1.offset = 1 ∧ f2.offset = 2) ∧ f0.type = 2 ∧ f1.type = 3 ∧ f2.type = 2 :=
  ⟨_, _, _, Tryd.underlying34, ⟨rfl, rfl, rfl⟩, rfl, rfl, rfl⟩
set_option maxRecDepth 100000 in
theorem read_reg {H : Type} {enc : TypeId × Value → H} {W : World} {n : Nat} {cs : List Value} {y : DataW H × List MemPlace}
    (h : DataW.trod enc Tryd.prog W 0 (fun _ => true) true n 34 cs = some y) : ∃ (e k f : Int), cs = [.int .i64 e, .int .i64 k, .int .i64 f] := by
  obtain ⟨f0, f1, f2, hs, ⟨o0, o1, o2⟩, t0, t1, t2⟩ := reg_struct
  obtain ⟨xs, m, -, hx, hlen, hxl, hf⟩ := DataW.trod_struct hs h
  rw [cells_reg] at hlen
  match cs, hlen, xs, hxl with
  | [c0, c1, c2], _, [y0, y1, y2], _ =>
    have h0 := hf 0 f0 rfl
    rw [o0, t0, cells_i64] at h0
    have h1 := hf 1 f1 rfl
    rw [o1, t1, cells_int] at h1
    have h2 := hf 2 f2 rfl
    rw [o2, t2, cells_i64] at h2
    obtain ⟨k0, e0, z0, -⟩ := DataW.trod_int Tryd.underlying2 h0
    obtain ⟨k1, e1, z1, -⟩ := DataW.trod_int Tryd.underlying3 h1
    obtain ⟨k2, e2, z2, -⟩ := DataW.trod_int Tryd.underlying2 h2
    simp at e0 e1 e2
    subst e0 e1 e2
    exact ⟨k0, k1, k2, rfl⟩
theorem ext_struct : ∃ f0 f1 f2 f3 : Field, Tryd.prog.underlying 36 = some (.struct #[f0, f1, f2, f3]) ∧ (f0.offset = 0 ∧ f1.offset = 1 ∧ f2.offset = 2 ∧ f3.offset = 3) ∧ f0.type = 4 ∧ f1.type = 2 ∧ f2.type = 3 ∧ f3.type = 2 :=
  ⟨_, _, _, _, Tryd.underlying36, ⟨rfl, rfl, rfl, rfl⟩, rfl, rfl, rfl, rfl⟩
set_option maxRecDepth 100000 in
theorem read_ext {H : Type} {enc : TypeId × Value → H} {W : World} {n : Nat} {cs : List Value} {y : DataW H × List MemPlace}
    (h : DataW.trod enc Tryd.prog W 0 (fun _ => true) true n 36 cs = some y) : ∃ x : Xt, cs = x.cells := by
  obtain ⟨f0, f1, f2, f3, hs, ⟨o0, o1, o2, o3⟩, t0, t1, t2, t3⟩ := ext_struct
  obtain ⟨xs, m, -, hx, hlen, hxl, hf⟩ := DataW.trod_struct hs h
  rw [cells_ext] at hlen
  match cs, hlen, xs, hxl with
  | [c0, c1, c2, c3], _, [y0, y1, y2, y3], _ =>
    have h0 := hf 0 f0 rfl
    rw [o0, t0, cells_bool] at h0
    have h1 := hf 1 f1 rfl
    rw [o1, t1, cells_i64] at h1
    have h2 := hf 2 f2 rfl
    rw [o2, t2, cells_int] at h2
    have h3 := hf 3 f3 rfl
    rw [o3, t3, cells_i64] at h3
    obtain ⟨k0, e0, z0⟩ := DataW.trod_bool Tryd.underlying4 h0
    obtain ⟨k1, e1, z1, -⟩ := DataW.trod_int Tryd.underlying2 h1
    obtain ⟨k2, e2, z2, -⟩ := DataW.trod_int Tryd.underlying3 h2
    obtain ⟨k3, e3, z3, -⟩ := DataW.trod_int Tryd.underlying2 h3
    simp at e0 e1 e2 e3
    subst e0 e1 e2 e3
    exact ⟨⟨k0, k1, k2, k3⟩, rfl⟩
theorem item_struct : ∃ f0 f1 f2 f3 f4 f5 : Field, Tryd.prog.underlying 38 = some (.struct #[f0, f1, f2, f3, f4, f5]) ∧ (f0.offset = 0 ∧ f1.offset = 6 ∧ f2.offset = 9 ∧ f3.offset = 10 ∧ f4.offset = 11 ∧ f5.offset = 15) ∧ f0.type = 32 ∧ f1.type = 34 ∧ f2.type = 4 ∧ f3.type = 2 ∧ f4.type = 36 ∧ f5.type = 36 :=
  ⟨_, _, _, _, _, _, Tryd.underlying38, ⟨rfl, rfl, rfl, rfl, rfl, rfl⟩, rfl, rfl, rfl, rfl, rfl, rfl⟩
set_option maxRecDepth 100000 in
theorem read_itemc {H : Type} {enc : TypeId × Value → H} {W : World} {n : Nat} {cs : List Value} {y : DataW H × List MemPlace}
    (h : DataW.trod enc Tryd.prog W 0 (fun _ => true) true n 38 cs = some y) : ∃ x : Itm, cs = x.cells ∧ x.name.length ≤ 9223372036854775807 := by
  obtain ⟨f0, f1, f2, f3, f4, f5, hs, ⟨o0, o1, o2, o3, o4, o5⟩, t0, t1, t2, t3, t4, t5⟩ := item_struct
  obtain ⟨xs, m, -, hx, hlen, hxl, hf⟩ := DataW.trod_struct hs h
  rw [cells_item] at hlen
  match cs, hlen, xs, hxl with
  | [c0, c1, c2, c3, c4, c5, c6, c7, c8, c9, c10, c11, c12, c13, c14, c15, c16, c17, c18], _, [y0, y1, y2, y3, y4, y5], _ =>
    have h0 := hf 0 f0 rfl
    have h1 := hf 1 f1 rfl
    have h2 := hf 2 f2 rfl
    have h3 := hf 3 f3 rfl
    have h4 := hf 4 f4 rfl
    have h5 := hf 5 f5 rfl
    rw [o0, t0, cells_chan] at h0
    rw [o1, t1, cells_reg] at h1
    rw [o2, t2, cells_bool] at h2
    rw [o3, t3, cells_i64] at h3
    rw [o4, t4, cells_ext] at h4
    rw [o5, t5, cells_ext] at h5
    obtain ⟨s, e, k, a, kd, sc, hs1, e0⟩ := read_chan h0
    obtain ⟨rv, rw_, rf, e1⟩ := read_reg h1
    obtain ⟨hr, e2, -⟩ := DataW.trod_bool Tryd.underlying4 h2
    obtain ⟨rs, e3, -, -⟩ := DataW.trod_int Tryd.underlying2 h3
    obtain ⟨⟨m1, m2, m3, m4⟩, e4⟩ := read_ext h4
    obtain ⟨⟨x1, x2, x3, x4⟩, e5⟩ := read_ext h5
    replace e0 : [c0, c1, c2, c3, c4, c5] = _ := e0
    replace e1 : [c6, c7, c8] = _ := e1
    replace e2 : [c9] = _ := e2
    replace e3 : [c10] = _ := e3
    replace e4 : [c11, c12, c13, c14] = _ := e4
    replace e5 : [c15, c16, c17, c18] = _ := e5
    cases e0
    cases e1
    cases e2
    cases e3
    cases e4
    cases e5
    obtain ⟨l, hl⟩ : ∃ l : List UInt8, s = ⟨l.toArray⟩ := ⟨s.data.toList, by cases s; simp⟩
    subst hl
    exact ⟨⟨l, e, k, a, kd, sc, rv, rw_, rf, hr, rs, ⟨m1, m2, m3, m4⟩, ⟨x1, x2, x3, x4⟩⟩, rfl, by simpa [ByteArray.size, maxLen] using hs1⟩
set_option maxRecDepth 100000 in
/-- an item, by value -/
theorem read_item {H : Type} {enc : TypeId × Value → H} {W : World} {base : Nat} {v : Value} {d : DataW H} {p : List MemPlace} (hv : Value.okWide Tryd.prog W .any base 38 v)
    (h : DataW.Trod enc Tryd.prog W 0 (fun _ => true) true 38 v d p) : ∃ x : Itm, v = .agg x.cells.toArray ∧ x.name.length ≤ 9223372036854775807 := by
  obtain ⟨f0, f1, f2, f3, f4, f5, hs, -⟩ := item_struct
  obtain ⟨cs, rfl, hsz⟩ := okWide_struct hs hv
  obtain ⟨fuel, hf⟩ := h
  obtain ⟨x, hx, hn⟩ := read_itemc hf
  refine ⟨x, ?_, hn⟩
  have hx' : cs.toList = x.cells := hx
  rw [← hx']

end Go.Proofs.YtgnpjenpehfjbaaDoor
