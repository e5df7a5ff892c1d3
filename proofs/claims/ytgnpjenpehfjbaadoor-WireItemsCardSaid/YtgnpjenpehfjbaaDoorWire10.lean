/- Wire: places, read and written (by program: wip/tools/gen_wire10.py). -/
import Derived.Test.YtgnpjenpehfjbaaDoorWire7
import Derived.Test.YtgnpjenpehfjbaaDoorCodeField
namespace Go.Proofs.YtgnpjenpehfjbaaDoor
open Go.RowKit

/-- a field, and where it lies: sort 0 a whole number, 1 an int, 2 a text, 3 a truth -/
structure Plc where
  kind : Int
  sort : Nat
  b : Nat
  o : Nat
def Plc.ptr (p : Plc) (s : Nat) : Value := .pointer (if p.sort = s then some ⟨p.b, p.o, none⟩ else none)
def Plc.cells (p : Plc) : List Value := [.int .i64 p.kind, p.ptr 0, p.ptr 1, p.ptr 2, p.ptr 3]
def Plc.val (p : Plc) : Value := .agg p.cells.toArray
/-- the value of a field at a place's sort -/
def Plc.cellOf (p : Plc) (f : Fld) : Value := if p.sort = 2 then .string ⟨f.text.toArray⟩ else if p.sort = 3 then .bool f.is_ else .int .i64 f.num
/-- what a place's field is, if the place holds that field's value: the other parts are empty -/
def Plc.only (p : Plc) (f : Fld) : Prop := f.kind = p.kind ∧ (p.sort ≠ 2 → f.text = []) ∧ (p.sort ≠ 3 → f.is_ = false) ∧ (p.sort = 2 ∨ p.sort = 3 → f.num = 0)
theorem below_set {w w' : World} {b o : Nat} {cs : Array Value} {t : TypeId} {v : Value} (hb : Below w.heap.size w w') (h : w.heap[b]? = some (.cells cs t (0, 0))) : Below w.heap.size (w.setCell ⟨b, o, none⟩ v) (w'.setCell ⟨b, o, none⟩ v) := by
  have hlt := (Array.getElem?_eq_some_iff.1 h).1
  refine ⟨hb.os, hb.tape, hb.output, by simpa [World.setCell] using hb.size, fun k hk => ?_⟩
  by_cases e : k = b
  · subst e
    rw [set_block w' k o cs t v ((hb.block k hlt).trans h), set_block w k o cs t v h]
  · rw [set_other _ _ _ _ _ e, set_other _ _ _ _ _ e]
    exact hb.block k hk

set_option maxRecDepth 100000 in
set_option maxHeartbeats 1000000 in
theorem get_0 (kind : Int) (z : Int) (b o : Nat) (w : World) (hb : b < w.heap.size) (hc : w.cell? ⟨b, o, none⟩ = some (.int .i64 z)) : Calls Tryd.prog 57 #[.agg #[.int .i64 kind, .pointer (some ⟨b, o, none⟩), .pointer none, .pointer none, .pointer none]] w fun e w' => e = .returned (.agg #[.int .i64 kind, .int .i64 z, .string ⟨#[]⟩, .bool false]) ∧ Below w.heap.size w w' := by
  have B3 : Below w.heap.size w (((w.alloc (.cells #[.int .i64 kind, .pointer (some ⟨b, o, none⟩), .pointer none, .pointer none, .pointer none] 106)).alloc (.cells #[.int .i64 0, .int .i64 0, .string ⟨#[]⟩, .bool false] 92)).alloc (.cells #[.int .i64 kind, .int .i64 0, .string ⟨#[]⟩, .bool false] 92)) := (((Below.refl _ _).alloc (Nat.le_refl _) _).alloc (by simp) _).alloc (by simp; omega) _
  have hc3 := (B3.cell (p := ⟨b, o, none⟩) hb).trans hc
  clear B3 hc
  go_enter Tryd.func57, Tryd.ntmps57
  go_wp2
  exact bodyPost_ret (v := .agg #[.int .i64 kind, .int .i64 z, .string ⟨#[]⟩, .bool false]) (by simp [results, Tryd.results57, go_sem, *]) rfl ⟨rfl, (((Below.refl _ _).alloc (Nat.le_refl _) _).alloc (by simp) _).alloc (by simp; omega) _⟩
set_option maxRecDepth 100000 in
set_option maxHeartbeats 1000000 in
theorem get_1 (kind : Int) (z : Int) (b o : Nat) (w : World) (hb : b < w.heap.size) (hc : w.cell? ⟨b, o, none⟩ = some (.int .i64 z)) : Calls Tryd.prog 57 #[.agg #[.int .i64 kind, .pointer none, .pointer (some ⟨b, o, none⟩), .pointer none, .pointer none]] w fun e w' => e = .returned (.agg #[.int .i64 kind, .int .i64 z, .string ⟨#[]⟩, .bool false]) ∧ Below w.heap.size w w' := by
  have B3 : Below w.heap.size w (((w.alloc (.cells #[.int .i64 kind, .pointer none, .pointer (some ⟨b, o, none⟩), .pointer none, .pointer none] 106)).alloc (.cells #[.int .i64 0, .int .i64 0, .string ⟨#[]⟩, .bool false] 92)).alloc (.cells #[.int .i64 kind, .int .i64 0, .string ⟨#[]⟩, .bool false] 92)) := (((Below.refl _ _).alloc (Nat.le_refl _) _).alloc (by simp) _).alloc (by simp; omega) _
  have hc3 := (B3.cell (p := ⟨b, o, none⟩) hb).trans hc
  clear B3 hc
  go_enter Tryd.func57, Tryd.ntmps57
  go_wp2
  exact bodyPost_ret (v := .agg #[.int .i64 kind, .int .i64 z, .string ⟨#[]⟩, .bool false]) (by simp [results, Tryd.results57, go_sem, *]) rfl ⟨rfl, (((Below.refl _ _).alloc (Nat.le_refl _) _).alloc (by simp) _).alloc (by simp; omega) _⟩
set_option maxRecDepth 100000 in
set_option maxHeartbeats 1000000 in
theorem get_2 (kind : Int) (s : List UInt8) (b o : Nat) (w : World) (hb : b < w.heap.size) (hc : w.cell? ⟨b, o, none⟩ = some (.string ⟨s.toArray⟩)) : Calls Tryd.prog 57 #[.agg #[.int .i64 kind, .pointer none, .pointer none, .pointer (some ⟨b, o, none⟩), .pointer none]] w fun e w' => e = .returned (.agg #[.int .i64 kind, .int .i64 0, .string ⟨s.toArray⟩, .bool false]) ∧ Below w.heap.size w w' := by
  have B3 : Below w.heap.size w (((w.alloc (.cells #[.int .i64 kind, .pointer none, .pointer none, .pointer (some ⟨b, o, none⟩), .pointer none] 106)).alloc (.cells #[.int .i64 0, .int .i64 0, .string ⟨#[]⟩, .bool false] 92)).alloc (.cells #[.int .i64 kind, .int .i64 0, .string ⟨#[]⟩, .bool false] 92)) := (((Below.refl _ _).alloc (Nat.le_refl _) _).alloc (by simp) _).alloc (by simp; omega) _
  have hc3 := (B3.cell (p := ⟨b, o, none⟩) hb).trans hc
  clear B3 hc
  go_enter Tryd.func57, Tryd.ntmps57
  go_wp2
  exact bodyPost_ret (v := .agg #[.int .i64 kind, .int .i64 0, .string ⟨s.toArray⟩, .bool false]) (by simp [results, Tryd.results57, go_sem, *]) rfl ⟨rfl, (((Below.refl _ _).alloc (Nat.le_refl _) _).alloc (by simp) _).alloc (by simp; omega) _⟩
set_option maxRecDepth 100000 in
set_option maxHeartbeats 1000000 in
theorem get_3 (kind : Int) (x : Bool) (b o : Nat) (w : World) (hb : b < w.heap.size) (hc : w.cell? ⟨b, o, none⟩ = some (.bool x)) : Calls Tryd.prog 57 #[.agg #[.int .i64 kind, .pointer none, .pointer none, .pointer none, .pointer (some ⟨b, o, none⟩)]] w fun e w' => e = .returned (.agg #[.int .i64 kind, .int .i64 0, .string ⟨#[]⟩, .bool x]) ∧ Below w.heap.size w w' := by
  have B3 : Below w.heap.size w (((w.alloc (.cells #[.int .i64 kind, .pointer none, .pointer none, .pointer none, .pointer (some ⟨b, o, none⟩)] 106)).alloc (.cells #[.int .i64 0, .int .i64 0, .string ⟨#[]⟩, .bool false] 92)).alloc (.cells #[.int .i64 kind, .int .i64 0, .string ⟨#[]⟩, .bool false] 92)) := (((Below.refl _ _).alloc (Nat.le_refl _) _).alloc (by simp) _).alloc (by simp; omega) _
  have hc3 := (B3.cell (p := ⟨b, o, none⟩) hb).trans hc
  clear B3 hc
  go_enter Tryd.func57, Tryd.ntmps57
  go_wp2
  exact bodyPost_ret (v := .agg #[.int .i64 kind, .int .i64 0, .string ⟨#[]⟩, .bool x]) (by simp [results, Tryd.results57, go_sem, *]) rfl ⟨rfl, (((Below.refl _ _).alloc (Nat.le_refl _) _).alloc (by simp) _).alloc (by simp; omega) _⟩
set_option maxRecDepth 100000 in
set_option maxHeartbeats 1000000 in
theorem set_0 (kind : Int) (k2 n2 : Int) (t2 : ByteArray) (b2 : Bool) (b o : Nat) (cs : Array Value) (t : TypeId) (w : World) (h : w.heap[b]? = some (.cells cs t (0, 0))) (ho : o < cs.size) : Calls Tryd.prog 78 #[.agg #[.int .i64 kind, .pointer (some ⟨b, o, none⟩), .pointer none, .pointer none, .pointer none], .agg #[.int .i64 k2, .int .i64 n2, .string t2, .bool b2]] w fun e w' => (∃ v, e = .returned v) ∧ Below w.heap.size (w.setCell ⟨b, o, none⟩ (.int .i64 n2)) w' := by
  have hb := (Array.getElem?_eq_some_iff.1 h).1
  obtain ⟨v, hv⟩ : ∃ v, cs[o]? = some v := ⟨_, Array.getElem?_eq_getElem ho⟩
  have hc := (cell_of_row _ _ o _ _ _ h).trans hv
  have hz := frozen_of_row _ _ o _ _ h
  have HB := Lib.hid h
  have B2 : Below w.heap.size w ((w.alloc (.cells #[.int .i64 kind, .pointer (some ⟨b, o, none⟩), .pointer none, .pointer none, .pointer none] 106)).alloc (.cells #[.int .i64 k2, .int .i64 n2, .string t2, .bool b2] 92)) := ((Below.refl _ _).alloc (Nat.le_refl _) _).alloc (by simp) _
  have hc3 := (B2.cell (p := ⟨b, o, none⟩) hb).trans hc
  have hz3 := (B2.frozen (p := ⟨b, o, none⟩) hb).trans hz
  clear h ho hv hc hz B2
  go_enter Tryd.func78, Tryd.ntmps78
  go_wp2
  go_end0
  exact ⟨⟨_, rfl⟩, ((Below.refl _ _).alloc (by simp [World.setCell]) _).alloc (by simp [World.setCell]; try omega) _⟩
set_option maxRecDepth 100000 in
set_option maxHeartbeats 1000000 in
theorem set_1 (kind : Int) (k2 n2 : Int) (t2 : ByteArray) (b2 : Bool) (b o : Nat) (cs : Array Value) (t : TypeId) (w : World) (h : w.heap[b]? = some (.cells cs t (0, 0))) (ho : o < cs.size) : Calls Tryd.prog 78 #[.agg #[.int .i64 kind, .pointer none, .pointer (some ⟨b, o, none⟩), .pointer none, .pointer none], .agg #[.int .i64 k2, .int .i64 n2, .string t2, .bool b2]] w fun e w' => (∃ v, e = .returned v) ∧ Below w.heap.size (w.setCell ⟨b, o, none⟩ (.int .i64 n2)) w' := by
  have hb := (Array.getElem?_eq_some_iff.1 h).1
  obtain ⟨v, hv⟩ : ∃ v, cs[o]? = some v := ⟨_, Array.getElem?_eq_getElem ho⟩
  have hc := (cell_of_row _ _ o _ _ _ h).trans hv
  have hz := frozen_of_row _ _ o _ _ h
  have HB := Lib.hid h
  have B2 : Below w.heap.size w ((w.alloc (.cells #[.int .i64 kind, .pointer none, .pointer (some ⟨b, o, none⟩), .pointer none, .pointer none] 106)).alloc (.cells #[.int .i64 k2, .int .i64 n2, .string t2, .bool b2] 92)) := ((Below.refl _ _).alloc (Nat.le_refl _) _).alloc (by simp) _
  have hc3 := (B2.cell (p := ⟨b, o, none⟩) hb).trans hc
  have hz3 := (B2.frozen (p := ⟨b, o, none⟩) hb).trans hz
  clear h ho hv hc hz B2
  go_enter Tryd.func78, Tryd.ntmps78
  go_wp2
  go_end0
  exact ⟨⟨_, rfl⟩, ((Below.refl _ _).alloc (by simp [World.setCell]) _).alloc (by simp [World.setCell]; try omega) _⟩
set_option maxRecDepth 100000 in
set_option maxHeartbeats 1000000 in
theorem set_2 (kind : Int) (k2 n2 : Int) (t2 : ByteArray) (b2 : Bool) (b o : Nat) (cs : Array Value) (t : TypeId) (w : World) (h : w.heap[b]? = some (.cells cs t (0, 0))) (ho : o < cs.size) : Calls Tryd.prog 78 #[.agg #[.int .i64 kind, .pointer none, .pointer none, .pointer (some ⟨b, o, none⟩), .pointer none], .agg #[.int .i64 k2, .int .i64 n2, .string t2, .bool b2]] w fun e w' => (∃ v, e = .returned v) ∧ Below w.heap.size (w.setCell ⟨b, o, none⟩ (.string t2)) w' := by
  have hb := (Array.getElem?_eq_some_iff.1 h).1
  obtain ⟨v, hv⟩ : ∃ v, cs[o]? = some v := ⟨_, Array.getElem?_eq_getElem ho⟩
  have hc := (cell_of_row _ _ o _ _ _ h).trans hv
  have hz := frozen_of_row _ _ o _ _ h
  have HB := Lib.hid h
  have B2 : Below w.heap.size w ((w.alloc (.cells #[.int .i64 kind, .pointer none, .pointer none, .pointer (some ⟨b, o, none⟩), .pointer none] 106)).alloc (.cells #[.int .i64 k2, .int .i64 n2, .string t2, .bool b2] 92)) := ((Below.refl _ _).alloc (Nat.le_refl _) _).alloc (by simp) _
  have hc3 := (B2.cell (p := ⟨b, o, none⟩) hb).trans hc
  have hz3 := (B2.frozen (p := ⟨b, o, none⟩) hb).trans hz
  clear h ho hv hc hz B2
  go_enter Tryd.func78, Tryd.ntmps78
  go_wp2
  go_end0
  exact ⟨⟨_, rfl⟩, ((Below.refl _ _).alloc (by simp [World.setCell]) _).alloc (by simp [World.setCell]; try omega) _⟩
set_option maxRecDepth 100000 in
set_option maxHeartbeats 1000000 in
theorem set_3 (kind : Int) (k2 n2 : Int) (t2 : ByteArray) (b2 : Bool) (b o : Nat) (cs : Array Value) (t : TypeId) (w : World) (h : w.heap[b]? = some (.cells cs t (0, 0))) (ho : o < cs.size) : Calls Tryd.prog 78 #[.agg #[.int .i64 kind, .pointer none, .pointer none, .pointer none, .pointer (some ⟨b, o, none⟩)], .agg #[.int .i64 k2, .int .i64 n2, .string t2, .bool b2]] w fun e w' => (∃ v, e = .returned v) ∧ Below w.heap.size (w.setCell ⟨b, o, none⟩ (.bool b2)) w' := by
  have hb := (Array.getElem?_eq_some_iff.1 h).1
  obtain ⟨v, hv⟩ : ∃ v, cs[o]? = some v := ⟨_, Array.getElem?_eq_getElem ho⟩
  have hc := (cell_of_row _ _ o _ _ _ h).trans hv
  have hz := frozen_of_row _ _ o _ _ h
  have HB := Lib.hid h
  have B2 : Below w.heap.size w ((w.alloc (.cells #[.int .i64 kind, .pointer none, .pointer none, .pointer none, .pointer (some ⟨b, o, none⟩)] 106)).alloc (.cells #[.int .i64 k2, .int .i64 n2, .string t2, .bool b2] 92)) := ((Below.refl _ _).alloc (Nat.le_refl _) _).alloc (by simp) _
  have hc3 := (B2.cell (p := ⟨b, o, none⟩) hb).trans hc
  have hz3 := (B2.frozen (p := ⟨b, o, none⟩) hb).trans hz
  clear h ho hv hc hz B2
  go_enter Tryd.func78, Tryd.ntmps78
  go_wp2
  go_end0
  exact ⟨⟨_, rfl⟩, ((Below.refl _ _).alloc (by simp [World.setCell]) _).alloc (by simp [World.setCell]; try omega) _⟩
theorem small_any (a : Addr) (w : World) : Calls Tryd.prog 59 #[.pointer (some a)] w fun e w' => e = .returned (.agg #[.int .i64 1, .pointer none, .pointer (some a), .pointer none, .pointer none]) ∧ Below w.heap.size w w' := by
  go_enter Tryd.func59, Tryd.ntmps59
  go_wp2
  exact bodyPost_ret (v := .agg #[.int .i64 1, .pointer none, .pointer (some a), .pointer none, .pointer none]) (by simp [results, Tryd.results59, go_sem, *]) rfl ⟨rfl, (Below.refl _ _).alloc (Nat.le_refl _) _⟩
theorem whole_any (a : Addr) (w : World) : Calls Tryd.prog 60 #[.pointer (some a)] w fun e w' => e = .returned (.agg #[.int .i64 1, .pointer (some a), .pointer none, .pointer none, .pointer none]) ∧ Below w.heap.size w w' := by
  go_enter Tryd.func60, Tryd.ntmps60
  go_wp2
  exact bodyPost_ret (v := .agg #[.int .i64 1, .pointer (some a), .pointer none, .pointer none, .pointer none]) (by simp [results, Tryd.results60, go_sem, *]) rfl ⟨rfl, (Below.refl _ _).alloc (Nat.le_refl _) _⟩
theorem signed_any (a : Addr) (w : World) : Calls Tryd.prog 63 #[.pointer (some a)] w fun e w' => e = .returned (.agg #[.int .i64 2, .pointer (some a), .pointer none, .pointer none, .pointer none]) ∧ Below w.heap.size w w' := by
  go_enter Tryd.func63, Tryd.ntmps63
  go_wp2
  exact bodyPost_ret (v := .agg #[.int .i64 2, .pointer (some a), .pointer none, .pointer none, .pointer none]) (by simp [results, Tryd.results63, go_sem, *]) rfl ⟨rfl, (Below.refl _ _).alloc (Nat.le_refl _) _⟩
theorem truth_any (a : Addr) (w : World) : Calls Tryd.prog 62 #[.pointer (some a)] w fun e w' => e = .returned (.agg #[.int .i64 4, .pointer none, .pointer none, .pointer none, .pointer (some a)]) ∧ Below w.heap.size w w' := by
  go_enter Tryd.func62, Tryd.ntmps62
  go_wp2
  exact bodyPost_ret (v := .agg #[.int .i64 4, .pointer none, .pointer none, .pointer none, .pointer (some a)]) (by simp [results, Tryd.results62, go_sem, *]) rfl ⟨rfl, (Below.refl _ _).alloc (Nat.le_refl _) _⟩

end Go.Proofs.YtgnpjenpehfjbaaDoor
