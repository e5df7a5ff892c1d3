/- Wire: places, read and written (by program: wip/tools/gen_wire10.py).
Wire: the iterators over places (by program: wip/tools/gen_wire11.py).
Wire: the head's places (by program: wip/tools/gen_wire12.py).
Wire: fields: what holds while the region of a round runs (by program: wip/tools/gen_wire13.py).
Wire: fields: the places of an iterator, read (by program: wip/tools/gen_wire14.py).
Wire: a packet's fields and bytes (by program: wip/tools/gen_wire15.py).
Wire: Encode of a packet without items (by program: wip/tools/gen_wire15.py).
Wire: Decode of bytes that are no frame; the bytes of chapter 5's example (by program: wip/tools/gen_wire17.py).
Wire: awake (by program: wip/tools/gen_wire18.py). -/
import Derived.Test.YtgnpjenpehfjbaaDoorME
import Derived.Test.YtgnpjenpehfjbaaDoorMB
import Derived.Test.YtgnpjenpehfjbaaDoorMA
import Derived.RangeFuncBox
import Derived.Test.YtgnpjenpehfjbaaDoorMC
import Derived.Deep.AppendLies
import Derived.Test.YtgnpjenpehfjbaaDoorMF
set_option linter.unusedSimpArgs false
set_option linter.unusedVariables false
namespace Go.Proofs.YtgnpjenpehfjbaaDoor
open Go.RowKit

/-- a field, and where it lies: sort 0 a whole number, 1 an int, 2 a text, 3 a truth -/
structure Plc where
  kind : Int
  sort : Nat
  b : Nat
  o : Nat
def Plc.ptr (p : Plc) (s : Nat) : Value := .pointer (if p.sort = s then some ⟨p.b, p.o, none⟩ else none)
def Plc.cells (p : Plc) : List Value := [.int .i64 p.kind, p.ptr 0, p.ptr 1, p.ptr 2, p.ptr 3]
def Plc.val (p : Plc) : Value := .agg p.cells.toArray
/-- the value of a field at a place's sort -/
def Plc.cellOf (p : Plc) (f : Fld) : Value := if p.sort = 2 then .string ⟨f.text.toArray⟩ else if p.sort = 3 then .bool f.is_ else .int .i64 f.num
/-- what a place's field is, if the place holds that field's value: the other parts are empty -/
def Plc.only (p : Plc) (f : Fld) : Prop := f.kind = p.kind ∧ (p.sort ≠ 2 → f.text = []) ∧ (p.sort ≠ 3 → f.is_ = false) ∧ (p.sort = 2 ∨ p.sort = 3 → f.num = 0)
theorem below_set {w w' : World} {b o : Nat} {cs : Array Value} {t : TypeId} {v : Value} (hb : Below w.heap.size w w') (h : w.heap[b]? = some (.cells cs t (0, 0))) : Below w.heap.size (w.setCell ⟨b, o, none⟩ v) (w'.setCell ⟨b, o, none⟩ v) := by
  have hlt := (Array.getElem?_eq_some_iff.1 h).1
  refine ⟨hb.os, hb.tape, hb.output, by simpa [World.setCell] using hb.size, fun k hk => ?_⟩
  by_cases e : k = b
  · subst e
    rw [set_block w' k o cs t v ((hb.block k hlt).trans h), set_block w k o cs t v h]
  · rw [set_other _ _ _ _ _ e, set_other _ _ _ _ _ e]
    exact hb.block k hk

set_option maxRecDepth 100000 in
set_option maxHeartbeats 1000000 in
theorem get_0 (kind : Int) (z : Int) (b o : Nat) (w : World) (hb : b < w.heap.size) (hc : w.cell? ⟨b, o, none⟩ = some (.int .i64 z)) : Calls Tryd.prog 57 #[.agg #[.int .i64 kind, .pointer (some ⟨b, o, none⟩), .pointer none, .pointer none, .pointer none]] w fun e w' => e = .returned (.agg #[.int .i64 kind, .int .i64 z, .string ⟨#[]⟩, .bool false]) ∧ Below w.heap.size w w' := by
  have B3 : Below w.heap.size w (((w.alloc (.cells #[.int .i64 kind, .pointer (some ⟨b, o, none⟩), .pointer none, .pointer none, .pointer none] 106)).alloc (.cells #[.int .i64 0, .int .i64 0, .string ⟨#[]⟩, .bool false] 92)).alloc (.cells #[.int .i64 kind, .int .i64 0, .string ⟨#[]⟩, .bool false] 92)) := (((Below.refl _ _).alloc (Nat.le_refl _) _).alloc (by simp) _).alloc (by simp; omega) _
  have hc3 := (B3.cell (p := ⟨b, o, none⟩) hb).trans hc
  clear B3 hc
  go_enter Tryd.func57, Tryd.ntmps57
  go_wp2
  exact bodyPost_ret (v := .agg #[.int .i64 kind, .int .i64 z, .string ⟨#[]⟩, .bool false]) (by simp [results, Tryd.results57, go_sem, *]) rfl ⟨rfl, (((Below.refl _ _).alloc (Nat.le_refl _) _).alloc (by simp) _).alloc (by simp; omega) _⟩
set_option maxRecDepth 100000 in
set_option maxHeartbeats 1000000 in
theorem get_1 (kind : Int) (z : Int) (b o : Nat) (w : World) (hb : b < w.heap.size) (hc : w.cell? ⟨b, o, none⟩ = some (.int .i64 z)) : Calls Tryd.prog 57 #[.agg #[.int .i64 kind, .pointer none, .pointer (some ⟨b, o, none⟩), .pointer none, .pointer none]] w fun e w' => e = .returned (.agg #[.int .i64 kind, .int .i64 z, .string ⟨#[]⟩, .bool false]) ∧ Below w.heap.size w w' := by
  have B3 : Below w.heap.size w (((w.alloc (.cells #[.int .i64 kind, .pointer none, .pointer (some ⟨b, o, none⟩), .pointer none, .pointer none] 106)).alloc (.cells #[.int .i64 0, .int .i64 0, .string ⟨#[]⟩, .bool false] 92)).alloc (.cells #[.int .i64 kind, .int .i64 0, .string ⟨#[]⟩, .bool false] 92)) := (((Below.refl _ _).alloc (Nat.le_refl _) _).alloc (by simp) _).alloc (by simp; omega) _
  have hc3 := (B3.cell (p := ⟨b, o, none⟩) hb).trans hc
  clear B3 hc
  go_enter Tryd.func57, Tryd.ntmps57
  go_wp2
  exact bodyPost_ret (v := .agg #[.int .i64 kind, .int .i64 z, .string ⟨#[]⟩, .bool false]) (by simp [results, Tryd.results57, go_sem, *]) rfl ⟨rfl, (((Below.refl _ _).alloc (Nat.le_refl _) _).alloc (by simp) _).alloc (by simp; omega) _⟩
set_option maxRecDepth 100000 in
set_option maxHeartbeats 1000000 in
theorem set_0 (kind : Int) (k2 n2 : Int) (t2 : ByteArray) (b2 : Bool) (b o : Nat) (cs : Array Value) (t : TypeId) (w : World) (h : w.heap[b]? = some (.cells cs t (0, 0))) (ho : o < cs.size) : Calls Tryd.prog 78 #[.agg #[.int .i64 kind, .pointer (some ⟨b, o, none⟩), .pointer none, .pointer none, .pointer none], .agg #[.int .i64 k2, .int .i64 n2, .string t2, .bool b2]] w fun e w' => (∃ v, e = .returned v) ∧ Below w.heap.size (w.setCell ⟨b, o, none⟩ (.int .i64 n2)) w' := by
  have hb := (Array.getElem?_eq_some_iff.1 h).1
  obtain ⟨v, hv⟩ : ∃ v, cs[o]? = some v := ⟨_, Array.getElem?_eq_getElem ho⟩
  have hc := (cell_of_row _ _ o _ _ _ h).trans hv
  have hz := frozen_of_row _ _ o _ _ h
  have HB := Lib.hid h
  have B2 : Below w.heap.size w ((w.alloc (.cells #[.int .i64 kind, .pointer (some ⟨b, o, none⟩), .pointer none, .pointer none, .pointer none] 106)).alloc (.cells #[.int .i64 k2, .int .i64 n2, .string t2, .bool b2] 92)) := ((Below.refl _ _).alloc (Nat.le_refl _) _).alloc (by simp) _
  have hc3 := (B2.cell (p := ⟨b, o, none⟩) hb).trans hc
  have hz3 := (B2.frozen (p := ⟨b, o, none⟩) hb).trans hz
  clear h ho hv hc hz B2
  go_enter Tryd.func78, Tryd.ntmps78
  go_wp2
  go_end0
  exact ⟨⟨_, rfl⟩, ((Below.refl _ _).alloc (by simp [World.setCell]) _).alloc (by simp [World.setCell]; try omega) _⟩
set_option maxRecDepth 100000 in
set_option maxHeartbeats 1000000 in
theorem set_1 (kind : Int) (k2 n2 : Int) (t2 : ByteArray) (b2 : Bool) (b o : Nat) (cs : Array Value) (t : TypeId) (w : World) (h : w.heap[b]? = some (.cells cs t (0, 0))) (ho : o < cs.size) : Calls Tryd.prog 78 #[.agg #[.int .i64 kind, .pointer none, .pointer (some ⟨b, o, none⟩), .pointer none, .pointer none], .agg #[.int .i64 k2, .int .i64 n2, .string t2, .bool b2]] w fun e w' => (∃ v, e = .returned v) ∧ Below w.heap.size (w.setCell ⟨b, o, none⟩ (.int .i64 n2)) w' := by
  have hb := (Array.getElem?_eq_some_iff.1 h).1
  obtain ⟨v, hv⟩ : ∃ v, cs[o]? = some v := ⟨_, Array.getElem?_eq_getElem ho⟩
  have hc := (cell_of_row _ _ o _ _ _ h).trans hv
  have hz := frozen_of_row _ _ o _ _ h
  have HB := Lib.hid h
  have B2 : Below w.heap.size w ((w.alloc (.cells #[.int .i64 kind, .pointer none, .pointer (some ⟨b, o, none⟩), .pointer none, .pointer none] 106)).alloc (.cells #[.int .i64 k2, .int .i64 n2, .string t2, .bool b2] 92)) := ((Below.refl _ _).alloc (Nat.le_refl _) _).alloc (by simp) _
  have hc3 := (B2.cell (p := ⟨b, o, none⟩) hb).trans hc
  have hz3 := (B2.frozen (p := ⟨b, o, none⟩) hb).trans hz
  clear h ho hv hc hz B2
  go_enter Tryd.func78, Tryd.ntmps78
  go_wp2
  go_end0
  exact ⟨⟨_, rfl⟩, ((Below.refl _ _).alloc (by simp [World.setCell]) _).alloc (by simp [World.setCell]; try omega) _⟩
set_option maxRecDepth 100000 in
set_option maxHeartbeats 1000000 in
theorem set_2 (kind : Int) (k2 n2 : Int) (t2 : ByteArray) (b2 : Bool) (b o : Nat) (cs : Array Value) (t : TypeId) (w : World) (h : w.heap[b]? = some (.cells cs t (0, 0))) (ho : o < cs.size) : Calls Tryd.prog 78 #[.agg #[.int .i64 kind, .pointer none, .pointer none, .pointer (some ⟨b, o, none⟩), .pointer none], .agg #[.int .i64 k2, .int .i64 n2, .string t2, .bool b2]] w fun e w' => (∃ v, e = .returned v) ∧ Below w.heap.size (w.setCell ⟨b, o, none⟩ (.string t2)) w' := by
  have hb := (Array.getElem?_eq_some_iff.1 h).1
  obtain ⟨v, hv⟩ : ∃ v, cs[o]? = some v := ⟨_, Array.getElem?_eq_getElem ho⟩
  have hc := (cell_of_row _ _ o _ _ _ h).trans hv
  have hz := frozen_of_row _ _ o _ _ h
  have HB := Lib.hid h
  have B2 : Below w.heap.size w ((w.alloc (.cells #[.int .i64 kind, .pointer none, .pointer none, .pointer (some ⟨b, o, none⟩), .pointer none] 106)).alloc (.cells #[.int .i64 k2, .int .i64 n2, .string t2, .bool b2] 92)) := ((Below.refl _ _).alloc (Nat.le_refl _) _).alloc (by simp) _
  have hc3 := (B2.cell (p := ⟨b, o, none⟩) hb).trans hc
  have hz3 := (B2.frozen (p := ⟨b, o, none⟩) hb).trans hz
  clear h ho hv hc hz B2
  go_enter Tryd.func78, Tryd.ntmps78
  go_wp2
  go_end0
  exact ⟨⟨_, rfl⟩, ((Below.refl _ _).alloc (by simp [World.setCell]) _).alloc (by simp [World.setCell]; try omega) _⟩
set_option maxRecDepth 100000 in
set_option maxHeartbeats 1000000 in
theorem set_3 (kind : Int) (k2 n2 : Int) (t2 : ByteArray) (b2 : Bool) (b o : Nat) (cs : Array Value) (t : TypeId) (w : World) (h : w.heap[b]? = some (.cells cs t (0, 0))) (ho : o < cs.size) : Calls Tryd.prog 78 #[.agg #[.int .i64 kind, .pointer none, .pointer none, .pointer none, .pointer (some ⟨b, o, none⟩)], .agg #[.int .i64 k2, .int .i64 n2, .string t2, .bool b2]] w fun e w' => (∃ v, e = .returned v) ∧ Below w.heap.size (w.setCell ⟨b, o, none⟩ (.bool b2)) w' := by
  have hb := (Array.getElem?_eq_some_iff.1 h).1
  obtain ⟨v, hv⟩ : ∃ v, cs[o]? = some v := ⟨_, Array.getElem?_eq_getElem ho⟩
  have hc := (cell_of_row _ _ o _ _ _ h).trans hv
  have hz := frozen_of_row _ _ o _ _ h
  have HB := Lib.hid h
  have B2 : Below w.heap.size w ((w.alloc (.cells #[.int .i64 kind, .pointer none, .pointer none, .pointer none, .pointer (some ⟨b, o, none⟩)] 106)).alloc (.cells #[.int .i64 k2, .int .i64 n2, .string t2, .bool b2] 92)) := ((Below.refl _ _).alloc (Nat.le_refl _) _).alloc (by simp) _
  have hc3 := (B2.cell (p := ⟨b, o, none⟩) hb).trans hc
  have hz3 := (B2.frozen (p := ⟨b, o, none⟩) hb).trans hz
  clear h ho hv hc hz B2
  go_enter Tryd.func78, Tryd.ntmps78
  go_wp2
  go_end0
  exact ⟨⟨_, rfl⟩, ((Below.refl _ _).alloc (by simp [World.setCell]) _).alloc (by simp [World.setCell]; try omega) _⟩
theorem small_any (a : Addr) (w : World) : Calls Tryd.prog 59 #[.pointer (some a)] w fun e w' => e = .returned (.agg #[.int .i64 1, .pointer none, .pointer (some a), .pointer none, .pointer none]) ∧ Below w.heap.size w w' := by
  go_enter Tryd.func59, Tryd.ntmps59
  go_wp2
  exact bodyPost_ret (v := .agg #[.int .i64 1, .pointer none, .pointer (some a), .pointer none, .pointer none]) (by simp [results, Tryd.results59, go_sem, *]) rfl ⟨rfl, (Below.refl _ _).alloc (Nat.le_refl _) _⟩
theorem whole_any (a : Addr) (w : World) : Calls Tryd.prog 60 #[.pointer (some a)] w fun e w' => e = .returned (.agg #[.int .i64 1, .pointer (some a), .pointer none, .pointer none, .pointer none]) ∧ Below w.heap.size w w' := by
  go_enter Tryd.func60, Tryd.ntmps60
  go_wp2
  exact bodyPost_ret (v := .agg #[.int .i64 1, .pointer (some a), .pointer none, .pointer none, .pointer none]) (by simp [results, Tryd.results60, go_sem, *]) rfl ⟨rfl, (Below.refl _ _).alloc (Nat.le_refl _) _⟩
theorem signed_any (a : Addr) (w : World) : Calls Tryd.prog 63 #[.pointer (some a)] w fun e w' => e = .returned (.agg #[.int .i64 2, .pointer (some a), .pointer none, .pointer none, .pointer none]) ∧ Below w.heap.size w w' := by
  go_enter Tryd.func63, Tryd.ntmps63
  go_wp2
  exact bodyPost_ret (v := .agg #[.int .i64 2, .pointer (some a), .pointer none, .pointer none, .pointer none]) (by simp [results, Tryd.results63, go_sem, *]) rfl ⟨rfl, (Below.refl _ _).alloc (Nat.le_refl _) _⟩
theorem truth_any (a : Addr) (w : World) : Calls Tryd.prog 62 #[.pointer (some a)] w fun e w' => e = .returned (.agg #[.int .i64 4, .pointer none, .pointer none, .pointer none, .pointer (some a)]) ∧ Below w.heap.size w w' := by
  go_enter Tryd.func62, Tryd.ntmps62
  go_wp2
  exact bodyPost_ret (v := .agg #[.int .i64 4, .pointer none, .pointer none, .pointer none, .pointer (some a)]) (by simp [results, Tryd.results62, go_sem, *]) rfl ⟨rfl, (Below.refl _ _).alloc (Nat.le_refl _) _⟩

end Go.Proofs.YtgnpjenpehfjbaaDoor

namespace Go.Proofs.YtgnpjenpehfjbaaDoor
open Go.RowKit

attribute [local go_sem] Oper.semAt_some

def nilP : Plc := ⟨0, 0, 0, 0⟩
def encP (ps : List Plc) (k : Nat) : Array Value := #[(ps.getD k nilP).val]
/-- a row of places from the head of block g on -/
def RowP (W : World) (g : Nat) (ps : List Plc) : Prop := ∀ i p, ps[i]? = some p → W.rangeAt g (i * 5) p.cells
theorem RowP.below {W W' : World} {g : Nat} {ps : List Plc} (h : RowP W g ps) (hg : g < W.heap.size) (hb : Below W.heap.size W W') : RowP W' g ps := fun i p hp j u hu => (hb.cell (p := ⟨g, i * 5 + j, none⟩) hg).trans (h i p hp j u hu)
theorem getP {ps : List Plc} {k : Nat} (h : k < ps.length) : ps[k]? = some (ps.getD k nilP) := by
  rw [List.getD_eq_getElem?_getD, List.getElem?_eq_getElem h]; rfl
def InvV (q g cap : Nat) (ps : List Plc) (W : World) : Prop := W.heap[q]? = some (.cells #[.slice (some ⟨g, 0, none⟩) ps.length cap] 109 (0, 0)) ∧ g < W.heap.size ∧ RowP W g ps

set_option maxRecDepth 100000 in
set_option maxHeartbeats 2000000 in
theorem values1_iter (q g cap : Nat) (ps : List Plc) (hn : ps.length ≤ 1000000) (m : Nat) :
    Iterates Fence.wide m Tryd.prog 76 #[.pointer (some ⟨q, 0, none⟩)] (encP ps) (InvV q g cap ps) (fun pre k _ => pre = List.range k ∧ k < ps.length) (fun xs => xs = List.range ps.length) (fun pre => ∃ k, k < ps.length ∧ pre = List.range (k + 1)) := by
  intro yl J Jx W hJ hInv hY h0
  have HJ := Lib.hid hJ
  have HY := Lib.hid hY
  have HV := Lib.hid hInv
  obtain ⟨hq, -, -⟩ := hInv _ _ h0
  clear hJ hY hInv
  obtain ⟨n, hnn⟩ : ∃ n, n = ps.length := ⟨_, rfl⟩
  rw [← hnn] at hq hn
  have NN := Lib.hid hnn
  clear hnn
  have c1 := cell_of_row _ _ 0 _ _ _ hq
  refine callsIn_of_wp Tryd.func76 rfl trivial ?_ rfl
  simp only [Tryd.ntmps76, List.size_toArray, List.length_cons, List.length_nil, Nat.reduceAdd, Nat.reduceSub, Array.replicate_succ, Array.replicate_zero, List.push_toArray, List.append_toArray, List.nil_append, List.cons_append]
  gi_wp2
  clear c1 hq
  gi_loopw [7] (fun i wr => ∃ k : Nat, k ≤ n ∧ i = .int .i64 (k : Int) ∧ Hid (J (List.range k) wr)) (fun i _ => n - (intOf i).toNat)
  case atStart => exact ⟨0, Nat.zero_le _, rfl, h0⟩
  case round =>
    obtain ⟨k, hk, rfl, HI⟩ := hrel
    have hV := HV.out _ _ HI.out
    by_cases hlt : k < n
    · have hkx : k < ps.length := by have := NN.out; omega
      obtain ⟨⟨kd, st, pb, po⟩, hp⟩ : ∃ p, p = ps.getD k nilP := ⟨_, rfl⟩
      have hr := hV.2.2 k _ (getP hkx)
      rw [← hp] at hr
      have HE : Hid (encP ps k = #[(⟨kd, st, pb, po⟩ : Plc).val]) := by show _ = _; unfold encP; rw [← hp]
      obtain ⟨x0, h0x⟩ : ∃ x, x = (if st = 0 then some (⟨pb, po, none⟩ : Addr) else none) := ⟨_, rfl⟩
      obtain ⟨x1, h1x⟩ : ∃ x, x = (if st = 1 then some (⟨pb, po, none⟩ : Addr) else none) := ⟨_, rfl⟩
      obtain ⟨x2, h2x⟩ : ∃ x, x = (if st = 2 then some (⟨pb, po, none⟩ : Addr) else none) := ⟨_, rfl⟩
      obtain ⟨x3, h3x⟩ : ∃ x, x = (if st = 3 then some (⟨pb, po, none⟩ : Addr) else none) := ⟨_, rfl⟩
      have hcs : (⟨kd, st, pb, po⟩ : Plc).cells = [.int .i64 kd, .pointer x0, .pointer x1, .pointer x2, .pointer x3] := by unfold Plc.cells Plc.ptr; rw [h0x, h1x, h2x, h3x]
      have HE2 : Hid (encP ps k = #[.agg #[.int .i64 kd, .pointer x0, .pointer x1, .pointer x2, .pointer x3]]) := by show _ = _; rw [HE.out]; unfold Plc.val; rw [hcs]
      rw [hcs] at hr
      clear hcs h0x h1x h2x h3x hp
      have c0 := hr 0 _ rfl
      have c1 := hr 1 _ rfl
      have c2 := hr 2 _ rfl
      have c3 := hr 3 _ rfl
      have c4 := hr 4 _ rfl
      rw [Nat.add_zero] at c0
      have hkn : 0 ≤ (k : Int) ∧ (k : Int) < (n : Int) := by omega
      clear hr hV hkx
      have G1 : Hid (Below wr.heap.size wr (wr.alloc (.cells #[.int .i64 kd, .pointer x0, .pointer x1, .pointer x2, .pointer x3] 106))) := bel_alloc (Below.refl _ _) (Nat.le_refl _)
      have hJ1 := HJ.out _ _ _ HI.out G1.out
      obtain ⟨fn, tmps, assign, body, hy, hR⟩ := HY.out (List.range k) k _ hJ1 ⟨rfl, by have := NN.out; omega⟩
      rw [HE2.out] at hy
      gi_wp2
      refine ⟨wide_room _, ?_⟩
      refine hR.mono ?_
      rintro e w2 (⟨rfl, hJ2⟩ | ⟨rfl, hJ2⟩)
      · have HJ2 := Lib.hid hJ2
        clear hJ2 hR hy
        gi_wp2
        go_roundw
        case rel => exact ⟨k + 1, by omega, by go_num, by show J _ _; rw [List.range_succ]; exact HJ2.out⟩
        case measure => simp [intOf] <;> omega
      · have HJ2 := Lib.hid hJ2
        clear hJ2 hR hy
        gi_wp2
        refine bodyPost_ret (results_none rfl _ _ _) rfl ⟨⟨.tuple #[], rfl⟩, .inr ⟨_, ⟨k, by have := NN.out; omega, rfl⟩, ?_⟩⟩
        rw [List.range_succ]; exact HJ2.out
    · have hkn : k = n := by omega
      clear hV
      gi_wp2
      refine bodyPost_end (results_none rfl _ _ _) rfl ⟨⟨.tuple #[], rfl⟩, .inl ⟨_, rfl, ?_⟩⟩
      rw [← NN.out, ← hkn]
      exact HI.out

end Go.Proofs.YtgnpjenpehfjbaaDoor

namespace Go.Proofs.YtgnpjenpehfjbaaDoor
open Go.RowKit

def headP (pb cb : Nat) : List Plc := [⟨1, 1, pb, 0⟩, ⟨1, 1, pb, 1⟩, ⟨1, 1, pb, 2⟩, ⟨1, 0, pb, 3⟩, ⟨1, 0, pb, 4⟩, ⟨1, 0, pb, 5⟩, ⟨1, 0, pb, 6⟩, ⟨1, 1, cb, 0⟩]
def headC (pb cb : Nat) : Array Value := #[.int .i64 1, .pointer none, .pointer (some ⟨pb, 0, none⟩), .pointer none, .pointer none, .int .i64 1, .pointer none, .pointer (some ⟨pb, 1, none⟩), .pointer none, .pointer none, .int .i64 1, .pointer none, .pointer (some ⟨pb, 2, none⟩), .pointer none, .pointer none, .int .i64 1, .pointer (some ⟨pb, 3, none⟩), .pointer none, .pointer none, .pointer none, .int .i64 1, .pointer (some ⟨pb, 4, none⟩), .pointer none, .pointer none, .pointer none, .int .i64 1, .pointer (some ⟨pb, 5, none⟩), .pointer none, .pointer none, .pointer none, .int .i64 1, .pointer (some ⟨pb, 6, none⟩), .pointer none, .pointer none, .pointer none, .int .i64 1, .pointer none, .pointer (some ⟨cb, 0, none⟩), .pointer none, .pointer none]
theorem build_head (pb cb : Nat) (W : World) : (Instr.buildSlice 109 8 #[(0, .agg #[.int .i64 1, .pointer none, .pointer (some ⟨pb, 0, none⟩), .pointer none, .pointer none]), (1, .agg #[.int .i64 1, .pointer none, .pointer (some ⟨pb, 1, none⟩), .pointer none, .pointer none]), (2, .agg #[.int .i64 1, .pointer none, .pointer (some ⟨pb, 2, none⟩), .pointer none, .pointer none]), (3, .agg #[.int .i64 1, .pointer (some ⟨pb, 3, none⟩), .pointer none, .pointer none, .pointer none]), (4, .agg #[.int .i64 1, .pointer (some ⟨pb, 4, none⟩), .pointer none, .pointer none, .pointer none]), (5, .agg #[.int .i64 1, .pointer (some ⟨pb, 5, none⟩), .pointer none, .pointer none, .pointer none]), (6, .agg #[.int .i64 1, .pointer (some ⟨pb, 6, none⟩), .pointer none, .pointer none, .pointer none]), (7, .agg #[.int .i64 1, .pointer none, .pointer (some ⟨cb, 0, none⟩), .pointer none, .pointer none])]).run Tryd.prog W = .ok (.slice (some ⟨W.heap.size, 0, none⟩) 8 8) (W.alloc (.cells (headC pb cb) 106)) := by kernel_rfl
theorem values_calls (a : Option Addr) (n c : Nat) (w : World) : Calls Tryd.prog 58 #[.slice a n c] w fun e w' => e = .returned (.func (.func 76) #[] #[.pointer (some ⟨w.heap.size, 0, none⟩)]) ∧ w.alloc (.cells #[.slice a n c] 109) = w' := by
  go_enter Tryd.func58, Tryd.ntmps58
  go_wp2
  go_ret
  exact ⟨rfl, by trivial⟩
theorem exec_buildSlice {P : Program} {o : Oper} {a : Act} {W : World} (t : TypeId) (len : Nat) (parts : Array (Nat × Operand)) (ho : o.op = .buildSlice t len parts) (ps : Array (Nat × Value)) (hp : (parts.map fun (i, x) => (i, a.eval x)) = ps) (v : Value) (W' : World) (hr : (Instr.buildSlice t len ps).run P W = .ok v W') : (execOp a.eval o).run P W = .ok (.value v) W' := by
  subst hp
  unfold execOp
  simp only [ho, Sem.run_bind, hr, Result.andThen_ok]
  rfl
structure HeadJ (w : World) (pb cb : Nat) (d30 d31 d32 : Bool) (v30 v31 v32 : Value) (W : World) : Prop where
  low : Below w.heap.size w W
  row : d30 = true → ∃ g, v30 = .slice (some ⟨g, 0, none⟩) 8 8 ∧ W.heap[g]? = some (.cells (headC pb cb) 106 (0, 0))
  clo : d31 = true → ∃ q g, v31 = .func (.func 76) #[] #[.pointer (some ⟨q, 0, none⟩)] ∧ W.heap[q]? = some (.cells #[.slice (some ⟨g, 0, none⟩) 8 8] 109 (0, 0)) ∧ W.heap[g]? = some (.cells (headC pb cb) 106 (0, 0))
  ans : d32 = true → ∃ q g, v32 = .func (.func 76) #[] #[.pointer (some ⟨q, 0, none⟩)] ∧ W.heap[q]? = some (.cells #[.slice (some ⟨g, 0, none⟩) 8 8] 109 (0, 0)) ∧ W.heap[g]? = some (.cells (headC pb cb) 106 (0, 0))
theorem HeadJ.below {w : World} {pb cb : Nat} {d30 d31 d32 : Bool} {v30 v31 v32 : Value} {W W' : World} (h : HeadJ w pb cb d30 d31 d32 v30 v31 v32 W) (hb : Below W.heap.size W W') : HeadJ w pb cb d30 d31 d32 v30 v31 v32 W' := by
  refine ⟨h.low.trans (hb.mono h.low.size), fun e => ?_, fun e => ?_, fun e => ?_⟩
  · obtain ⟨g, h1, h2⟩ := h.row e
    exact ⟨g, h1, stays h2 hb⟩
  · obtain ⟨q, g, h1, h2, h3⟩ := h.clo e
    exact ⟨q, g, h1, stays h2 hb, stays h3 hb⟩
  · obtain ⟨q, g, h1, h2, h3⟩ := h.ans e
    exact ⟨q, g, h1, stays h2 hb, stays h3 hb⟩
theorem headC_row {W : World} {g pb cb : Nat} (h : W.heap[g]? = some (.cells (headC pb cb) 106 (0, 0))) : RowP W g (headP pb cb) := by
  intro i p hp j u hu
  rw [cell_of_row _ _ _ _ _ _ h]
  have hi : i < 8 := (List.getElem?_eq_some_iff.1 hp).1
  have hj : j < 5 := (List.getElem?_eq_some_iff.1 hu).1
  rcases (show i = 0 ∨ i = 1 ∨ i = 2 ∨ i = 3 ∨ i = 4 ∨ i = 5 ∨ i = 6 ∨ i = 7 by omega) with rfl | rfl | rfl | rfl | rfl | rfl | rfl | rfl <;> cases hp <;>
    rcases (show j = 0 ∨ j = 1 ∨ j = 2 ∨ j = 3 ∨ j = 4 by omega) with rfl | rfl | rfl | rfl | rfl <;> cases hu <;> rfl

set_option maxRecDepth 100000 in
set_option maxHeartbeats 4000000 in
theorem head_any (pb cb : Nat) (w : World) : Calls Tryd.prog 34 #[.pointer (some ⟨pb, 0, none⟩), .pointer (some ⟨cb, 0, none⟩)] w fun e w' => (∃ q g, e = .returned (.func (.func 76) #[] #[.pointer (some ⟨q, 0, none⟩)]) ∧ InvV q g 8 (headP pb cb) w') ∧ Below w.heap.size w w' := by
  go_enter Tryd.func34, Tryd.ntmps34
  go_wp2_with (fail)
  refine wpIn_wide (n := 5).1 (wpIn_flowM (F0 := Fence.wide) (n0 := 5) (fun _ => trivial) (fun h => by cases h) (by kernel_rfl) (by kernel_rfl) 33 33 (by kernel_rfl) (fun j => ([0, 1, 2, 3, 4, 5, 6, 7, 8, 9, 10, 11, 12, 13, 14, 15, 16, 17, 18, 19, 20, 21, 22, 23, 24, 25, 26, 27, 28, 29, 30, 31, 32] : List Nat).getD j 0) (fun j => ([5, 6, 7, 8, 9, 10, 11, 12, 13, 14, 15, 16, 17, 18, 19, 20, 21, 22, 23, 24, 25, 26, 27, 28, 29, 30, 31, 32, 33, 34, 35, 36, 4] : List Nat).getD j 0) (by kernel_rfl) (by kernel_rfl) (by kernel_rfl) (by kernel_rfl) (by kernel_rfl) (by kernel_rfl) (by kernel_rfl) (fun j zv => ([(fun zv => zv = (.pointer (some ⟨pb, 0, none⟩))), (fun zv => zv = (.pointer (some ⟨pb, 0, none⟩))), (fun zv => zv = (.pointer (some ⟨pb, 0, none⟩))), (fun zv => zv = (.agg #[.int .i64 1, .pointer none, .pointer (some ⟨pb, 0, none⟩), .pointer none, .pointer none])), (fun zv => zv = (.pointer (some ⟨pb, 0, none⟩))), (fun zv => zv = (.pointer (some ⟨pb, 0, none⟩))), (fun zv => zv = (.pointer (some ⟨pb, 1, none⟩))), (fun zv => zv = (.agg #[.int .i64 1, .pointer none, .pointer (some ⟨pb, 1, none⟩), .pointer none, .pointer none])), (fun zv => zv = (.pointer (some ⟨pb, 0, none⟩))), (fun zv => zv = (.pointer (some ⟨pb, 0, none⟩))), (fun zv => zv = (.pointer (some ⟨pb, 2, none⟩))), (fun zv => zv = (.agg #[.int .i64 1, .pointer none, .pointer (some ⟨pb, 2, none⟩), .pointer none, .pointer none])), (fun zv => zv = (.pointer (some ⟨pb, 0, none⟩))), (fun zv => zv = (.pointer (some ⟨pb, 0, none⟩))), (fun zv => zv = (.pointer (some ⟨pb, 3, none⟩))), (fun zv => zv = (.agg #[.int .i64 1, .pointer (some ⟨pb, 3, none⟩), .pointer none, .pointer none, .pointer none])), (fun zv => zv = (.pointer (some ⟨pb, 0, none⟩))), (fun zv => zv = (.pointer (some ⟨pb, 0, none⟩))), (fun zv => zv = (.pointer (some ⟨pb, 4, none⟩))), (fun zv => zv = (.agg #[.int .i64 1, .pointer (some ⟨pb, 4, none⟩), .pointer none, .pointer none, .pointer none])), (fun zv => zv = (.pointer (some ⟨pb, 0, none⟩))), (fun zv => zv = (.pointer (some ⟨pb, 0, none⟩))), (fun zv => zv = (.pointer (some ⟨pb, 5, none⟩))), (fun zv => zv = (.agg #[.int .i64 1, .pointer (some ⟨pb, 5, none⟩), .pointer none, .pointer none, .pointer none])), (fun zv => zv = (.pointer (some ⟨pb, 0, none⟩))), (fun zv => zv = (.pointer (some ⟨pb, 0, none⟩))), (fun zv => zv = (.pointer (some ⟨pb, 6, none⟩))), (fun zv => zv = (.agg #[.int .i64 1, .pointer (some ⟨pb, 6, none⟩), .pointer none, .pointer none, .pointer none])), (fun zv => zv = (.pointer (some ⟨cb, 0, none⟩))), (fun zv => zv = (.agg #[.int .i64 1, .pointer none, .pointer (some ⟨cb, 0, none⟩), .pointer none, .pointer none])), (fun zv => ∃ g, zv = .slice (some ⟨g, 0, none⟩) 8 8), (fun zv => ∃ q, zv = .func (.func 76) #[] #[.pointer (some ⟨q, 0, none⟩)]), (fun zv => ∃ q, zv = .func (.func 76) #[] #[.pointer (some ⟨q, 0, none⟩)])] : List (Value → Prop)).getD j (fun _ => True) zv) (fun d vs W => HeadJ w pb cb (d 30) (d 31) (d 32) (vs 30) (vs 31) (vs 32) W) ?h0a ?stepa ?fina)
  case h0a => exact fun _ => ⟨bdN w.heap.size w 1, (fun e => by cases e), (fun e => by cases e), (fun e => by cases e)⟩
  case stepa =>
    intro i o a W d vs hi ho hdi hJ hf hr hF
    replace hi : i < 33 := hi
    rcases (show i = 0 ∨ i = 1 ∨ i = 2 ∨ i = 3 ∨ i = 4 ∨ i = 5 ∨ i = 6 ∨ i = 7 ∨ i = 8 ∨ i = 9 ∨ i = 10 ∨ i = 11 ∨ i = 12 ∨ i = 13 ∨ i = 14 ∨ i = 15 ∨ i = 16 ∨ i = 17 ∨ i = 18 ∨ i = 19 ∨ i = 20 ∨ i = 21 ∨ i = 22 ∨ i = 23 ∨ i = 24 ∨ i = 25 ∨ i = 26 ∨ i = 27 ∨ i = 28 ∨ i = 29 ∨ i = 30 ∨ i = 31 ∨ i = 32 by omega) with rfl | rfl | rfl | rfl | rfl | rfl | rfl | rfl | rfl | rfl | rfl | rfl | rfl | rfl | rfl | rfl | rfl | rfl | rfl | rfl | rfl | rfl | rfl | rfl | rfl | rfl | rfl | rfl | rfl | rfl | rfl | rfl | rfl
    · replace ho := op_at ho (by rfl)
      subst ho
      have f0 : a.tmps.getD 0 undef = (.pointer (some ⟨pb, 0, none⟩)) := hf 0 (by kernel_rfl)
      exact .inl ⟨(fun k b h => by cases h), .inl ⟨0, by decide, rfl, (.pointer (some ⟨pb, 0, none⟩)), W, (by simp [go_sem, Act.eval, f0]), rfl, hJ⟩⟩
    · replace ho := op_at ho (by rfl)
      subst ho
      have d0 : a.tmps.getD 5 undef = (.pointer (some ⟨pb, 0, none⟩)) := by have h1 := hF 0 (by decide) (hr 0 (by kernel_rfl)); exact h1.2.trans h1.1
      exact .inl ⟨(fun k b h => by cases h), .inl ⟨1, by decide, rfl, (.pointer (some ⟨pb, 0, none⟩)), W, (by simp [go_sem, Act.eval, d0]), rfl, hJ⟩⟩
    · replace ho := op_at ho (by rfl)
      subst ho
      have d1 : a.tmps.getD 6 undef = (.pointer (some ⟨pb, 0, none⟩)) := by have h1 := hF 1 (by decide) (hr 1 (by kernel_rfl)); exact h1.2.trans h1.1
      exact .inl ⟨(fun k b h => by cases h), .inl ⟨2, by decide, rfl, (.pointer (some ⟨pb, 0, none⟩)), W, (by simp [go_sem, Act.eval, d1]), rfl, hJ⟩⟩
    · replace ho := op_at ho (by rfl)
      subst ho
      have d2 : a.tmps.getD 7 undef = (.pointer (some ⟨pb, 0, none⟩)) := by have h1 := hF 2 (by decide) (hr 2 (by kernel_rfl)); exact h1.2.trans h1.1
      refine .inl ⟨(fun k b h => by cases h), .inr (.inr ⟨3, by decide, rfl, 59, #[(.pointer (some ⟨pb, 0, none⟩))], W, (by simp [go_sem, Act.eval, d2]), ?_⟩)⟩
      refine (callsIn_wide.2 (small_any _ W)).mono ?_
      rintro e W' ⟨rfl, hBe⟩
      exact ⟨_, rfl, rfl, hJ.below hBe⟩
    · replace ho := op_at ho (by rfl)
      subst ho
      have f0 : a.tmps.getD 0 undef = (.pointer (some ⟨pb, 0, none⟩)) := hf 0 (by kernel_rfl)
      exact .inl ⟨(fun k b h => by cases h), .inl ⟨4, by decide, rfl, (.pointer (some ⟨pb, 0, none⟩)), W, (by simp [go_sem, Act.eval, f0]), rfl, hJ⟩⟩
    · replace ho := op_at ho (by rfl)
      subst ho
      have d4 : a.tmps.getD 9 undef = (.pointer (some ⟨pb, 0, none⟩)) := by have h1 := hF 4 (by decide) (hr 4 (by kernel_rfl)); exact h1.2.trans h1.1
      exact .inl ⟨(fun k b h => by cases h), .inl ⟨5, by decide, rfl, (.pointer (some ⟨pb, 0, none⟩)), W, (by simp [go_sem, Act.eval, d4]), rfl, hJ⟩⟩
    · replace ho := op_at ho (by rfl)
      subst ho
      have d5 : a.tmps.getD 10 undef = (.pointer (some ⟨pb, 0, none⟩)) := by have h1 := hF 5 (by decide) (hr 5 (by kernel_rfl)); exact h1.2.trans h1.1
      exact .inl ⟨(fun k b h => by cases h), .inl ⟨6, by decide, rfl, (.pointer (some ⟨pb, 1, none⟩)), W, (by simp [go_sem, Act.eval, d5]), rfl, hJ⟩⟩
    · replace ho := op_at ho (by rfl)
      subst ho
      have d6 : a.tmps.getD 11 undef = (.pointer (some ⟨pb, 1, none⟩)) := by have h1 := hF 6 (by decide) (hr 6 (by kernel_rfl)); exact h1.2.trans h1.1
      refine .inl ⟨(fun k b h => by cases h), .inr (.inr ⟨7, by decide, rfl, 59, #[(.pointer (some ⟨pb, 1, none⟩))], W, (by simp [go_sem, Act.eval, d6]), ?_⟩)⟩
      refine (callsIn_wide.2 (small_any _ W)).mono ?_
      rintro e W' ⟨rfl, hBe⟩
      exact ⟨_, rfl, rfl, hJ.below hBe⟩
    · replace ho := op_at ho (by rfl)
      subst ho
      have f0 : a.tmps.getD 0 undef = (.pointer (some ⟨pb, 0, none⟩)) := hf 0 (by kernel_rfl)
      exact .inl ⟨(fun k b h => by cases h), .inl ⟨8, by decide, rfl, (.pointer (some ⟨pb, 0, none⟩)), W, (by simp [go_sem, Act.eval, f0]), rfl, hJ⟩⟩
    · replace ho := op_at ho (by rfl)
      subst ho
      have d8 : a.tmps.getD 13 undef = (.pointer (some ⟨pb, 0, none⟩)) := by have h1 := hF 8 (by decide) (hr 8 (by kernel_rfl)); exact h1.2.trans h1.1
      exact .inl ⟨(fun k b h => by cases h), .inl ⟨9, by decide, rfl, (.pointer (some ⟨pb, 0, none⟩)), W, (by simp [go_sem, Act.eval, d8]), rfl, hJ⟩⟩
    · replace ho := op_at ho (by rfl)
      subst ho
      have d9 : a.tmps.getD 14 undef = (.pointer (some ⟨pb, 0, none⟩)) := by have h1 := hF 9 (by decide) (hr 9 (by kernel_rfl)); exact h1.2.trans h1.1
      exact .inl ⟨(fun k b h => by cases h), .inl ⟨10, by decide, rfl, (.pointer (some ⟨pb, 2, none⟩)), W, (by simp [go_sem, Act.eval, d9]), rfl, hJ⟩⟩
    · replace ho := op_at ho (by rfl)
      subst ho
      have d10 : a.tmps.getD 15 undef = (.pointer (some ⟨pb, 2, none⟩)) := by have h1 := hF 10 (by decide) (hr 10 (by kernel_rfl)); exact h1.2.trans h1.1
      refine .inl ⟨(fun k b h => by cases h), .inr (.inr ⟨11, by decide, rfl, 59, #[(.pointer (some ⟨pb, 2, none⟩))], W, (by simp [go_sem, Act.eval, d10]), ?_⟩)⟩
      refine (callsIn_wide.2 (small_any _ W)).mono ?_
      rintro e W' ⟨rfl, hBe⟩
      exact ⟨_, rfl, rfl, hJ.below hBe⟩
    · replace ho := op_at ho (by rfl)
      subst ho
      have f0 : a.tmps.getD 0 undef = (.pointer (some ⟨pb, 0, none⟩)) := hf 0 (by kernel_rfl)
      exact .inl ⟨(fun k b h => by cases h), .inl ⟨12, by decide, rfl, (.pointer (some ⟨pb, 0, none⟩)), W, (by simp [go_sem, Act.eval, f0]), rfl, hJ⟩⟩
    · replace ho := op_at ho (by rfl)
      subst ho
      have d12 : a.tmps.getD 17 undef = (.pointer (some ⟨pb, 0, none⟩)) := by have h1 := hF 12 (by decide) (hr 12 (by kernel_rfl)); exact h1.2.trans h1.1
      exact .inl ⟨(fun k b h => by cases h), .inl ⟨13, by decide, rfl, (.pointer (some ⟨pb, 0, none⟩)), W, (by simp [go_sem, Act.eval, d12]), rfl, hJ⟩⟩
    · replace ho := op_at ho (by rfl)
      subst ho
      have d13 : a.tmps.getD 18 undef = (.pointer (some ⟨pb, 0, none⟩)) := by have h1 := hF 13 (by decide) (hr 13 (by kernel_rfl)); exact h1.2.trans h1.1
      exact .inl ⟨(fun k b h => by cases h), .inl ⟨14, by decide, rfl, (.pointer (some ⟨pb, 3, none⟩)), W, (by simp [go_sem, Act.eval, d13]), rfl, hJ⟩⟩
    · replace ho := op_at ho (by rfl)
      subst ho
      have d14 : a.tmps.getD 19 undef = (.pointer (some ⟨pb, 3, none⟩)) := by have h1 := hF 14 (by decide) (hr 14 (by kernel_rfl)); exact h1.2.trans h1.1
      refine .inl ⟨(fun k b h => by cases h), .inr (.inr ⟨15, by decide, rfl, 60, #[(.pointer (some ⟨pb, 3, none⟩))], W, (by simp [go_sem, Act.eval, d14]), ?_⟩)⟩
      refine (callsIn_wide.2 (whole_any _ W)).mono ?_
      rintro e W' ⟨rfl, hBe⟩
      exact ⟨_, rfl, rfl, hJ.below hBe⟩
    · replace ho := op_at ho (by rfl)
      subst ho
      have f0 : a.tmps.getD 0 undef = (.pointer (some ⟨pb, 0, none⟩)) := hf 0 (by kernel_rfl)
      exact .inl ⟨(fun k b h => by cases h), .inl ⟨16, by decide, rfl, (.pointer (some ⟨pb, 0, none⟩)), W, (by simp [go_sem, Act.eval, f0]), rfl, hJ⟩⟩
    · replace ho := op_at ho (by rfl)
      subst ho
      have d16 : a.tmps.getD 21 undef = (.pointer (some ⟨pb, 0, none⟩)) := by have h1 := hF 16 (by decide) (hr 16 (by kernel_rfl)); exact h1.2.trans h1.1
      exact .inl ⟨(fun k b h => by cases h), .inl ⟨17, by decide, rfl, (.pointer (some ⟨pb, 0, none⟩)), W, (by simp [go_sem, Act.eval, d16]), rfl, hJ⟩⟩
    · replace ho := op_at ho (by rfl)
      subst ho
      have d17 : a.tmps.getD 22 undef = (.pointer (some ⟨pb, 0, none⟩)) := by have h1 := hF 17 (by decide) (hr 17 (by kernel_rfl)); exact h1.2.trans h1.1
      exact .inl ⟨(fun k b h => by cases h), .inl ⟨18, by decide, rfl, (.pointer (some ⟨pb, 4, none⟩)), W, (by simp [go_sem, Act.eval, d17]), rfl, hJ⟩⟩
    · replace ho := op_at ho (by rfl)
      subst ho
      have d18 : a.tmps.getD 23 undef = (.pointer (some ⟨pb, 4, none⟩)) := by have h1 := hF 18 (by decide) (hr 18 (by kernel_rfl)); exact h1.2.trans h1.1
      refine .inl ⟨(fun k b h => by cases h), .inr (.inr ⟨19, by decide, rfl, 60, #[(.pointer (some ⟨pb, 4, none⟩))], W, (by simp [go_sem, Act.eval, d18]), ?_⟩)⟩
      refine (callsIn_wide.2 (whole_any _ W)).mono ?_
      rintro e W' ⟨rfl, hBe⟩
      exact ⟨_, rfl, rfl, hJ.below hBe⟩
    · replace ho := op_at ho (by rfl)
      subst ho
      have f0 : a.tmps.getD 0 undef = (.pointer (some ⟨pb, 0, none⟩)) := hf 0 (by kernel_rfl)
      exact .inl ⟨(fun k b h => by cases h), .inl ⟨20, by decide, rfl, (.pointer (some ⟨pb, 0, none⟩)), W, (by simp [go_sem, Act.eval, f0]), rfl, hJ⟩⟩
    · replace ho := op_at ho (by rfl)
      subst ho
      have d20 : a.tmps.getD 25 undef = (.pointer (some ⟨pb, 0, none⟩)) := by have h1 := hF 20 (by decide) (hr 20 (by kernel_rfl)); exact h1.2.trans h1.1
      exact .inl ⟨(fun k b h => by cases h), .inl ⟨21, by decide, rfl, (.pointer (some ⟨pb, 0, none⟩)), W, (by simp [go_sem, Act.eval, d20]), rfl, hJ⟩⟩
    · replace ho := op_at ho (by rfl)
      subst ho
      have d21 : a.tmps.getD 26 undef = (.pointer (some ⟨pb, 0, none⟩)) := by have h1 := hF 21 (by decide) (hr 21 (by kernel_rfl)); exact h1.2.trans h1.1
      exact .inl ⟨(fun k b h => by cases h), .inl ⟨22, by decide, rfl, (.pointer (some ⟨pb, 5, none⟩)), W, (by simp [go_sem, Act.eval, d21]), rfl, hJ⟩⟩
    · replace ho := op_at ho (by rfl)
      subst ho
      have d22 : a.tmps.getD 27 undef = (.pointer (some ⟨pb, 5, none⟩)) := by have h1 := hF 22 (by decide) (hr 22 (by kernel_rfl)); exact h1.2.trans h1.1
      refine .inl ⟨(fun k b h => by cases h), .inr (.inr ⟨23, by decide, rfl, 60, #[(.pointer (some ⟨pb, 5, none⟩))], W, (by simp [go_sem, Act.eval, d22]), ?_⟩)⟩
      refine (callsIn_wide.2 (whole_any _ W)).mono ?_
      rintro e W' ⟨rfl, hBe⟩
      exact ⟨_, rfl, rfl, hJ.below hBe⟩
    · replace ho := op_at ho (by rfl)
      subst ho
      have f0 : a.tmps.getD 0 undef = (.pointer (some ⟨pb, 0, none⟩)) := hf 0 (by kernel_rfl)
      exact .inl ⟨(fun k b h => by cases h), .inl ⟨24, by decide, rfl, (.pointer (some ⟨pb, 0, none⟩)), W, (by simp [go_sem, Act.eval, f0]), rfl, hJ⟩⟩
    · replace ho := op_at ho (by rfl)
      subst ho
      have d24 : a.tmps.getD 29 undef = (.pointer (some ⟨pb, 0, none⟩)) := by have h1 := hF 24 (by decide) (hr 24 (by kernel_rfl)); exact h1.2.trans h1.1
      exact .inl ⟨(fun k b h => by cases h), .inl ⟨25, by decide, rfl, (.pointer (some ⟨pb, 0, none⟩)), W, (by simp [go_sem, Act.eval, d24]), rfl, hJ⟩⟩
    · replace ho := op_at ho (by rfl)
      subst ho
      have d25 : a.tmps.getD 30 undef = (.pointer (some ⟨pb, 0, none⟩)) := by have h1 := hF 25 (by decide) (hr 25 (by kernel_rfl)); exact h1.2.trans h1.1
      exact .inl ⟨(fun k b h => by cases h), .inl ⟨26, by decide, rfl, (.pointer (some ⟨pb, 6, none⟩)), W, (by simp [go_sem, Act.eval, d25]), rfl, hJ⟩⟩
    · replace ho := op_at ho (by rfl)
      subst ho
      have d26 : a.tmps.getD 31 undef = (.pointer (some ⟨pb, 6, none⟩)) := by have h1 := hF 26 (by decide) (hr 26 (by kernel_rfl)); exact h1.2.trans h1.1
      refine .inl ⟨(fun k b h => by cases h), .inr (.inr ⟨27, by decide, rfl, 60, #[(.pointer (some ⟨pb, 6, none⟩))], W, (by simp [go_sem, Act.eval, d26]), ?_⟩)⟩
      refine (callsIn_wide.2 (whole_any _ W)).mono ?_
      rintro e W' ⟨rfl, hBe⟩
      exact ⟨_, rfl, rfl, hJ.below hBe⟩
    · replace ho := op_at ho (by rfl)
      subst ho
      have f1 : a.tmps.getD 1 undef = (.pointer (some ⟨cb, 0, none⟩)) := hf 1 (by kernel_rfl)
      exact .inl ⟨(fun k b h => by cases h), .inl ⟨28, by decide, rfl, (.pointer (some ⟨cb, 0, none⟩)), W, (by simp [go_sem, Act.eval, f1]), rfl, hJ⟩⟩
    · replace ho := op_at ho (by rfl)
      subst ho
      have d28 : a.tmps.getD 33 undef = (.pointer (some ⟨cb, 0, none⟩)) := by have h1 := hF 28 (by decide) (hr 28 (by kernel_rfl)); exact h1.2.trans h1.1
      refine .inl ⟨(fun k b h => by cases h), .inr (.inr ⟨29, by decide, rfl, 59, #[(.pointer (some ⟨cb, 0, none⟩))], W, (by simp [go_sem, Act.eval, d28]), ?_⟩)⟩
      refine (callsIn_wide.2 (small_any _ W)).mono ?_
      rintro e W' ⟨rfl, hBe⟩
      exact ⟨_, rfl, rfl, hJ.below hBe⟩
    · replace ho := op_at ho (by rfl)
      subst ho
      have d3 : a.tmps.getD 8 undef = (.agg #[.int .i64 1, .pointer none, .pointer (some ⟨pb, 0, none⟩), .pointer none, .pointer none]) := by have h1 := hF 3 (by decide) (hr 3 (by kernel_rfl)); exact h1.2.trans h1.1
      have d7 : a.tmps.getD 12 undef = (.agg #[.int .i64 1, .pointer none, .pointer (some ⟨pb, 1, none⟩), .pointer none, .pointer none]) := by have h1 := hF 7 (by decide) (hr 7 (by kernel_rfl)); exact h1.2.trans h1.1
      have d11 : a.tmps.getD 16 undef = (.agg #[.int .i64 1, .pointer none, .pointer (some ⟨pb, 2, none⟩), .pointer none, .pointer none]) := by have h1 := hF 11 (by decide) (hr 11 (by kernel_rfl)); exact h1.2.trans h1.1
      have d15 : a.tmps.getD 20 undef = (.agg #[.int .i64 1, .pointer (some ⟨pb, 3, none⟩), .pointer none, .pointer none, .pointer none]) := by have h1 := hF 15 (by decide) (hr 15 (by kernel_rfl)); exact h1.2.trans h1.1
      have d19 : a.tmps.getD 24 undef = (.agg #[.int .i64 1, .pointer (some ⟨pb, 4, none⟩), .pointer none, .pointer none, .pointer none]) := by have h1 := hF 19 (by decide) (hr 19 (by kernel_rfl)); exact h1.2.trans h1.1
      have d23 : a.tmps.getD 28 undef = (.agg #[.int .i64 1, .pointer (some ⟨pb, 5, none⟩), .pointer none, .pointer none, .pointer none]) := by have h1 := hF 23 (by decide) (hr 23 (by kernel_rfl)); exact h1.2.trans h1.1
      have d27 : a.tmps.getD 32 undef = (.agg #[.int .i64 1, .pointer (some ⟨pb, 6, none⟩), .pointer none, .pointer none, .pointer none]) := by have h1 := hF 27 (by decide) (hr 27 (by kernel_rfl)); exact h1.2.trans h1.1
      have d29 : a.tmps.getD 34 undef = (.agg #[.int .i64 1, .pointer none, .pointer (some ⟨cb, 0, none⟩), .pointer none, .pointer none]) := by have h1 := hF 29 (by decide) (hr 29 (by kernel_rfl)); exact h1.2.trans h1.1
      exact .inl ⟨(fun k b h => by cases h), .inl ⟨30, by decide, rfl, .slice (some ⟨W.heap.size, 0, none⟩) 8 8, W.alloc (.cells (headC pb cb) 106), (exec_buildSlice _ _ _ rfl _ (by simp only [List.map_toArray, List.map_cons, List.map_nil, Act.eval, d3, d7, d11, d15, d19, d23, d27, d29]) _ _ (build_head pb cb W)), ⟨_, rfl⟩, ⟨(hJ.below (new_block W _).1).low, fun _ => ⟨_, rfl, (new_block W _).2⟩, (hJ.below (new_block W _).1).clo, (hJ.below (new_block W _).1).ans⟩⟩⟩
    · replace ho := op_at ho (by rfl)
      subst ho
      obtain ⟨g30, e30⟩ := hF 30 (by decide) (hr 30 (by kernel_rfl))
      replace e30 : a.tmps.getD 35 undef = vs 30 := e30
      replace g30 : (fun zv => ∃ g, zv = .slice (some ⟨g, 0, none⟩) 8 8) (vs 30) := g30
      have h30 : d 30 = true := hr 30 (by kernel_rfl)
      obtain ⟨g, hg, hrow⟩ := hJ.row h30
      rw [hg] at e30
      refine .inl ⟨(fun k b h => by cases h), .inr (.inr ⟨31, by decide, rfl, 58, #[.slice (some ⟨g, 0, none⟩) 8 8], W, (by simp [go_sem, Act.eval, e30]), ?_⟩)⟩
      refine (callsIn_wide.2 (values_calls _ 8 8 W)).mono ?_
      rintro e W' ⟨rfl, rfl⟩
      exact ⟨_, rfl, ⟨_, rfl⟩, ⟨(hJ.below (new_block W _).1).low, (hJ.below (new_block W _).1).row, fun _ => ⟨_, _, rfl, (new_block W _).2, stays hrow (new_block W _).1⟩, (hJ.below (new_block W _).1).ans⟩⟩
    · replace ho := op_at ho (by rfl)
      subst ho
      obtain ⟨g31, e31⟩ := hF 31 (by decide) (hr 31 (by kernel_rfl))
      replace e31 : a.tmps.getD 36 undef = vs 31 := e31
      replace g31 : (fun zv => ∃ q, zv = .func (.func 76) #[] #[.pointer (some ⟨q, 0, none⟩)]) (vs 31) := g31
      have h31 : d 31 = true := hr 31 (by kernel_rfl)
      obtain ⟨q, g, hq, hq2, hq3⟩ := hJ.clo h31
      rw [hq] at e31
      exact .inl ⟨(fun k b h => by cases h), .inl ⟨32, by decide, rfl, .func (.func 76) #[] #[.pointer (some ⟨q, 0, none⟩)], W, (by simp [go_sem, Act.eval, e31]), ⟨_, rfl⟩, ⟨hJ.low, hJ.row, hJ.clo, fun _ => ⟨q, g, rfl, hq2, hq3⟩⟩⟩⟩
  case fina =>
    intro d vs Wa hall hJ hF
    have h0 : vs 0 = (.pointer (some ⟨pb, 0, none⟩)) := hF 0 (by decide)
    have h1 : vs 1 = (.pointer (some ⟨pb, 0, none⟩)) := hF 1 (by decide)
    have h2 : vs 2 = (.pointer (some ⟨pb, 0, none⟩)) := hF 2 (by decide)
    have h3 : vs 3 = (.agg #[.int .i64 1, .pointer none, .pointer (some ⟨pb, 0, none⟩), .pointer none, .pointer none]) := hF 3 (by decide)
    have h4 : vs 4 = (.pointer (some ⟨pb, 0, none⟩)) := hF 4 (by decide)
    have h5 : vs 5 = (.pointer (some ⟨pb, 0, none⟩)) := hF 5 (by decide)
    have h6 : vs 6 = (.pointer (some ⟨pb, 1, none⟩)) := hF 6 (by decide)
    have h7 : vs 7 = (.agg #[.int .i64 1, .pointer none, .pointer (some ⟨pb, 1, none⟩), .pointer none, .pointer none]) := hF 7 (by decide)
    have h8 : vs 8 = (.pointer (some ⟨pb, 0, none⟩)) := hF 8 (by decide)
    have h9 : vs 9 = (.pointer (some ⟨pb, 0, none⟩)) := hF 9 (by decide)
    have h10 : vs 10 = (.pointer (some ⟨pb, 2, none⟩)) := hF 10 (by decide)
    have h11 : vs 11 = (.agg #[.int .i64 1, .pointer none, .pointer (some ⟨pb, 2, none⟩), .pointer none, .pointer none]) := hF 11 (by decide)
    have h12 : vs 12 = (.pointer (some ⟨pb, 0, none⟩)) := hF 12 (by decide)
    have h13 : vs 13 = (.pointer (some ⟨pb, 0, none⟩)) := hF 13 (by decide)
    have h14 : vs 14 = (.pointer (some ⟨pb, 3, none⟩)) := hF 14 (by decide)
    have h15 : vs 15 = (.agg #[.int .i64 1, .pointer (some ⟨pb, 3, none⟩), .pointer none, .pointer none, .pointer none]) := hF 15 (by decide)
    have h16 : vs 16 = (.pointer (some ⟨pb, 0, none⟩)) := hF 16 (by decide)
    have h17 : vs 17 = (.pointer (some ⟨pb, 0, none⟩)) := hF 17 (by decide)
    have h18 : vs 18 = (.pointer (some ⟨pb, 4, none⟩)) := hF 18 (by decide)
    have h19 : vs 19 = (.agg #[.int .i64 1, .pointer (some ⟨pb, 4, none⟩), .pointer none, .pointer none, .pointer none]) := hF 19 (by decide)
    have h20 : vs 20 = (.pointer (some ⟨pb, 0, none⟩)) := hF 20 (by decide)
    have h21 : vs 21 = (.pointer (some ⟨pb, 0, none⟩)) := hF 21 (by decide)
    have h22 : vs 22 = (.pointer (some ⟨pb, 5, none⟩)) := hF 22 (by decide)
    have h23 : vs 23 = (.agg #[.int .i64 1, .pointer (some ⟨pb, 5, none⟩), .pointer none, .pointer none, .pointer none]) := hF 23 (by decide)
    have h24 : vs 24 = (.pointer (some ⟨pb, 0, none⟩)) := hF 24 (by decide)
    have h25 : vs 25 = (.pointer (some ⟨pb, 0, none⟩)) := hF 25 (by decide)
    have h26 : vs 26 = (.pointer (some ⟨pb, 6, none⟩)) := hF 26 (by decide)
    have h27 : vs 27 = (.agg #[.int .i64 1, .pointer (some ⟨pb, 6, none⟩), .pointer none, .pointer none, .pointer none]) := hF 27 (by decide)
    have h28 : vs 28 = (.pointer (some ⟨cb, 0, none⟩)) := hF 28 (by decide)
    have h29 : vs 29 = (.agg #[.int .i64 1, .pointer none, .pointer (some ⟨cb, 0, none⟩), .pointer none, .pointer none]) := hF 29 (by decide)
    have h30 : (fun zv => ∃ g, zv = .slice (some ⟨g, 0, none⟩) 8 8) (vs 30) := hF 30 (by decide)
    have h31 : (fun zv => ∃ q, zv = .func (.func 76) #[] #[.pointer (some ⟨q, 0, none⟩)]) (vs 31) := hF 31 (by decide)
    have h32 : (fun zv => ∃ q, zv = .func (.func 76) #[] #[.pointer (some ⟨q, 0, none⟩)]) (vs 32) := hF 32 (by decide)
    clear hF
    obtain ⟨q, g, hq1, hq2, hq3⟩ := hJ.ans (hall 32 (by decide))
    have LW := Lib.hid hJ.low
    have Q2 := Lib.hid hq2
    have Q3 := Lib.hid hq3
    clear hJ hq2 hq3 h30 h31 h32 hall
    show (_ : Exit → Act → World → Prop) Exit.normal (puts _ vs 33 _) Wa
    simp only [puts, h0, h1, h2, h3, h4, h5, h6, h7, h8, h9, h10, h11, h12, h13, h14, h15, h16, h17, h18, h19, h20, h21, h22, h23, h24, h25, h26, h27, h28, h29, List.getD_cons_zero, List.getD_cons_succ]
    clear h0 h1 h2 h3 h4 h5 h6 h7 h8 h9 h10 h11 h12 h13 h14 h15 h16 h17 h18 h19 h20 h21 h22 h23 h24 h25 h26 h27 h28 h29
    simp only [hq1]
    go_simp
    go_wp2
    go_ret
    exact ⟨⟨q, g, rfl, Q2.out, (Array.getElem?_eq_some_iff.1 Q3.out).1, headC_row Q3.out⟩, LW.out⟩

end Go.Proofs.YtgnpjenpehfjbaaDoor

namespace Go.Proofs.YtgnpjenpehfjbaaDoor
open Go.RowKit

/-- what a consumer with one box p of a slice may turn: the box, and the row that the slice has now -/
def BoxT (p : Nat) (W : World) (k : Nat) : Prop := k = p ∨ ∃ v t, W.heap[p]? = some (.cells #[v] t (0, 0)) ∧ v.ownBlock = some k
theorem BoxT.same {p : Nat} {W W' : World} (h : W'.heap[p]? = W.heap[p]?) {k : Nat} (hk : BoxT p W' k) : BoxT p W k := by
  rcases hk with rfl | ⟨v, t, h1, h2⟩
  · exact .inl rfl
  · exact .inr ⟨v, t, h ▸ h1, h2⟩

theorem OwnF.below {w w' : World} {B : Nat} {v : Value} {fs : List Fld} (h : OwnF w B v fs) (hb : Below w.heap.size w w') : OwnF w' B v fs :=
  World.ownsRow.kept h (row := none) ⟨hb.os, hb.tape, hb.output, hb.size, fun k hk _ => hb.block k hk⟩ (by
    cases hv : v.ownBlock with
    | none => exact .inl rfl
    | some k => exact .inr (by simp))
theorem OwnF.set {w : World} {B : Nat} {v : Value} {fs : List Fld} (h : OwnF w B v fs) {b o : Nat} (hb : b < B) {u : Value} : OwnF (w.setCell ⟨b, o, none⟩ u) B v fs := ownsRow_setCell_below (a := ⟨b, o, none⟩) h hb u
theorem OwnF.putO {w : World} {B : Nat} {v : Value} {fs : List Fld} (h : OwnF w B v fs) {l : Nat} {o : Obj} (o' : Obj) (hl : w.heap[l]? = some o) (hc : o.isCells = false) : OwnF (w.putObj l o') B v fs := ownsRow_putObj h o' hl hc
structure FJ (W0 : World) (p u : Nat) (kd : Int) (x0 x1 x2 x3 : Option Addr) (v : Value) (l : List Fld) (f : Fld) (d3 d4 d5 : Bool) (v3 v4 : Value) (W : World) : Prop where
  low : Below p W0 W
  siz : W0.heap.size ≤ W.heap.size
  oth : KeepsOthers W0 W
  pu : p < u
  o43 : d4 = true → d3 = true
  o54 : d5 = true → d4 = true
  pl : W.heap[u]? = some (.cells #[.int .i64 kd, .pointer x0, .pointer x1, .pointer x2, .pointer x3] 106 (0, 0))
  own0 : d4 = false → OwnF W (p + 1) v l
  lit : d3 = true → ∃ g, v3 = .slice (some ⟨g, 0, none⟩) 1 1 ∧ (d4 = false → W.heap[g]? = some (.cells f.cells.toArray 92 (0, 0)))
  own1 : d4 = true → OwnF W (p + 1) v4 (l ++ [f])
  box0 : d5 = false → W.heap[p]? = some (.cells #[v] 63 (0, 0))
  box1 : d5 = true → W.heap[p]? = some (.cells #[v4] 63 (0, 0))
  keep : ∀ k, k < W0.heap.size → k ≠ p → v.ownBlock ≠ some k → W.heap[k]? = W0.heap[k]?
  lies : d4 = true → ∀ g, v4.ownBlock = some g → v.ownBlock = some g ∨ W0.heap.size ≤ g
theorem FJ.start {W0 : World} {p u : Nat} {kd : Int} {x0 x1 x2 x3 : Option Addr} {v : Value} {l : List Fld} {f : Fld} {v3 v4 : Value} (ho : OwnF W0 (p + 1) v l) (hb : W0.heap[p]? = some (.cells #[v] 63 (0, 0))) (hu : W0.heap[u]? = some (.cells #[.int .i64 kd, .pointer x0, .pointer x1, .pointer x2, .pointer x3] 106 (0, 0))) (hpu : p < u) : FJ W0 p u kd x0 x1 x2 x3 v l f false false false v3 v4 W0.drew :=
  ⟨(Below.refl _ _).drew, Nat.le_refl _, KeepsOthers.drew _, hpu, (fun e => by cases e), (fun e => by cases e), hu, fun _ => ho, (fun e => by cases e), (fun e => by cases e), fun _ => hb, (fun e => by cases e), fun _ _ _ _ => rfl, (fun e => by cases e)⟩
theorem FJ.below {W0 : World} {p u : Nat} {kd : Int} {x0 x1 x2 x3 : Option Addr} {v : Value} {l : List Fld} {f : Fld} {d3 d4 d5 : Bool} {v3 v4 : Value} {W W' : World} (h : FJ W0 p u kd x0 x1 x2 x3 v l f d3 d4 d5 v3 v4 W) (hb : Below W.heap.size W W') : FJ W0 p u kd x0 x1 x2 x3 v l f d3 d4 d5 v3 v4 W' := by
  have hpu := h.pu
  have hus := (Array.getElem?_eq_some_iff.1 h.pl).1
  exact ⟨h.low.trans (hb.mono (by omega)), Nat.le_trans h.siz hb.size, h.oth.trans ⟨hb.size, fun k o hk _ => stays hk hb⟩, h.pu, h.o43, h.o54, stays h.pl hb, fun e => (h.own0 e).below hb,
    fun e => by obtain ⟨g, h1, h2⟩ := h.lit e; exact ⟨g, h1, fun e4 => stays (h2 e4) hb⟩, fun e => (h.own1 e).below hb, fun e => stays (h.box0 e) hb, fun e => stays (h.box1 e) hb, fun k hk h1 h2 => (hb.block k (Nat.lt_of_lt_of_le hk h.siz)).trans (h.keep k hk h1 h2), h.lies⟩
theorem FJ.builds {W0 : World} {p u : Nat} {kd : Int} {x0 x1 x2 x3 : Option Addr} {v : Value} {l : List Fld} {f : Fld} {d4 d5 : Bool} {v3 v3' v4 : Value} {W : World} (h : FJ W0 p u kd x0 x1 x2 x3 v l f false d4 d5 v3 v4 W) (hv : v3' = .slice (some ⟨W.heap.size, 0, none⟩) 1 1) : FJ W0 p u kd x0 x1 x2 x3 v l f true d4 d5 v3' v4 (W.alloc (.cells f.cells.toArray 92)) := by
  have e4 : d4 = false := by cases hd : d4 with | false => rfl | true => have := h.o43 hd; cases this
  have g := h.below (new_block W (.cells f.cells.toArray 92)).1
  exact ⟨g.low, g.siz, g.oth, g.pu, fun _ => rfl, g.o54, g.pl, g.own0, fun _ => ⟨_, hv, fun _ => (new_block W _).2⟩, g.own1, g.box0, g.box1, g.keep, g.lies⟩
theorem FJ.appends {W0 : World} {p u : Nat} {kd : Int} {x0 x1 x2 x3 : Option Addr} {v : Value} {l : List Fld} {f : Fld} {v3 v4 v4' : Value} {W W' : World} {d5 : Bool} (h : FJ W0 p u kd x0 x1 x2 x3 v l f true false d5 v3 v4 W) (ho : OwnF W' (p + 1) v4' (l ++ [f])) (hg : W.grownBy W' v.ownBlock) (hl : ∀ g, v4'.ownBlock = some g → v.ownBlock = some g ∨ W.heap.size ≤ g) : FJ W0 p u kd x0 x1 x2 x3 v l f true true d5 v3 v4' W' := by
  have e5 : d5 = false := by cases hd : d5 with | false => rfl | true => have := h.o54 hd; cases this
  have hown := h.own0 rfl
  have hge : ∀ k, v.ownBlock = some k → p + 1 ≤ k := fun k e => (World.ownsRow.lt hown k e).1
  have hpl := (Array.getElem?_eq_some_iff.1 (h.box0 e5)).1
  have hus := (Array.getElem?_eq_some_iff.1 h.pl).1
  have hrow : ∀ (j : Nat) (o : Obj), v.ownBlock = some j → W.heap[j]? = some o → ∃ cur, o = .cells cur 92 (0, 0) := by
    intro j o e hj
    rcases hown.2 with ⟨rfl, -⟩ | ⟨g, cap, cur, rfl, -, hg2, -⟩
    · cases e
    · cases e
      rw [hg2] at hj
      cases hj
      exact ⟨_, rfl⟩
  have huo : v.ownBlock ≠ some u := fun e => by
    obtain ⟨cur, hc⟩ := hrow u _ e h.pl
    cases hc
  refine ⟨h.low.grown hg (by omega) (fun k e => by have := hge k e; omega), Nat.le_trans h.siz hg.size, h.oth.trans (KeepsOthers.of_grownBy hg fun j o e hj => by obtain ⟨cur, rfl⟩ := hrow j o e hj; rfl), h.pu, fun _ => rfl, fun _ => rfl, ?_, (fun e => by cases e), fun e => by obtain ⟨g, h1, -⟩ := h.lit e; exact ⟨g, h1, fun e => by cases e⟩, fun _ => ho, fun _ => ?_, (fun e => by rw [e5] at e; cases e), fun k hk h1 h2 => (hg.block k (Nat.lt_of_lt_of_le hk h.siz) (fun e => h2 e.symm)).trans (h.keep k hk h1 h2), fun _ g hgg => ?_⟩
  · exact (hg.block u hus (fun e => huo e.symm)).trans h.pl
  · exact (hg.block p hpl (fun e => by have := hge p e.symm; omega)).trans (h.box0 e5)
  · rcases hl g hgg with h1 | h1
    · exact .inl h1
    · exact .inr (Nat.le_trans h.siz h1)
theorem FJ.stores {W0 : World} {p u : Nat} {kd : Int} {x0 x1 x2 x3 : Option Addr} {v : Value} {l : List Fld} {f : Fld} {v3 v4 : Value} {W : World} (h : FJ W0 p u kd x0 x1 x2 x3 v l f true true false v3 v4 W) : FJ W0 p u kd x0 x1 x2 x3 v l f true true true v3 v4 (W.setCell ⟨p, 0, none⟩ v4) := by
  have hpu := h.pu
  exact ⟨bel_set (Nat.le_refl _) h.low, by simpa [World.setCell] using h.siz, h.oth.trans (KeepsOthers.setCell _ _ _), h.pu, fun _ => rfl, fun _ => rfl, (set_other _ _ _ _ _ (by omega)).trans h.pl, (fun e => by cases e), (fun e => by obtain ⟨g, h1, -⟩ := h.lit e; exact ⟨g, h1, fun e => by cases e⟩),
    fun e => (h.own1 e).set (by omega), (fun e => by cases e), fun _ => set_block W p 0 _ _ v4 (h.box0 rfl), fun k hk h1 h2 => (set_other _ _ _ _ _ h1).trans (h.keep k hk h1 h2), h.lies⟩
/-- append(s, f) of fields, as one operation -/
theorem op_append_fld (s x : Nat) (a : Act) (w : World) (base : Nat) (v : Value) (xs : List Fld) (g : Nat) (f : Fld) (hs : a.tmps.getD s undef = v) (hx : a.tmps.getD x undef = .slice (some ⟨g, 0, none⟩) 1 1) (hown : OwnF w base v xs) (hg : w.heap[g]? = some (.cells f.cells.toArray 92 (0, 0))) (hl : xs.length ≤ 1000000000) (hbase : base ≤ w.heap.size) :
    ∃ v' w', (∀ o : Oper, o.op = .call { callee := .builtin .append, args := #[.tmp s, .tmp x], argTypes := #[63, 63] } → o.type = 63 → (execOp a.eval o).run Tryd.prog w = .ok (.value v') w') ∧ OwnF w' base v' (xs ++ [f]) ∧ w.grownBy w' v.ownBlock ∧ ∀ g, v'.ownBlock = some g → v.ownBlock = some g ∨ w.heap.size ≤ g := by
  obtain ⟨i0, hi, hz0, hz1, hz2⟩ := info_parts info_field
  obtain ⟨g', cap', w', hr, h2, h3, h4, -⟩ := run_append_lies (P := Tryd.prog) w 63 63 base 92 i0 _ 4 40 Tryd.underlying63 hi hz0 hz1 hz2 rfl (by decide) v xs.length (xs.flatMap Fld.cells) hown ⟨g, 0, none⟩ 1 1 f.cells rfl
    (by
      intro j y hj
      have := cell_of_row w g j _ _ _ hg
      have e : (⟨g, 0, none⟩ : Addr).add j = ⟨g, j, none⟩ := by unfold Addr.add; split <;> simp_all
      rw [e, this]
      simpa using hj) (fld_cells f) (by omega) (by unfold maxLen; omega) (by omega) hbase _ rfl
  refine ⟨_, w', fun o ho hty => ?_, owns_snoc h2, h3, fun g hgg => ?_⟩
  rotate_left
  · simp only [Value.ownBlock, Option.some.injEq] at hgg
    subst hgg
    rcases h4 with h4 | h4
    · exact .inl h4
    · exact .inr (by omega)
  unfold execOp
  simp only [ho, hty, resolve, invoke, builtin, Sem.run_bind, Sem.run_pure, Result.andThen_ok, List.map_toArray, List.map_cons, List.map_nil, Act.eval, hs, hx, hr]

end Go.Proofs.YtgnpjenpehfjbaaDoor

namespace Go.Proofs.YtgnpjenpehfjbaaDoor
open Go.RowKit

attribute [local go_sem] Oper.semAt_some

def nilF : Fld := ⟨0, 0, [], false⟩
theorem build_fld (f : Fld) (W : World) : (Instr.buildSlice 63 1 #[(0, f.val)]).run Tryd.prog W = .ok (.slice (some ⟨W.heap.size, 0, none⟩) 1 1) (W.alloc (.cells f.cells.toArray 92)) := by kernel_rfl
theorem take_getD (fs : List Fld) (k : Nat) (h : k < fs.length) : fs.take (k + 1) = fs.take k ++ [fs.getD k nilF] := by
  rw [List.take_succ_eq_append_getElem h, List.getD_eq_getElem?_getD, List.getElem?_eq_getElem h]; rfl
def FI (w : World) (fs : List Fld) (k : Nat) (W : World) : Prop := Below w.heap.size w W ∧ ∃ v, W.heap[w.heap.size]? = some (.cells #[v] 63 (0, 0)) ∧ OwnF W (w.heap.size + 1) v (fs.take k)
theorem FI.below {w : World} {fs : List Fld} {k : Nat} {W W' : World} (h : FI w fs k W) (hb : Below W.heap.size W W') : FI w fs k W' := by
  obtain ⟨h1, v, h2, h3⟩ := h
  exact ⟨h1.trans (hb.mono h1.size), v, stays h2 hb, h3.below hb⟩
theorem FI.putO {w : World} {fs : List Fld} {k : Nat} {W : World} (h : FI w fs k W) {l : Nat} {o : Obj} (o' : Obj) (hn : w.heap.size ≤ l) (hl : W.heap[l]? = some o) (hc : o.isCells = false) : FI w fs k (W.putObj l o') := by
  obtain ⟨h1, v, h2, h3⟩ := h
  exact ⟨h1.grown (grownBy_putObj' W l o') h1.size (fun k e => by cases e; omega), v, row_put o' h2 hl hc, h3.putO o' hl hc⟩

set_option maxRecDepth 100000 in
set_option maxHeartbeats 4000000 in
theorem fields_any (gf : Nat) (lb : Array Value) (ps : List Plc) (fs : List Fld) (Inv : World → Prop) (Sp : List Nat → Prop) (eg : ∀ args w, (callFunc gf args).run Tryd.prog w = .ok (.enter gf args) w)
    (hit : ∀ m, IteratesT Fence.wide m Tryd.prog gf lb (encP ps) Inv (fun pre k _ => pre = List.range k ∧ k < ps.length) (fun xs => xs = List.range ps.length) Sp)
    (w : World) (hlen : fs.length = ps.length) (hn : ps.length ≤ 1000) (hInv : ∀ W, Below w.heap.size w W → Inv W)
    (hget : ∀ W k, Below w.heap.size w W → k < ps.length → Calls Tryd.prog 57 #[(ps.getD k nilP).val] W fun e w' => e = .returned (fs.getD k nilF).val ∧ Below W.heap.size W w') :
    Calls Tryd.prog 33 #[.func (.func gf) #[] lb] w fun e w' => ∃ v, e = .returned v ∧ OwnF w' w.heap.size v fs ∧ Below w.heap.size w w' := by
  have HINV := Lib.hid hInv
  have HGET := Lib.hid hget
  have HLEN := Lib.hid hlen
  clear hInv hget hlen
  obtain ⟨g0, k0⟩ := new_block w (.cells #[.slice none 0 0] 63)
  have h0 : FI w fs 0 (w.alloc (.cells #[.slice none 0 0] 63)) := ⟨g0, _, k0, by rw [List.take_zero]; exact World.ownsRow_nil _ _ _ _⟩
  have H0 := Lib.hid h0
  clear g0 k0 h0
  refine (callsIn_wide (n := 5)).1 ?_
  refine callsIn_of_wp_marks Tryd.func33 rfl trivial ?_ rfl
  simp only [Tryd.ntmps33, List.size_toArray, List.length_cons, List.length_nil, Nat.reduceAdd, Nat.reduceSub, Array.replicate_succ, Array.replicate_zero, List.push_toArray, List.append_toArray, List.nil_append, List.cons_append]
  gi_wp2
  obtain ⟨W0, hW0⟩ : ∃ W0, W0 = w.alloc (.cells #[.slice none 0 0] 63) := ⟨_, rfl⟩
  rw [← hW0] at H0 ⊢
  have SZ0 : Hid (W0.heap.size = w.heap.size + 1) := by show _ = _; rw [hW0]; simp
  clear hW0
  refine wpIn_range_T (F := Fence.wide) (n := 5) rfl (by omega) (gf := gf) (lb := lb) ?hg trivial eg (hit 4) (fun x => rfl) ?hRput
    (fun pre W => FI w fs pre.length W) (fun _ _ _ => False) (BoxT w.heap.size) ?hT1 ?hT2 ?hT3 ?hI ?hIp ?hIxp ?hInv ?h0
    (A := ?A) (fun (k : Nat) (u : Nat) (kd : Int) (x0 x1 x2 x3 : Option Addr) W => (ps.getD k nilP).val = .agg #[.int .i64 kd, .pointer x0, .pointer x1, .pointer x2, .pointer x3] ∧ W.heap[u]? = some (.cells #[.int .i64 kd, .pointer x0, .pointer x1, .pointer x2, .pointer x3] 106 (0, 0)) ∧ w.heap.size < u) ?hAxp ?assign ?body ?done ?stop
  case hg => rfl
  case hRput => exact fun pre x W l o o' h _ _ => h
  case hT1 =>
    rintro s' A ⟨-, v, hb, ho⟩ k (rfl | ⟨v', t', hb', hk⟩)
    · exact (Array.getElem?_eq_some_iff.1 hb).1
    · rw [hb] at hb'
      cases hb'
      exact (World.ownsRow.lt ho k hk).2
  case hT2 => exact fun s' A B h hb k hk => hk.same (hb.block _ (Array.getElem?_eq_some_iff.1 h.2.choose_spec.1).1)
  case hT3 =>
    intro s' A l o o' h hl ho hc k hk
    refine hk.same (World.putObj_heap_other fun e => ?_)
    obtain ⟨-, v, hb, -⟩ := h
    rw [e, ho] at hb
    cases hb
    cases hc
  case hI => exact fun s' A B h hb => h.below hb
  case hIp => exact fun s' A l o o' h hl ho hc => h.putO o' (by have := SZ0.out; omega) ho hc
  case hIxp => exact fun c s' A l o o' h _ _ _ => h
  case hInv => exact fun s' A h => HINV.out _ h.1
  case h0 => exact H0.out
  case hAxp =>
    rintro k u kd x0 x1 x2 x3 A l o o' ⟨h2, h3, h4⟩ hl ho hc
    exact ⟨h2, row_put o' h3 ho hc, h4⟩
  case assign =>
    rintro yl pre k W K hQ hR hK
    obtain ⟨⟨kd, st, pb, po⟩, hp⟩ : ∃ q, q = ps.getD k nilP := ⟨_, rfl⟩
    obtain ⟨x0, h0x⟩ : ∃ x, x = (if st = 0 then some (⟨pb, po, none⟩ : Addr) else none) := ⟨_, rfl⟩
    obtain ⟨x1, h1x⟩ : ∃ x, x = (if st = 1 then some (⟨pb, po, none⟩ : Addr) else none) := ⟨_, rfl⟩
    obtain ⟨x2, h2x⟩ : ∃ x, x = (if st = 2 then some (⟨pb, po, none⟩ : Addr) else none) := ⟨_, rfl⟩
    obtain ⟨x3, h3x⟩ : ∃ x, x = (if st = 3 then some (⟨pb, po, none⟩ : Addr) else none) := ⟨_, rfl⟩
    have hv : (⟨kd, st, pb, po⟩ : Plc).val = .agg #[.int .i64 kd, .pointer x0, .pointer x1, .pointer x2, .pointer x3] := by unfold Plc.val Plc.cells Plc.ptr; rw [h0x, h1x, h2x, h3x]
    simp only [encP]
    rw [← hp, hv]
    have HV : Hid ((ps.getD k nilP).val = .agg #[.int .i64 kd, .pointer x0, .pointer x1, .pointer x2, .pointer x3]) := by show _ = _; rw [← hp, hv]
    have HK := Lib.hid hK
    have HQ := Lib.hid hQ
    clear hK hQ hp hv h0x h1x h2x h3x
    gi_wp2
    have hQ1 := HQ.out.below (new_block W (.cells #[.int .i64 kd, .pointer x0, .pointer x1, .pointer x2, .pointer x3] 106)).1
    have k1 := (new_block W (.cells #[.int .i64 kd, .pointer x0, .pointer x1, .pointer x2, .pointer x3] 106)).2
    have hko := (new_block W (.cells #[.int .i64 kd, .pointer x0, .pointer x1, .pointer x2, .pointer x3] 106)).1
    have hlt : w.heap.size < W.heap.size := (Array.getElem?_eq_some_iff.1 HQ.out.2.choose_spec.1).1
    generalize W.heap.size = u at *
    exact HK.out u kd x0 x1 x2 x3 _ hko hQ1 hR ⟨HV.out, k1, hlt⟩
  case body =>
    rintro yl pre k u kd x0 x1 x2 x3 W ⟨hlow, v, hbox, hown⟩ ⟨hpre, hk⟩ ⟨hval, hrow, hu⟩
    have hlen : pre.length = k := by rw [hpre]; simp
    rw [hlen] at hown
    have HLN : Hid ((pre ++ [k]).length = k + 1) := by show _ = _; simp [hlen]
    have HK : Hid (k < ps.length) := hk
    have HLK : Hid ((fs.take k).length ≤ 1000000000) := by show _ ≤ _; have := List.length_take_le k fs; omega
    have hst := fun (x y : Value) => FJ.start (v3 := x) (v4 := y) (f := fs.getD k nilF) hown hbox hrow hu
    have HST := Lib.hid hst
    have hG := fun W' (hb : Below w.heap.size w W') => HGET.out W' k hb HK.out
    rw [hval] at hG
    have HG := Lib.hid hG
    have HLOW := Lib.hid hlow
    have HBX := Lib.hid hbox
    obtain ⟨ao, cap, hvf⟩ := owns_form hown
    clear hpre hk hlen hown hbox hrow hst hG hval hlow
    obtain ⟨f, hf⟩ : ∃ f, f = fs.getD k nilF := ⟨_, rfl⟩
    rw [← hf] at HST HG
    have HF := Lib.hid hf
    clear hf
    gi_wp2_with (fail)
    refine wpIn_flowM (F0 := Fence.wide.inRound yl) (n0 := _) (fun _ => trivial) (fun h => by cases h) (by kernel_rfl) (by kernel_rfl) 6 5 (by kernel_rfl) (fun j => ([0, 1, 2, 3, 4] : List Nat).getD j 0) (fun j => ([7, 8, 9, 10, 11] : List Nat).getD j 0) (by kernel_rfl) (by kernel_rfl) (by kernel_rfl) (by kernel_rfl) (by kernel_rfl) (by kernel_rfl) (by kernel_rfl) (fun j zv => ([(fun zv => zv = v), (fun zv => zv = (.agg #[.int .i64 kd, .pointer x0, .pointer x1, .pointer x2, .pointer x3])), (fun zv => zv = f.val), (fun zv => ∃ g, zv = .slice (some ⟨g, 0, none⟩) 1 1), (fun zv => ∃ ao cap, zv = .slice ao ((fs.take k).length + 1) cap)] : List (Value → Prop)).getD j (fun _ => True) zv) (fun d vs W' => FJ W w.heap.size u kd x0 x1 x2 x3 v (fs.take k) f (d 3) (d 4) (d 5) (vs 3) (vs 4) W' ∧ (d 4 = true → d 0 = true)) ?h0r ?stepr ?finr
    case h0r => exact fun vs => ⟨HST.out _ _, fun e => by cases e⟩
    case stepr =>
      intro i o a W d vs hi ho hdi hJ hf hr hF
      replace hi : i < 6 := hi
      rcases (show i = 0 ∨ i = 1 ∨ i = 2 ∨ i = 3 ∨ i = 4 ∨ i = 5 by omega) with rfl | rfl | rfl | rfl | rfl | rfl
      · replace ho := op_at ho (by rfl)
        subst ho
        have f3 : a.tmps.getD 3 undef = (.pointer (some ⟨w.heap.size, 0, none⟩)) := hf 3 (by kernel_rfl)
        have e4 : d 4 = false := by cases h : d 4 with | false => rfl | true => exact absurd (hJ.2 h) (by rw [hdi]; simp)
        have e5 : d 5 = false := by cases h : d 5 with | false => rfl | true => exact absurd (hJ.1.o54 h) (by rw [e4]; simp)
        have c0 := cell_of_row _ _ 0 _ _ _ (hJ.1.box0 e5)
        exact .inl ⟨(fun k b h => by cases h), .inl ⟨0, by decide, rfl, v, W, (by simp [go_sem, Act.eval, f3, c0]), rfl, ⟨hJ.1, fun _ => rfl⟩⟩⟩
      · replace ho := op_at ho (by rfl)
        subst ho
        have f4 : a.tmps.getD 4 undef = (.pointer (some ⟨u, 0, none⟩)) := hf 4 (by kernel_rfl)
        have c0 := cell_of_row _ _ 0 _ _ _ hJ.1.pl
        have c1 := cell_of_row _ _ 1 _ _ _ hJ.1.pl
        have c2 := cell_of_row _ _ 2 _ _ _ hJ.1.pl
        have c3 := cell_of_row _ _ 3 _ _ _ hJ.1.pl
        have c4 := cell_of_row _ _ 4 _ _ _ hJ.1.pl
        exact .inl ⟨(fun k b h => by cases h), .inl ⟨1, by decide, rfl, (.agg #[.int .i64 kd, .pointer x0, .pointer x1, .pointer x2, .pointer x3]), W, (by simp [go_sem, Act.eval, f4, c0, c1, c2, c3, c4]), rfl, hJ⟩⟩
      · replace ho := op_at ho (by rfl)
        subst ho
        have d1 : a.tmps.getD 8 undef = (.agg #[.int .i64 kd, .pointer x0, .pointer x1, .pointer x2, .pointer x3]) := by have h1 := hF 1 (by decide) (hr 1 (by kernel_rfl)); exact h1.2.trans h1.1
        refine .inl ⟨(fun k b h => by cases h), .inr (.inr ⟨2, by decide, rfl, 57, #[(.agg #[.int .i64 kd, .pointer x0, .pointer x1, .pointer x2, .pointer x3])], W, (by simp [go_sem, Act.eval, d1]), ?_⟩)⟩
        refine (CallsIn.inRound yl (callsIn_wide.2 (HG.out W (HLOW.out.trans hJ.1.low)))).mono ?_
        rintro e W' ⟨rfl, hBe⟩
        exact ⟨_, rfl, rfl, ⟨hJ.1.below hBe, hJ.2⟩⟩
      · replace ho := op_at ho (by rfl)
        subst ho
        have d2 : a.tmps.getD 9 undef = f.val := by have h1 := hF 2 (by decide) (hr 2 (by kernel_rfl)); exact h1.2.trans h1.1
        have h1 := hJ.1
        rw [hdi] at h1
        exact .inl ⟨(fun k b h => by cases h), .inl ⟨3, by decide, rfl, .slice (some ⟨W.heap.size, 0, none⟩) 1 1, _, (exec_buildSlice _ _ _ rfl _ (by simp only [List.map_toArray, List.map_cons, List.map_nil, Act.eval, d2]) _ _ (build_fld f W)), ⟨_, rfl⟩, ⟨h1.builds rfl, hJ.2⟩⟩⟩
      · replace ho := op_at ho (by rfl)
        subst ho
        have d0 : a.tmps.getD 7 undef = v := by have h1 := hF 0 (by decide) (hr 0 (by kernel_rfl)); exact h1.2.trans h1.1
        obtain ⟨g3, e3⟩ := hF 3 (by decide) (hr 3 (by kernel_rfl))
        replace e3 : a.tmps.getD 10 undef = vs 3 := e3
        replace g3 : (fun zv => ∃ g, zv = .slice (some ⟨g, 0, none⟩) 1 1) (vs 3) := g3
        have e3b : d 3 = true := hr 3 (by kernel_rfl)
        have e0b : d 0 = true := hr 0 (by kernel_rfl)
        have h1 := hJ.1
        rw [e3b, hdi] at h1
        obtain ⟨g, hg, hgr⟩ := h1.lit rfl
        rw [hg] at e3
        have hsz := h1.siz
        obtain ⟨v', W', hrun, ho2, hg2, hl2⟩ := op_append_fld 7 10 a W (w.heap.size + 1) v (fs.take k) g f d0 e3 (h1.own0 rfl) (hgr rfl) HLK.out (by have := (Array.getElem?_eq_some_iff.1 h1.pl).1; have := h1.pu; omega)
        refine .inl ⟨(fun k b h => by cases h), .inl ⟨4, by decide, rfl, v', W', hrun _ rfl rfl, ?_, ?_, fun _ => e0b⟩⟩
        · obtain ⟨ao, cap, h⟩ := owns_form ho2
          exact ⟨ao, cap, by rw [h]; simp⟩
        · show FJ _ _ _ _ _ _ _ _ _ _ _ (d 3) true (d 5) (vs 3) v' W'
          rw [e3b]; exact h1.appends ho2 hg2 hl2
      · replace ho := op_at ho (by rfl)
        subst ho
        obtain ⟨g4, e4⟩ := hF 4 (by decide) (hr 4 (by kernel_rfl))
        replace e4 : a.tmps.getD 11 undef = vs 4 := e4
        replace g4 : (fun zv => ∃ ao cap, zv = .slice ao ((fs.take k).length + 1) cap) (vs 4) := g4
        have f3 : a.tmps.getD 3 undef = (.pointer (some ⟨w.heap.size, 0, none⟩)) := hf 3 (by kernel_rfl)
        have e4b : d 4 = true := hr 4 (by kernel_rfl)
        have h1 := hJ.1
        have e3b := h1.o43 e4b
        rw [e3b, e4b, hdi] at h1
        obtain ⟨ao2, cap2, hu2⟩ := g4
        have c0 := cell_of_row _ _ 0 _ _ _ (h1.box0 rfl)
        have z0 := frozen_of_row _ _ 0 _ _ (h1.box0 rfl)
        have h2 := h1.stores
        rw [hu2] at e4 h2
        refine .inl ⟨(fun k b h => by cases h), .inr (.inl ⟨rfl, W.setCell ⟨w.heap.size, 0, none⟩ (.slice ao2 ((fs.take k).length + 1) cap2), (by simp [go_sem, Act.eval, e4, f3, c0, z0]), ?_, hJ.2⟩)⟩
        show FJ _ _ _ _ _ _ _ _ _ _ _ (d 3) (d 4) true (vs 3) (vs 4) _
        rw [e3b, e4b, hu2]; exact h2
    case finr =>
      intro d vs Wr hall hJ hF
      have h0 : vs 0 = v := hF 0 (by decide)
      have h1 : vs 1 = (.agg #[.int .i64 kd, .pointer x0, .pointer x1, .pointer x2, .pointer x3]) := hF 1 (by decide)
      have h2 : vs 2 = f.val := hF 2 (by decide)
      have h3 : (fun zv => ∃ g, zv = .slice (some ⟨g, 0, none⟩) 1 1) (vs 3) := hF 3 (by decide)
      have h4 : (fun zv => ∃ ao cap, zv = .slice ao ((fs.take k).length + 1) cap) (vs 4) := hF 4 (by decide)
      clear hF
      have h1 := hJ.1
      rw [hall 3 (by decide), hall 4 (by decide), hall 5 (by decide)] at h1
      have e6 : FI w fs (k + 1) Wr := by
        rw [HF.out] at h1
        refine ⟨HLOW.out.trans h1.low, vs 4, h1.box1 rfl, ?_⟩
        rw [take_getD fs k (by have := HK.out; have := HLEN.out; omega)]
        exact h1.own1 rfl
      have e7 : KeptT (BoxT w.heap.size) W Wr := by
        refine ⟨h1.siz, fun k hk hn => h1.keep k hk (fun e => hn (.inl e)) (fun e => hn (.inr ⟨_, _, HBX.out, e⟩)), fun k hk => ?_⟩
        rcases hk with rfl | ⟨v', t', hb', hkk⟩
        · exact .inl (.inl rfl)
        · rw [h1.box1 rfl] at hb'
          cases hb'
          rcases h1.lies rfl k hkk with h2 | h2
          · exact .inl (.inr ⟨_, _, HBX.out, h2⟩)
          · exact .inr h2
      refine ⟨h1.oth, e7, ?_⟩
      show FI w fs (pre ++ [k]).length Wr
      rw [HLN.out]
      exact e6
  case done =>
    rintro D xs W rfl ⟨hlow, v, hbox, hown⟩ hD hDn
    rw [List.length_range, ← HLEN.out, List.take_length] at hown
    have HOWN := Lib.hid hown
    have HBX := Lib.hid hbox
    have HLOW := Lib.hid hlow
    have HD := Lib.hid hD
    have HDN := Lib.hid hDn
    have c0 := cell_of_row _ _ 0 _ _ _ hbox
    clear hlow hbox hown hD hDn
    gi_wp2
    have hdd : Below w.heap.size w (W.putObj D (.deferred none)) := HLOW.out.grown (grownBy_putObj' W D _) HLOW.out.size (fun k e => by cases e; have := HDN.out; have := SZ0.out; omega)
    refine marks_ret1 rfl HD.out (v := v) ?_ ⟨v, rfl, owns_mono (HOWN.out.putO _ HD.out rfl) (by omega), hdd⟩
    simp [results, Tryd.results33, go_sem]
  case stop => exact fun D c pre W _ h _ _ => h.elim

end Go.Proofs.YtgnpjenpehfjbaaDoor

namespace Go.Proofs.YtgnpjenpehfjbaaDoor
open Go.RowKit

def nF (k : Int) (x : Int) : Fld := ⟨k, x, [], false⟩
def headF (p : Pkt) : List Fld := [nF 1 p.kind, nF 1 p.frm, nF 1 p.to, nF 1 p.boot, nF 1 p.life, nF 1 p.echo, nF 1 p.elife, nF 1 p.items.length]
def itemF (x : Itm) : List Fld := [⟨3, 0, x.name, false⟩, nF 1 x.epoch, nF 1 x.maker, ⟨4, 0, [], x.alive⟩, nF 1 x.kind, nF 1 x.scale, nF 1 x.ver, nF 1 x.writer, nF 2 x.flow, ⟨4, 0, [], x.hasRest⟩, nF 2 x.rest,
  ⟨4, 0, [], x.mn.has⟩, nF 2 x.mn.val, nF 1 x.mn.org, nF 1 x.mn.age, ⟨4, 0, [], x.mx.has⟩, nF 2 x.mx.val, nF 1 x.mx.org, nF 1 x.mx.age]
def bodyB (p : Pkt) : List UInt8 := (headF p).flatMap fbytes ++ p.items.flatMap fun x => (itemF x).flatMap fbytes
def encB (p : Pkt) : List UInt8 := if fitP p then frameOf (bodyB p) else []
theorem nF_right {x : Int} (h : 0 ≤ x) : rightB (nF 1 x) = true := by simp [rightB, nF, h]
theorem nF_ok {k x : Int} (h0 : -9223372036854775808 ≤ x) (h1 : x < 9223372036854775808) : FldOk (nF k x) := ⟨h0, h1, by simp [nF]⟩
theorem fit_bounds {p : Pkt} (h : fitP p = true) : (1 ≤ p.kind ∧ p.kind ≤ 5) ∧ (0 ≤ p.frm ∧ p.frm < 16) ∧ (0 ≤ p.to ∧ p.to < 16) ∧ (1 ≤ p.boot ∧ p.boot ≤ 1099511627776) ∧ (0 ≤ p.life ∧ p.life ≤ 1099511627776) ∧ (0 ≤ p.echo ∧ p.echo ≤ 1099511627776) ∧ (0 ≤ p.elife ∧ p.elife ≤ 1099511627776) ∧ p.items.length ≤ 8 := by
  unfold fitP hdrB echoB tailP at h
  simp only [Bool.and_eq_true, decide_eq_true_eq, nodeB_iff, inB_iff] at h
  obtain ⟨⟨h1, h2, h3, h4, -, h5, h6⟩, h7, h8⟩ := h
  have he : (0 ≤ p.echo ∧ p.echo ≤ 1099511627776) ∧ (0 ≤ p.elife ∧ p.elife ≤ 1099511627776) := by
    by_cases hk : p.kind = 1
    · rw [if_pos hk] at h7
      simp at h7
      omega
    · rw [if_neg hk] at h7
      simp only [Bool.and_eq_true, inB_iff] at h7
      omega
  have hl : p.items.length ≤ 8 := by
    by_cases hk : p.kind = 3 ∨ p.kind = 4
    · rw [if_pos hk] at h8
      simp at h8
      omega
    · rw [if_neg hk] at h8
      simp at h8
      rw [h8]; simp
  exact ⟨⟨h1, h2⟩, h3, h4, h5, h6, he.1, he.2, hl⟩
theorem headF_ok {p : Pkt} (h : fitP p = true) : (∀ f ∈ headF p, rightB f = true) ∧ ∀ f ∈ headF p, FldOk f := by
  obtain ⟨h1, h2, h3, h4, h5, h6, h7, h8⟩ := fit_bounds h
  constructor
  · intro f hf
    simp only [headF, List.mem_cons, List.not_mem_nil, or_false] at hf
    rcases hf with rfl | rfl | rfl | rfl | rfl | rfl | rfl | rfl <;> exact nF_right (by omega)
  · intro f hf
    simp only [headF, List.mem_cons, List.not_mem_nil, or_false] at hf
    rcases hf with rfl | rfl | rfl | rfl | rfl | rfl | rfl | rfl <;> exact nF_ok (by omega) (by omega)
theorem nF_len {x : Int} (h0 : 0 ≤ x) (h1 : x < 9223372036854775808) : (fbytes (nF 1 x)).length ≤ 10 := by
  have := (vint_len x.toNat (by omega)).2
  simpa [fbytes, nF] using this
theorem headF_len {p : Pkt} (h : fitP p = true) : ((headF p).flatMap fbytes).length ≤ 80 := by
  obtain ⟨h1, h2, h3, h4, h5, h6, h7, h8⟩ := fit_bounds h
  simp only [headF, List.flatMap_cons, List.flatMap_nil, List.length_append, List.length_nil]
  have e1 := nF_len (x := p.kind) (by omega) (by omega)
  have e2 := nF_len (x := p.frm) (by omega) (by omega)
  have e3 := nF_len (x := p.to) (by omega) (by omega)
  have e4 := nF_len (x := p.boot) (by omega) (by omega)
  have e5 := nF_len (x := p.life) (by omega) (by omega)
  have e6 := nF_len (x := p.echo) (by omega) (by omega)
  have e7 := nF_len (x := p.elife) (by omega) (by omega)
  have e8 := nF_len (x := (p.items.length : Int)) (by omega) (by omega)
  omega
theorem headF_bytes {p : Pkt} (h : fitP p = true) : fieldsB (headF p) = (headF p).flatMap fbytes := by
  unfold fieldsB
  rw [if_pos (List.all_eq_true.2 (headF_ok h).1)]
theorem InvV.below {q g cap : Nat} {ps : List Plc} {W W' : World} (h : InvV q g cap ps W) (hb : Below W.heap.size W W') : InvV q g cap ps W' :=
  ⟨stays h.1 hb, Nat.lt_of_lt_of_le h.2.1 hb.size, h.2.2.below h.2.1 hb⟩
/-- the head's places, read -/
theorem head_gets (p : Pkt) (v : Value) (pb cb : Nat) (W : World) (hp : W.heap[pb]? = some (.cells (p.cells v).toArray 24 (0, 0))) (hc : W.heap[cb]? = some (.cells #[.int .i64 (p.items.length : Int)] 3 (0, 0))) (k : Nat) (hk : k < (headP pb cb).length) :
    Calls Tryd.prog 57 #[((headP pb cb).getD k nilP).val] W fun e w' => e = .returned ((headF p).getD k nilF).val ∧ Below W.heap.size W w' := by
  have hpl := (Array.getElem?_eq_some_iff.1 hp).1
  have hcl := (Array.getElem?_eq_some_iff.1 hc).1
  have hk8 : k < 8 := hk
  rcases (show k = 0 ∨ k = 1 ∨ k = 2 ∨ k = 3 ∨ k = 4 ∨ k = 5 ∨ k = 6 ∨ k = 7 by omega) with rfl | rfl | rfl | rfl | rfl | rfl | rfl | rfl
  · exact get_1 1 p.kind pb 0 W hpl (cell_of_row _ _ 0 _ _ _ hp)
  · exact get_1 1 p.frm pb 1 W hpl (cell_of_row _ _ 1 _ _ _ hp)
  · exact get_1 1 p.to pb 2 W hpl (cell_of_row _ _ 2 _ _ _ hp)
  · exact get_0 1 p.boot pb 3 W hpl (cell_of_row _ _ 3 _ _ _ hp)
  · exact get_0 1 p.life pb 4 W hpl (cell_of_row _ _ 4 _ _ _ hp)
  · exact get_0 1 p.echo pb 5 W hpl (cell_of_row _ _ 5 _ _ _ hp)
  · exact get_0 1 p.elife pb 6 W hpl (cell_of_row _ _ 6 _ _ _ hp)
  · exact get_1 1 p.items.length cb 0 W hcl (cell_of_row _ _ 0 _ _ _ hc)
/-- the head's fields, out of the head's iterator -/
theorem head_fields (p : Pkt) (v : Value) (pb cb q g : Nat) (w : World) (hp : w.heap[pb]? = some (.cells (p.cells v).toArray 24 (0, 0))) (hc : w.heap[cb]? = some (.cells #[.int .i64 (p.items.length : Int)] 3 (0, 0))) (hi : InvV q g 8 (headP pb cb) w) :
    Calls Tryd.prog 33 #[.func (.func 76) #[] #[.pointer (some ⟨q, 0, none⟩)]] w fun e w' => ∃ v, e = .returned v ∧ OwnF w' w.heap.size v (headF p) ∧ Below w.heap.size w w' :=
  fields_any _ _ (headP pb cb) (headF p) (InvV q g 8 (headP pb cb)) _ (enters_of Tryd.func76 (by kernel_rfl) rfl) (fun m => (values1_iter q g 8 (headP pb cb) (by simp [headP]) m).toT) w rfl (by simp [headP])
    (fun W hb => hi.below hb) (fun W k hb hk => head_gets p v pb cb W (stays hp hb) (stays hc hb) k hk)

end Go.Proofs.YtgnpjenpehfjbaaDoor

namespace Go.Proofs.YtgnpjenpehfjbaaDoor
open Go.RowKit

set_option maxRecDepth 100000 in
set_option maxHeartbeats 4000000 in
theorem encode_none (kind frm to boot life echo elife : Int) (w : World) (ht : TabOK w) : Calls Tryd.prog 13 #[.agg #[.int .i64 kind, .int .i64 frm, .int .i64 to, .int .i64 boot, .int .i64 life, .int .i64 echo, .int .i64 elife, .slice none 0 0]] w fun e w' => ∃ u, e = .returned u ∧ Own w' w.heap.size u (encB ⟨kind, frm, to, boot, life, echo, elife, []⟩) ∧ Below w.heap.size w w' := by
  obtain ⟨p, hp⟩ : ∃ p : Pkt, p = ⟨kind, frm, to, boot, life, echo, elife, []⟩ := ⟨_, rfl⟩
  have HT := Lib.hid ht
  obtain ⟨g0, kb⟩ := new_block w (.cells #[.int .i64 kind, .int .i64 frm, .int .i64 to, .int .i64 boot, .int .i64 life, .int .i64 echo, .int .i64 elife, .slice none 0 0] 24)
  have hfit := fit_any p (.slice none 0 0) (w.alloc (.cells #[.int .i64 kind, .int .i64 frm, .int .i64 to, .int .i64 boot, .int .i64 life, .int .i64 echo, .int .i64 elife, .slice none 0 0] 24)) (by rw [hp]; exact Ims.nil _ _) (by rw [hp]; intro x hx; cases hx)
  have hpc : (p.cells (.slice none 0 0)).toArray = #[.int .i64 kind, .int .i64 frm, .int .i64 to, .int .i64 boot, .int .i64 life, .int .i64 echo, .int .i64 elife, .slice none 0 0] := by rw [hp]
  rw [hpc] at hfit
  have HPC : Hid ((p.cells (.slice none 0 0)).toArray = #[.int .i64 kind, .int .i64 frm, .int .i64 to, .int .i64 boot, .int .i64 life, .int .i64 echo, .int .i64 elife, .slice none 0 0]) := hpc
  have HIT : Hid (p.items = []) := by show _ = _; rw [hp]
  rw [← hp]
  have LB := Lib.hid g0
  have KB := Lib.hid kb
  clear g0 kb ht hp hpc
  have a0 := cell_of_row _ _ 0 _ _ _ KB.out
  cases hf : fitP p with
  | false =>
    rw [hf] at hfit
    have HE : Hid (encB p = []) := by show _ = _; unfold encB; rw [hf]; rfl
    have HF := Lib.hid hfit
    clear hfit hf a0
    go_enter Tryd.func13, Tryd.ntmps13
    go_wp2_with (fail)
    with_reducible refine HF.out.mono ?_
    rintro e w1 ⟨rfl, hB⟩
    have L1 := LB.out.trans (hB.mono LB.out.size)
    clear HF hB
    go_wp2
    go_ret
    exact ⟨.slice none 0 0, rfl, by rw [HE.out]; exact Own.nil _ _, L1⟩
  | true =>
    rw [hf] at hfit
    have HE : Hid (encB p = frameOf ((headF p).flatMap fbytes)) := by show _ = _; unfold encB bodyB; rw [hf, HIT.out]; simp
    have HF := Lib.hid hfit
    have HFT := Lib.hid hf
    clear hfit hf a0
    go_enter Tryd.func13, Tryd.ntmps13
    go_wp2_with (fail)
    with_reducible refine HF.out.mono ?_
    rintro e w1 ⟨rfl, hB⟩
    have L1 := Lib.hid (LB.out.trans (hB.mono LB.out.size))
    have KB1 := Lib.hid (stays KB.out hB)
    clear HF hB
    have c7 := cell_of_row _ _ 7 _ _ _ KB1.out
    obtain ⟨g2, k2⟩ := new_block w1 (.cells #[.int .i64 0] 3)
    have L2 := Lib.hid (L1.out.trans (g2.mono L1.out.size))
    have KB2 := Lib.hid (stays KB1.out g2)
    have KC2 := Lib.hid k2
    clear g2 k2
    have hcon := Lib.hid (head_any w.heap.size w1.heap.size (w1.alloc (.cells #[.int .i64 0] 3)))
    go_wp2_with (fail)
    with_reducible refine hcon.out.mono ?_
    rintro e w2 ⟨⟨q, g, rfl, hi⟩, hB⟩
    have L3 := Lib.hid (L2.out.trans (hB.mono L2.out.size))
    have hcon2 := Lib.hid (head_fields p (.slice none 0 0) w.heap.size w1.heap.size q g w2 (by rw [HPC.out]; exact stays KB2.out hB) (by rw [HIT.out]; exact stays KC2.out hB) hi)
    have KB3 := Lib.hid (stays KB2.out hB)
    clear hcon hi hB c7
    go_wp2_with (fail)
    with_reducible refine hcon2.out.mono ?_
    rintro e w3 ⟨vf, rfl, ho, hB⟩
    have L4 := Lib.hid (L3.out.trans (hB.mono L3.out.size))
    have KB4 := Lib.hid (stays KB3.out hB)
    have hcon3 := Lib.hid (code_Fields vf (headF p) w3 ho.flds (headF_ok HFT.out).2 (by have := headF_len HFT.out; omega) (by simp [headF]))
    obtain ⟨ao, cap, rfl⟩ := owns_form ho
    clear hcon2 ho hB
    go_wp2_with (fail)
    with_reducible refine hcon3.out.mono ?_
    rintro e w4 ⟨vb, rfl, ho, hB⟩
    rw [headF_bytes HFT.out] at ho
    have L5 := Lib.hid (L4.out.trans (hB.mono L4.out.size))
    have KB5 := Lib.hid (stays KB4.out hB)
    have hcon4 := Lib.hid (seal_Seal vb _ w4 w4.heap.size ho.bts (HT.out.below L5.out (by have := HT.out.lt; omega)) (Nat.le_refl _) (by have := headF_len HFT.out; omega))
    obtain ⟨ab, capb, hvb, -⟩ := ho.bts
    obtain ⟨nb, hnb⟩ : ∃ n, n = ((headF p).flatMap fbytes).length := ⟨_, rfl⟩
    rw [← hnb] at hvb
    subst hvb
    clear hnb
    have c7 := cell_of_row _ _ 7 _ _ _ KB5.out
    clear hcon3 ho hB
    go_wp2
    go_loop [4, 21] (fun b i => b = .slice ab nb capb ∧ i = .int .i64 0) (fun _ _ => 0)
    case atStart => exact ⟨rfl, rfl⟩
    case round =>
      obtain ⟨rfl, rfl⟩ := hrel
      go_wp2_with (fail)
      with_reducible refine hcon4.out.mono ?_
      rintro e w5 ⟨vs, rfl, ho, hB⟩
      have L6 := L5.out.trans (hB.mono L5.out.size)
      rw [← HE.out] at ho
      have HO := Lib.hid (ho.mono L5.out.size)
      clear hcon4 ho hB c7
      go_wp2
      go_ret
      exact ⟨vs, rfl, HO.out, L6⟩

end Go.Proofs.YtgnpjenpehfjbaaDoor

namespace Go.Proofs.YtgnpjenpehfjbaaDoor
open Go.RowKit

set_option maxRecDepth 100000 in
set_option maxHeartbeats 1000000 in
theorem decode_err (v : Value) (l : List UInt8) (w : World) (hb : Bts w w.heap.size v l) (ht : TabOK w) (e : Nat) (he : (openF l).2.2 = e) (hne : e ≠ 0) : Calls Tryd.prog 22 #[v] w fun x w' => x = .returned (.tuple #[.agg #[.int .i64 0, .int .i64 0, .int .i64 0, .int .i64 0, .int .i64 0, .int .i64 0, .int .i64 0, .slice none 0 0], .int .i64 (e : Int)]) ∧ Below w.heap.size w w' := by
  obtain ⟨ao, cap, rfl, _⟩ := id hb
  obtain ⟨g0, k0⟩ := new_block w (.cells #[.int .i64 0, .int .i64 0, .int .i64 0, .int .i64 0, .int .i64 0, .int .i64 0, .int .i64 0, .slice none 0 0] 24)
  have hcon := seal_Open (.slice ao l.length cap) l (w.alloc (.cells #[.int .i64 0, .int .i64 0, .int .i64 0, .int .i64 0, .int .i64 0, .int .i64 0, .int .i64 0, .slice none 0 0] 24)) (hb.below g0 g0.size) (ht.below g0 ht.lt)
  rw [he] at hcon
  have HCON := Lib.hid hcon
  have LB := Lib.hid g0
  have KB := Lib.hid k0
  have e1 : ((e : Int) != 0) = true := by simp; omega
  obtain ⟨n, hn⟩ : ∃ n, n = l.length := ⟨_, rfl⟩
  rw [← hn] at HCON ⊢
  clear g0 k0 hcon he hne hb ht hn
  go_enter Tryd.func22, Tryd.ntmps22
  go_wp2_with (fail)
  with_reducible refine HCON.out.mono ?_
  rintro x w1 ⟨v', rfl, ho, hB⟩
  obtain ⟨ab, capb, hvb, -⟩ := ho.bts
  obtain ⟨m, hm⟩ : ∃ m, m = (openF l).1.length := ⟨_, rfl⟩
  rw [← hm] at hvb
  subst hvb
  have L1 := Lib.hid (LB.out.trans (hB.mono LB.out.size))
  have K1 := stays KB.out hB
  have KF := Lib.hid K1
  clear HCON ho hm hB
  have c0 := cell_of_row _ _ 0 _ _ _ K1
  have c1 := cell_of_row _ _ 1 _ _ _ K1
  have c2 := cell_of_row _ _ 2 _ _ _ K1
  have c3 := cell_of_row _ _ 3 _ _ _ K1
  have c4 := cell_of_row _ _ 4 _ _ _ K1
  have c5 := cell_of_row _ _ 5 _ _ _ K1
  have c6 := cell_of_row _ _ 6 _ _ _ K1
  have c7 := cell_of_row _ _ 7 _ _ _ K1
  have z0 := frozen_of_row _ _ 0 _ _ K1
  have z1 := frozen_of_row _ _ 1 _ _ K1
  have z2 := frozen_of_row _ _ 2 _ _ K1
  have z3 := frozen_of_row _ _ 3 _ _ K1
  have z4 := frozen_of_row _ _ 4 _ _ K1
  have z5 := frozen_of_row _ _ 5 _ _ K1
  have z6 := frozen_of_row _ _ 6 _ _ K1
  have z7 := frozen_of_row _ _ 7 _ _ K1
  clear K1
  go_wp2
  obtain ⟨W, hW⟩ : ∃ W, W = ((((((((w1.setCell ⟨w.heap.size, 0, none⟩ (.int .i64 0)).setCell ⟨w.heap.size, 1, none⟩ (.int .i64 0)).setCell ⟨w.heap.size, 2, none⟩ (.int .i64 0)).setCell ⟨w.heap.size, 3, none⟩ (.int .i64 0)).setCell ⟨w.heap.size, 4, none⟩ (.int .i64 0)).setCell ⟨w.heap.size, 5, none⟩ (.int .i64 0)).setCell ⟨w.heap.size, 6, none⟩ (.int .i64 0)).setCell ⟨w.heap.size, 7, none⟩ (.slice none 0 0)) := ⟨_, rfl⟩
  have KW : W.heap[w.heap.size]? = some (.cells #[.int .i64 0, .int .i64 0, .int .i64 0, .int .i64 0, .int .i64 0, .int .i64 0, .int .i64 0, .slice none 0 0] 24 (0, 0)) := by
    rw [hW]
    exact set_block _ _ 7 _ _ _ (set_block _ _ 6 _ _ _ (set_block _ _ 5 _ _ _ (set_block _ _ 4 _ _ _ (set_block _ _ 3 _ _ _ (set_block _ _ 2 _ _ _ (set_block _ _ 1 _ _ _ (set_block _ _ 0 _ _ _ KF.out)))))))
  have LW : Below w.heap.size w W := by
    rw [hW]
    exact bel_set (Nat.le_refl _) (bel_set (Nat.le_refl _) (bel_set (Nat.le_refl _) (bel_set (Nat.le_refl _) (bel_set (Nat.le_refl _) (bel_set (Nat.le_refl _) (bel_set (Nat.le_refl _) (bel_set (Nat.le_refl _) L1.out)))))))
  rw [← hW]
  clear hW c0 c1 c2 c3 c4 c5 c6 c7 z0 z1 z2 z3 z4 z5 z6 z7
  have c0 := cell_of_row _ _ 0 _ _ _ KW
  have c1 := cell_of_row _ _ 1 _ _ _ KW
  have c2 := cell_of_row _ _ 2 _ _ _ KW
  have c3 := cell_of_row _ _ 3 _ _ _ KW
  have c4 := cell_of_row _ _ 4 _ _ _ KW
  have c5 := cell_of_row _ _ 5 _ _ _ KW
  have c6 := cell_of_row _ _ 6 _ _ _ KW
  have c7 := cell_of_row _ _ 7 _ _ _ KW
  exact bodyPost_ret (v := .tuple #[.agg #[.int .i64 0, .int .i64 0, .int .i64 0, .int .i64 0, .int .i64 0, .int .i64 0, .int .i64 0, .slice none 0 0], .int .i64 (e : Int)]) (by simp [results, Tryd.results22, go_sem, *]) rfl ⟨rfl, LW⟩

def E1 : List UInt8 := frameOf [1, 3, 5, 172, 2, 0, 0, 0, 0]
def E2 : List UInt8 := E1.set 16 (E1.getD 16 0 ^^^ 1)
theorem enc_hello : encB ⟨1, 3, 5, 300, 0, 0, 0, []⟩ = E1 := by decide +kernel
theorem enc_self : encB ⟨1, 3, 3, 300, 0, 0, 0, []⟩ = [] := by decide +kernel
theorem E1_len : E1.length = 17 := by decide +kernel
theorem E1_0 : E1.getD 0 0 = 237 := by decide +kernel
theorem E1_7 : E1.getD 7 0 = 172 := by decide +kernel
theorem num_300 : vint 300 = [172, 2] := by decide +kernel
theorem open_E1 : (openF (E1.take 16)).2.2 = 21 := by decide +kernel
theorem open_E2 : (openF E2).2.2 = 22 := by decide +kernel

end Go.Proofs.YtgnpjenpehfjbaaDoor

namespace Go.Proofs.YtgnpjenpehfjbaaDoor
open Go.RowKit

theorem E1_16 : E1.getD 16 0 = 207 := by decide +kernel
theorem E2_is : E2 = E1.set 16 206 := by decide +kernel
theorem xor_16 : bits .xor .u8 207 1 = 206 := by decide +kernel
theorem own_form {W : World} {B : Nat} {v : Value} {l : List UInt8} (h : Own W B v l) (hl : 0 < l.length) : ∃ g cap, v = .slice (some ⟨g, 0, none⟩) l.length cap ∧ B ≤ g ∧ g < W.heap.size ∧ l.length ≤ cap ∧ (∀ j, j < l.length → W.cell? ⟨g, j, none⟩ = some (.int .u8 ((l.getD j 0).toNat : Int))) ∧ W.frozen? ⟨g, 16, none⟩ = false := by
  rcases h.2 with ⟨_, h0⟩ | ⟨g, cap, cur, hv, hb, hg, hc, hm, hs, htk⟩
  · omega
  · subst hv
    refine ⟨g, cap, rfl, hb, (Array.getElem?_eq_some_iff.1 hg).1, hc, fun j hj => ?_, frozen_of_row _ _ _ _ _ hg⟩
    have h1 := World.ownsRow.cellAt h j (by omega)
    rw [h1, List.getElem?_map, List.getElem?_eq_getElem hj, List.getD_eq_getElem?_getD, List.getElem?_eq_getElem hj]
    rfl
theorem own_store {W : World} {B g n cap : Nat} {l : List UInt8} (h : Own W B (.slice (some ⟨g, 0, none⟩) n cap) l) (hn : n = l.length) (j : Nat) (x : UInt8) : Own (W.setCell ⟨g, j, none⟩ (.int .u8 (x.toNat : Int))) B (.slice (some ⟨g, 0, none⟩) n cap) (l.set j x) := by
  subst hn
  have := (World.ownsRow.stored h j (.int .u8 (x.toNat : Int))).1
  unfold Own
  rw [List.length_set, List.map_set]
  exact this

theorem decide_err_ (vt : Value) (W : World) (hb : Bts W W.heap.size vt (E1.take 16)) (ht : TabOK W) : Calls Tryd.prog 22 #[vt] W fun x w' => x = .returned (.tuple #[.agg #[.int .i64 0, .int .i64 0, .int .i64 0, .int .i64 0, .int .i64 0, .int .i64 0, .int .i64 0, .slice none 0 0], .int .i64 21]) ∧ Below W.heap.size W w' :=
  decode_err vt _ W hb ht 21 open_E1 (by decide)
theorem decide_err2_ (vt : Value) (W : World) (hb : Bts W W.heap.size vt E2) (ht : TabOK W) : Calls Tryd.prog 22 #[vt] W fun x w' => x = .returned (.tuple #[.agg #[.int .i64 0, .int .i64 0, .int .i64 0, .int .i64 0, .int .i64 0, .int .i64 0, .int .i64 0, .slice none 0 0], .int .i64 22]) ∧ Below W.heap.size W w' :=
  decode_err vt _ W hb ht 22 open_E2 (by decide)

set_option maxRecDepth 100000 in
set_option maxHeartbeats 4000000 in
theorem awake_any (w : World) (ht : TabOK w) : Calls Tryd.prog 16 #[] w fun e w' => e = .returned (.bool true) ∧ Below w.heap.size w w' := by
  have h1 := encode_none 1 3 5 300 0 0 0 w ht
  rw [enc_hello] at h1
  have H1 := Lib.hid h1
  have HT := Lib.hid ht
  clear h1 ht
  go_enter Tryd.func16, Tryd.ntmps16
  go_wp2_with (fail)
  with_reducible refine H1.out.mono ?_
  rintro e w1 ⟨u, rfl, ho, hB⟩
  clear H1
  have L1 := Lib.hid hB
  obtain ⟨g, cap, hu, hg0, hg1, hcap, hc, hz⟩ := own_form ho (by rw [E1_len]; decide)
  rw [E1_len] at hu hcap
  subst hu
  have HO := Lib.hid ho
  have h2 := ref_Number (.slice none 0 0) [] 300 w1 (by decide) (Bts.nil _ _) (by simp)
  rw [List.nil_append, num_300] at h2
  replace h2 : Calls Tryd.prog 38 #[.slice none 0 0, .int .u64 300] w1 _ := h2
  have H2 := Lib.hid h2
  clear h2 hB ho hc hz hg1
  go_wp2_with (fail)
  with_reducible refine H2.out.mono ?_
  rintro e w2 ⟨u2, rfl, ho2, hB⟩
  clear H2
  have L2 := Lib.hid (L1.out.trans (hB.mono L1.out.size))
  have HO2 := Lib.hid (HO.out.below hB)
  obtain ⟨g', cap', hu', hg0', hg1', hcap', hc', hz'⟩ := own_form HO2.out (by rw [E1_len]; decide)
  rw [E1_len] at hu' hcap' hc'
  injection hu' with hu1 _ hu3
  injection hu1 with hu1
  injection hu1 with hu1
  subst hu1 hu3
  obtain ⟨gh, caph, huh, -, -, hcaph, hch, -⟩ := own_form ho2 (by decide)
  subst huh
  have k0 : w2.cell? ⟨g, 0, none⟩ = some (.int .u8 237) := by rw [hc' 0 (by decide), E1_0]; rfl
  have k7 : w2.cell? ⟨g, 7, none⟩ = some (.int .u8 172) := by rw [hc' 7 (by decide), E1_7]; rfl
  have kh : w2.cell? ⟨gh, 0, none⟩ = some (.int .u8 172) := hch 0 (by decide)
  have HC := Lib.hid hc'
  have HCAP := Lib.hid hcap'
  have HZ := Lib.hid hz'
  have HG1 := Lib.hid hg1'
  have HG0 : Hid (w.heap.size ≤ g) := hg0
  clear hc' hch hcap' hcaph hz' hg0 hg0' hg1' ho2 hB HO hcap
  go_wp2_with (fail)
  go_quiet (fail)
  have hB := bdN w2.heap.size w2 nq
  have L3 := Lib.hid (L2.out.trans (hB.mono L2.out.size))
  have HO3 := Lib.hid (HO2.out.below hB)
  clear k0 k7 kh hB HO2 HC HZ HG1
  generalize w2.drewN nq = W3 at *
  obtain ⟨vt, hbt, hsl⟩ := HO3.out.bts.toB 16 (by rw [E1_len]; decide)
  replace hsl : ∀ W (kh : IntKind), (Instr.slice 27 (.slice (some ⟨g, 0, none⟩) 17 cap) none (some (.int kh 16)) none).run Tryd.prog W = .ok vt W := hsl
  have hsl2 := fun W => hsl W .i64
  have h3 := decide_err_ vt W3 hbt (HT.out.below L3.out (by have := HT.out.lt; omega))
  have H3 := Lib.hid h3
  obtain ⟨at_, capt, hvt, -⟩ := hbt
  rw [List.length_take, E1_len] at hvt
  replace hvt : vt = .slice at_ 16 capt := hvt
  subst hvt
  clear h3 hsl
  go_wp2_with (fail)
  clear hsl2
  with_reducible refine H3.out.mono ?_
  rintro e w4 ⟨rfl, hB⟩
  have L4 := Lib.hid (L3.out.trans (hB.mono L3.out.size))
  have HO4 := Lib.hid (HO3.out.below hB)
  clear H3 hB HO3
  obtain ⟨g2, k2⟩ := new_block w4 (.cells #[.int .i64 0, .int .i64 0, .int .i64 0, .int .i64 0, .int .i64 0, .int .i64 0, .int .i64 0, .slice none 0 0] 24)
  have L5 := Lib.hid (L4.out.trans (g2.mono L4.out.size))
  have HO5 := Lib.hid (HO4.out.below g2)
  obtain ⟨g', cap', hu', -, hg1', -, hc', hz'⟩ := own_form HO5.out (by rw [E1_len]; decide)
  rw [E1_len] at hu' hc'
  injection hu' with hu1 _ hu3
  injection hu1 with hu1
  injection hu1 with hu1
  subst hu1 hu3
  have k16 : (w4.alloc (.cells #[.int .i64 0, .int .i64 0, .int .i64 0, .int .i64 0, .int .i64 0, .int .i64 0, .int .i64 0, .slice none 0 0] 24)).cell? ⟨g, 16, none⟩ = some (.int .u8 207) := by rw [hc' 16 (by decide), E1_16]; rfl
  have z16 := hz'
  have hst := own_store HO4.out (by rw [E1_len]) 16 206
  rw [← E2_is] at hst
  replace hst : Own (w4.setCell ⟨g, 16, none⟩ (.int .u8 206)) w.heap.size (.slice (some ⟨g, 0, none⟩) 17 cap) E2 := hst
  have hxor := xor_16
  obtain ⟨g3, k3⟩ := new_block (w4.setCell ⟨g, 16, none⟩ (.int .u8 206)) (.cells #[.int .i64 0, .int .i64 0, .int .i64 0, .int .i64 0, .int .i64 0, .int .i64 0, .int .i64 0, .slice none 0 0] 24)
  have LS0 : Below w.heap.size w (w4.setCell ⟨g, 16, none⟩ (.int .u8 206)) := bel_set HG0.out L4.out
  have LS := Lib.hid (LS0.trans (g3.mono LS0.size))
  have HO6 := Lib.hid (hst.below g3)
  have hgw : g < w4.heap.size := (World.ownsRow.lt HO4.out g rfl).2
  have hcap16 := HCAP.out
  have H4 := Lib.hid (decide_err2_ (.slice (some ⟨g, 0, none⟩) 17 cap) _ (HO6.out.bts) (HT.out.below LS.out (by have := HT.out.lt; omega)))
  clear g2 k2 hc' hst hz' hg1' g3 k3 LS0 L5 HO5
  go_wp2_with (fail)
  with_reducible refine H4.out.mono ?_
  rintro e w5 ⟨rfl, hB⟩
  have L6 := Lib.hid (LS.out.trans (hB.mono LS.out.size))
  clear k16 z16 hxor H4 hB HO6
  obtain ⟨g4, -⟩ := new_block w5 (.cells #[.int .i64 0, .int .i64 0, .int .i64 0, .int .i64 0, .int .i64 0, .int .i64 0, .int .i64 0, .slice none 0 0] 24)
  have L7 := Lib.hid (L6.out.trans (g4.mono L6.out.size))
  have h5 := encode_none 1 3 3 300 0 0 0 (w5.alloc (.cells #[.int .i64 0, .int .i64 0, .int .i64 0, .int .i64 0, .int .i64 0, .int .i64 0, .int .i64 0, .slice none 0 0] 24)) (HT.out.below L7.out (by have := HT.out.lt; omega))
  rw [enc_self] at h5
  have H5 := Lib.hid h5
  clear h5 g4
  go_wp2_with (fail)
  with_reducible refine H5.out.mono ?_
  rintro e w6 ⟨u3, rfl, ho3, hB⟩
  have L8 := Lib.hid (L7.out.trans (hB.mono L7.out.size))
  obtain ⟨a3, cap3, hu3, -⟩ := ho3.bts
  rw [List.length_nil] at hu3
  subst hu3
  clear ho3 hB H5
  go_wp2
  go_ret
  exact ⟨rfl, L8.out⟩

end Go.Proofs.YtgnpjenpehfjbaaDoor

