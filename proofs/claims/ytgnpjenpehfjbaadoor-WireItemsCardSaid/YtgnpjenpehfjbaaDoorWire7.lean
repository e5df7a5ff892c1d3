/- Wire: packets, rows of items (by program: wip/tools/gen_wire7.py). -/
import Derived.Test.YtgnpjenpehfjbaaDoorWire6
import Derived.Test.YtgnpjenpehfjbaaDoorFlowM
namespace Go.Proofs.YtgnpjenpehfjbaaDoor
open Go.RowKit

structure Pkt where
  kind : Int
  frm : Int
  to : Int
  boot : Int
  life : Int
  echo : Int
  elife : Int
  items : List Itm
abbrev Pkt.cells (p : Pkt) (v : Value) : List Value := [.int .i64 p.kind, .int .i64 p.frm, .int .i64 p.to, .int .i64 p.boot, .int .i64 p.life, .int .i64 p.echo, .int .i64 p.elife, v]
/-- a slice that reads as items, all of it below block B -/
def Ims (w : World) (B : Nat) (v : Value) (xs : List Itm) : Prop :=
  ∃ ao cap, v = .slice ao xs.length cap ∧ xs.length ≤ cap ∧ xs.length ≤ maxLen ∧ (xs ≠ [] → ∃ b off, ao = some ⟨b, off, none⟩ ∧ b < B ∧ ∀ i x, xs[i]? = some x → w.rangeAt b (off + i * 19) x.cells)
theorem Ims.below {w w' : World} {B B' : Nat} {v : Value} {xs : List Itm} (h : Ims w B v xs) (hb : Below B w w') (hB : B ≤ B') : Ims w' B' v xs := by
  obtain ⟨ao, cap, h1, h2, h3, h4⟩ := h
  refine ⟨ao, cap, h1, h2, h3, fun hne => ?_⟩
  obtain ⟨b, off, h5, h6, h7⟩ := h4 hne
  refine ⟨b, off, h5, by omega, fun i x hx j u hu => ?_⟩
  rw [hb.cell (p := ⟨b, off + i * 19 + j, none⟩) h6]
  exact h7 i x hx j u hu
theorem Ims.kept {w w' : World} {v : Value} {xs : List Itm} (h : Ims w w.heap.size v xs) (hb : Below w.heap.size w w') : Ims w' w'.heap.size v xs := h.below hb hb.size
theorem Ims.nil (w : World) (B : Nat) : Ims w B (.slice none 0 0) [] := ⟨none, 0, rfl, by simp, by simp, fun h => absurd rfl h⟩
theorem Ims.slice {w : World} {B : Nat} {v : Value} {xs : List Itm} (h : Ims w B v xs) : ∃ ao cap, v = .slice ao xs.length cap ∧ xs.length ≤ cap ∧ xs.length ≤ maxLen := by
  obtain ⟨ao, cap, h1, h2, h3, -⟩ := h
  exact ⟨ao, cap, h1, h2, h3⟩
/-- the k-th item's cells -/
theorem Ims.at {w : World} {B n cap : Nat} {ao : Option Addr} {xs : List Itm} (h : Ims w B (.slice ao n cap) xs) (k : Nat) (hk : k < xs.length) : ∃ b off, ao = some ⟨b, off, none⟩ ∧ b < B ∧ ∀ i x, xs[i]? = some x → w.rangeAt b (off + i * 19) x.cells := by
  obtain ⟨ao', cap', h1, -, -, h4⟩ := h
  cases h1
  exact h4 (by intro e; subst e; simp at hk)
def nilI : Itm := ⟨[], 0, 0, false, 0, 0, 0, 0, 0, false, 0, zeroX, zeroX⟩
def ltN (a b : List UInt8) : Bool := Op.bytesLess (⟨a.toArray⟩ : ByteArray).toList (⟨b.toArray⟩ : ByteArray).toList
def goodAt (xs : List Itm) (k : Nat) : Bool := fitI (xs.getD k nilI) && (k == 0 || ltN (xs.getD (k - 1) nilI).name (xs.getD k nilI).name)
def itemsB (xs : List Itm) : Bool := (List.range xs.length).all (goodAt xs)
theorem itemsB_t {xs : List Itm} (h : ∀ j, j < xs.length → goodAt xs j = true) : itemsB xs = true := by
  unfold itemsB
  rw [List.all_eq_true]
  intro j hj
  exact h j (List.mem_range.1 hj)
theorem itemsB_f {xs : List Itm} (k : Nat) (hk : k < xs.length) (h : goodAt xs k = false) : itemsB xs = false := by
  unfold itemsB
  rw [List.all_eq_false]
  exact ⟨k, List.mem_range.2 hk, by rw [h]; simp⟩
def hdrB (p : Pkt) : Bool := decide (1 ≤ p.kind) && (decide (p.kind ≤ 5) && (nodeB p.frm && (nodeB p.to && (!(p.frm == p.to) && (inB p.boot 1 1099511627776 && inB p.life 0 1099511627776)))))
def echoB (p : Pkt) : Bool := if p.kind = 1 then p.echo == 0 && p.elife == 0 else inB p.echo 1 1099511627776 && inB p.elife 0 1099511627776
def tailP (p : Pkt) : Bool := if p.kind = 3 ∨ p.kind = 4 then itemsB p.items && decide (p.items.length ≤ 8) else p.items.length == 0
def fitP (p : Pkt) : Bool := hdrB p && (echoB p && tailP p)
theorem getD_some {xs : List Itm} {k : Nat} (h : k < xs.length) : xs[k]? = some (xs.getD k nilI) := by
  rw [List.getD_eq_getElem?_getD, List.getElem?_eq_getElem h]; rfl
/-- a struct out of the midst of a block, as an operation's run -/
theorem exec_load_mid {P : Program} {o : Oper} {a : Act} {W : World} (ty : TypeId) (x : Operand) (ho : o.op = .load ty x) (b off : Nat) (cs : List Value) (d : TypeDesc) (hx : a.eval x = .pointer (some ⟨b, off, none⟩)) (hr : W.rangeAt b off cs) (hu : P.underlying ty = some d) (hd : d.isRow = true) (hi : (P.info? ty).map (·.size) = some cs.length) :
    (execOp a.eval o).run P W = .ok (.value (.agg cs.toArray)) W := by
  unfold execOp
  simp only [ho, hx, Instr.loadAt, Instr.sureAddr, Sem.run_bind, Sem.run_pure, Result.andThen_ok, run_loadVar_mid W b off ty cs d hr hu hd hi]
theorem exec_geq_str {P : Program} {o : Oper} {a : Act} {W : World} (ty : TypeId) (x y : Operand) (ty' : TypeId) (ho : o.op = .binOp .geq ty x y ty') (s t : ByteArray) (hx : a.eval x = .string s) (hy : a.eval y = .string t) (b : Bool) (hb : Op.bytesLess s.toList t.toList = b) :
    (execOp a.eval o).run P W = .ok (.value (.bool (!b))) W := by
  subst hb
  unfold execOp
  simp only [ho, hx, hy, binOp_string_geq]
  simp [eqGuard]

end Go.Proofs.YtgnpjenpehfjbaaDoor
