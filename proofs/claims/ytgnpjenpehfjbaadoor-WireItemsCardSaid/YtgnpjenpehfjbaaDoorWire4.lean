/- Wire: boxes of items, equality of items (by program: wip/tools/gen_wire4.py). -/
import Derived.Test.YtgnpjenpehfjbaaDoorWire3
import Derived.Test.YtgnpjenpehfjbaaDoorFlowJ
import Derived.Deep.WholeRow
import Derived.Deep.MidRow
import Derived.Deep.Cut
namespace Go.Proofs.YtgnpjenpehfjbaaDoor
open Go.RowKit

theorem bel_set {B b i : Nat} {v : Value} {w w' : World} (hb : B ≤ b) (h : Below B w w') : Below B w (w'.setCell ⟨b, i, none⟩ v) := h.setCell (p := ⟨b, i, none⟩) hb v
theorem bel_alloc {B : Nat} {o : Obj} {w w' : World} (h : Below B w w') (hb : B ≤ w'.heap.size) : Below B w (w'.alloc o) := h.alloc hb o
theorem stays {W W' : World} {k : Nat} {o : Obj} (h : W.heap[k]? = some o) (hb : Below W.heap.size W W') : W'.heap[k]? = some o := (hb.block _ (Array.getElem?_eq_some_iff.1 h).1).trans h
theorem new_block (w : World) (o : Obj) : Below w.heap.size w (w.alloc o) ∧ (w.alloc o).heap[w.heap.size]? = some o := ⟨bel_alloc (Below.refl _ _) (Nat.le_refl _), heap_alloc_last w o⟩
theorem set_block (W : World) (b i : Nat) (cs : Array Value) (t : TypeId) (v : Value) (h : W.heap[b]? = some (.cells cs t (0, 0))) : (W.setCell ⟨b, i, none⟩ v).heap[b]? = some (.cells (cs.setIfInBounds i v) t (0, 0)) := by
  have := heap_setCell_same W b i cs t v h
  exact this
theorem set_other (W : World) (b i k : Nat) (v : Value) (h : k ≠ b) : (W.setCell ⟨b, i, none⟩ v).heap[k]? = W.heap[k]? := Below.heap_setCell _ _ _ _ h
/-- a whole struct into a block that was made last, as one operation -/
theorem wpList_store_new {P : Program} {ops : Array Oper} {rest : List Oper} {o : Oper} {a : Act} {Q : Exit → Act → World → Prop} (hgd : o.guard = none) (hd : o.dst = none) (ty : TypeId) (x y : Operand) (ho : o.op = .store ty x y) (W : World) (c c' : Array Value)
    (hx : a.eval x = .pointer (some ⟨W.heap.size, 0, none⟩)) (hy : a.eval y = .agg c') (hi : (P.info? ty).map (·.size) = some c'.size) (hs : c.size = c'.size) (h1 : c'.all (·.oneCell') = true) (h : wpList P ops Q rest a (W.alloc (.cells c' ty))) :
    wpList P ops Q (o :: rest) a (W.alloc (.cells c ty)) := by
  refine wpList_skip hgd hd ?_ h
  unfold execOp
  simp only [ho, hx, hy, Sem.run_bind, run_storeAt_new W ty c c' hi hs h1, Result.andThen_ok]
  rfl

def eqBb (ver writer flow : Int) (hasRest : Bool) (rest : Int) (m1 : Bool) (m2 m3 m4 : Int) (x1 : Bool) (x2 x3 x4 : Int) : Bool := ver == 0 && (writer == 0 && (flow == 0 && (!hasRest && (rest == 0 && (!m1 && (m2 == 0 && (m3 == 0 && (m4 == 0 && (!x1 && (x2 == 0 && (x3 == 0 && x4 == 0)))))))))))
def eqCb (ver writer flow : Int) (hasRest : Bool) (rest : Int) : Bool := ver == 0 && (writer == 0 && (flow == 0 && (!hasRest && rest == 0)))
def eqDb (m1 : Bool) (m2 m3 m4 : Int) (x1 : Bool) (x2 x3 x4 : Int) : Bool := !m1 && (m2 == 0 && (m3 == 0 && (m4 == 0 && (!x1 && (x2 == 0 && (x3 == 0 && x4 == 0))))))
theorem bool_chain {c : Prop} [Decidable c] {r : Bool} {W : World} {b : Bool} {x : Result Value} (h1 : b = decide c) (h2 : c → x = .ok (.bool r) W) : (if c then x else .ok (.bool false) W) = .ok (.bool (b && r)) W := by
  subst h1
  by_cases h : c
  · rw [if_pos h, h2 h]; simp [h]
  · rw [if_neg h]; simp [h]
theorem bool_chain_not {c : Prop} [Decidable c] {r : Bool} {W : World} {b : Bool} {x : Result Value} (h1 : (!b) = decide c) (h2 : ¬ c → x = .ok (.bool r) W) : (if c then .ok (.bool false) W else x) = .ok (.bool (b && r)) W := by
  by_cases h : c
  · rw [if_pos h]; have : b = false := by simpa [h] using h1
    simp [this]
  · rw [if_neg h, h2 h]; have : b = true := by simpa [h] using h1
    simp [this]
theorem exec_store {P : Program} {o : Oper} {a : Act} {W W' : World} (ty : TypeId) (x y : Operand) (ho : o.op = .store ty x y) (p v : Value) (hx : a.eval x = p) (hy : a.eval y = v) (hr : (Instr.storeAt ty p v).run P W = .ok () W') : (execOp a.eval o).run P W = .ok .skip W' := by
  unfold execOp
  simp only [ho, hx, hy, Sem.run_bind, hr, Result.andThen_ok]
  rfl
theorem exec_load_row {P : Program} {o : Oper} {a : Act} {W : World} (ty : TypeId) (x : Operand) (ho : o.op = .load ty x) (b : Nat) (cs : Array Value) (t : TypeId) (d : TypeDesc) (hx : a.eval x = .pointer (some ⟨b, 0, none⟩)) (h : W.heap[b]? = some (.cells cs t (0, 0))) (hu : P.underlying ty = some d) (hd : (match d with | .struct _ | .array _ _ => true | _ => false) = true) (hi : (P.info? ty).map (·.size) = some cs.size) :
    (execOp a.eval o).run P W = .ok (.value (.agg cs)) W := by
  have hr : (Instr.loadAt ty (.pointer (some ⟨b, 0, none⟩))).run P W = .ok (.agg cs) W := by
    simp only [Instr.loadAt, Instr.sureAddr, Sem.run_bind, Sem.run_pure, Result.andThen]
    exact run_loadVar_row W b t ty cs (0, 0) d h hu hd hi
  unfold execOp
  simp only [ho, hx, Sem.run_bind, hr, Result.andThen_ok]
  rfl
theorem exec_eql_agg {P : Program} {o : Oper} {a : Act} {W : World} (ty : TypeId) (x y : Operand) (ty' : TypeId) (ho : o.op = .binOp .eql ty x y ty') (vx vy : Array Value) (b : Bool) (hx : a.eval x = .agg vx) (hy : a.eval y = .agg vy) (hm : P.eqGuardType P.depth ty = false) (hr : (binOp .eql ty (.agg vx) (.agg vy)).run P W = .ok (.bool b) W) :
    (execOp a.eval o).run P W = .ok (.value (.bool b)) W := by
  unfold execOp
  simp only [ho, hx, hy, Sem.run_bind, run_eqGuard_agg W .eql ty x y vx vy hm, hr, Result.andThen_ok]
  rfl
/-- cells that a run of values replaces -/
def splice (cs : Array Value) (o : Nat) : List Value → Array Value
  | [] => cs
  | v :: r => splice (cs.setIfInBounds o v) (o + 1) r
theorem setCells_block (t : TypeId) (b : Nat) : ∀ (vs : List Value) (o : Nat) (cs : Array Value) (W : World), W.heap[b]? = some (.cells cs t (0, 0)) → (W.setCells b o vs).heap[b]? = some (.cells (splice cs o vs) t (0, 0))
  | [], _, _, _, h => h
  | v :: r, o, cs, W, h => by rw [World.setCells]; exact setCells_block t b r (o + 1) _ _ (set_block W b o cs t v h)
theorem setCells_other (b : Nat) : ∀ (vs : List Value) (o : Nat) (W : World) (k : Nat), k ≠ b → (W.setCells b o vs).heap[k]? = W.heap[k]?
  | [], _, _, _, _ => rfl
  | v :: r, o, W, k, h => by rw [World.setCells, setCells_other b r (o + 1) _ k h, set_other W b o k v h]
theorem setCells_below {B b : Nat} (hb : B ≤ b) : ∀ (vs : List Value) (o : Nat) (w W : World), Below B w W → Below B w (W.setCells b o vs)
  | [], _, _, _, h => h
  | v :: r, o, w, W, h => by rw [World.setCells]; exact setCells_below hb r (o + 1) w _ (bel_set hb h)
/-- a struct into the midst of a block, as an operation's run -/
theorem run_store_row {P : Program} (W : World) (b o : Nat) (cs : Array Value) (t ty : TypeId) (vs : Array Value) (h : W.heap[b]? = some (.cells cs t (0, 0))) (ho : o + vs.size ≤ cs.size) (hi : (P.info? ty).map (·.size) = some vs.size) (h1 : vs.all (·.oneCell') = true) :
    (Instr.storeAt ty (.pointer (some ⟨b, o, none⟩)) (.agg vs)).run P W = .ok () (W.setCells b o vs.toList) :=
  run_storeAt_mid W b o ty vs (fun j hj => ⟨by rw [cell_of_row _ _ _ _ _ _ h]; simp; omega, frozen_of_row _ _ _ _ _ h⟩) hi h1
theorem beq0 (x : Int) : (x == 0) = decide (0 = x) := by rw [Bool.eq_iff_iff]; simp; exact eq_comm
theorem bool_last (x : Int) (W : World) : (if 0 = x then Result.ok (Value.bool true) W else Result.ok (Value.bool false) W) = .ok (.bool (x == 0)) W := by
  rw [beq0]
  by_cases h : 0 = x
  · rw [if_pos h]; simp [h]
  · rw [if_neg h]; simp [h]
theorem restB_bad (x : Itm) (h1 : x.kind = 4) (h2 : x.scale ≠ 1) : restB x = false := by unfold restB; rw [if_pos ⟨h1, h2⟩]
theorem restB_dead (x : Itm) (ha : x.alive = false) (hA : ¬ (x.kind = 4 ∧ x.scale ≠ 1)) : restB x = eqBb x.ver x.writer x.flow x.hasRest x.rest x.mn.has x.mn.val x.mn.org x.mn.age x.mx.has x.mx.val x.mx.org x.mx.age := by
  unfold restB eqBb
  rw [if_neg hA, ha]
  simp [Itm.regZ, Xt.zeroB, Bool.and_assoc]
theorem restB_ext (x : Itm) (ha : x.alive = true) (hk : x.kind = 4) (hs : x.scale = 1) : restB x = (eqCb x.ver x.writer x.flow x.hasRest x.rest && (extB x.mn && extB x.mx)) := by
  unfold restB eqCb
  rw [if_neg (fun h => h.2 hs), ha, if_pos rfl, if_pos hk]
  simp [Itm.regZ, Bool.and_assoc]
theorem restB_flow (x : Itm) (ha : x.alive = true) (hk : x.kind ≠ 4) : restB x = (((x.ver == 0 && x.writer == 0 && x.flow == 0) || (inB x.ver 1 1099511627776 && (nodeB x.writer && flowB x.flow))) && (flowB x.rest && ((x.hasRest || x.rest == 0) && eqDb x.mn.has x.mn.val x.mn.org x.mn.age x.mx.has x.mx.val x.mx.org x.mx.age))) := by
  unfold restB eqDb
  rw [if_neg (fun h => hk h.1), ha, if_pos rfl, if_neg hk]
  simp [Itm.regZ, Itm.regB, Xt.zeroB, Bool.and_assoc]
theorem eqBb_reg {ver writer flow : Int} {hasRest : Bool} {rest : Int} {m1 : Bool} {m2 m3 m4 : Int} {x1 : Bool} {x2 x3 x4 : Int} (h : false = (ver == 0 && writer == 0 && flow == 0)) : eqBb ver writer flow hasRest rest m1 m2 m3 m4 x1 x2 x3 x4 = false := by
  have : eqBb ver writer flow hasRest rest m1 m2 m3 m4 x1 x2 x3 x4 = ((ver == 0 && writer == 0 && flow == 0) && (!hasRest && (rest == 0 && (!m1 && (m2 == 0 && (m3 == 0 && (m4 == 0 && (!x1 && (x2 == 0 && (x3 == 0 && x4 == 0)))))))))) := by unfold eqBb; simp [Bool.and_assoc]
  rw [this, ← h]; rfl
theorem eqCb_reg {ver writer flow : Int} {hasRest : Bool} {rest : Int} (h : false = (ver == 0 && writer == 0 && flow == 0)) : eqCb ver writer flow hasRest rest = false := by
  have : eqCb ver writer flow hasRest rest = ((ver == 0 && writer == 0 && flow == 0) && (!hasRest && rest == 0)) := by unfold eqCb; simp [Bool.and_assoc]
  rw [this, ← h]; rfl
section
variable (nm : ByteArray) (epoch maker : Int) (alive : Bool) (kind scale ver writer flow : Int) (hasRest : Bool) (rest : Int) (m1 : Bool) (m2 m3 m4 : Int) (x1 : Bool) (x2 x3 x4 : Int) (W : World)
set_option maxHeartbeats 1000000 in
theorem eq_B : (binOp .eql 38 (.agg #[.string nm, .int .i64 epoch, .int .i64 maker, .bool alive, .int .i64 kind, .int .i64 scale, .int .i64 0, .int .i64 0, .int .i64 0, .bool false, .int .i64 0, .bool false, .int .i64 0, .int .i64 0, .int .i64 0, .bool false, .int .i64 0, .int .i64 0, .int .i64 0]) (.agg #[.string nm, .int .i64 epoch, .int .i64 maker, .bool alive, .int .i64 kind, .int .i64 scale, .int .i64 ver, .int .i64 writer, .int .i64 flow, .bool hasRest, .int .i64 rest, .bool m1, .int .i64 m2, .int .i64 m3, .int .i64 m4, .bool x1, .int .i64 x2, .int .i64 x3, .int .i64 x4])).run Tryd.prog W = .ok (.bool (eqBb ver writer flow hasRest rest m1 m2 m3 m4 x1 x2 x3 x4)) W := by
  rw [run_eql_struct]
  simp [go_sem]
  unfold eqBb
  repeat (first | exact bool_last _ _ | (refine bool_chain (beq0 _) fun _ => ?_) | (refine bool_chain_not (by simp) fun _ => ?_))
set_option maxHeartbeats 1000000 in
theorem eq_C : (binOp .eql 38 (.agg #[.string nm, .int .i64 epoch, .int .i64 maker, .bool alive, .int .i64 kind, .int .i64 scale, .int .i64 0, .int .i64 0, .int .i64 0, .bool false, .int .i64 0, .bool m1, .int .i64 m2, .int .i64 m3, .int .i64 m4, .bool x1, .int .i64 x2, .int .i64 x3, .int .i64 x4]) (.agg #[.string nm, .int .i64 epoch, .int .i64 maker, .bool alive, .int .i64 kind, .int .i64 scale, .int .i64 ver, .int .i64 writer, .int .i64 flow, .bool hasRest, .int .i64 rest, .bool m1, .int .i64 m2, .int .i64 m3, .int .i64 m4, .bool x1, .int .i64 x2, .int .i64 x3, .int .i64 x4])).run Tryd.prog W = .ok (.bool (eqCb ver writer flow hasRest rest)) W := by
  rw [run_eql_struct]
  simp [go_sem]
  unfold eqCb
  repeat (first | exact bool_last _ _ | (refine bool_chain (beq0 _) fun _ => ?_) | (refine bool_chain_not (by simp) fun _ => ?_))
set_option maxHeartbeats 1000000 in
theorem eq_D : (binOp .eql 38 (.agg #[.string nm, .int .i64 epoch, .int .i64 maker, .bool alive, .int .i64 kind, .int .i64 scale, .int .i64 ver, .int .i64 writer, .int .i64 flow, .bool hasRest, .int .i64 rest, .bool false, .int .i64 0, .int .i64 0, .int .i64 0, .bool false, .int .i64 0, .int .i64 0, .int .i64 0]) (.agg #[.string nm, .int .i64 epoch, .int .i64 maker, .bool alive, .int .i64 kind, .int .i64 scale, .int .i64 ver, .int .i64 writer, .int .i64 flow, .bool hasRest, .int .i64 rest, .bool m1, .int .i64 m2, .int .i64 m3, .int .i64 m4, .bool x1, .int .i64 x2, .int .i64 x3, .int .i64 x4])).run Tryd.prog W = .ok (.bool (eqDb m1 m2 m3 m4 x1 x2 x3 x4)) W := by
  rw [run_eql_struct]
  simp [go_sem]
  unfold eqDb
  repeat (first | exact bool_last _ _ | (refine bool_chain (beq0 _) fun _ => ?_) | (refine bool_chain_not (by simp) fun _ => ?_))
theorem ne_R : (binOp .neq 34 (.agg #[.int .i64 ver, .int .i64 writer, .int .i64 flow]) (.agg #[.int .i64 0, .int .i64 0, .int .i64 0])).run Tryd.prog W = .ok (.bool (!(ver == 0 && writer == 0 && flow == 0))) W := by
  rw [run_neq_struct]
  simp [go_sem]
  by_cases h1 : ver = 0 <;> by_cases h2 : writer = 0 <;> by_cases h3 : flow = 0 <;> simp [h1, h2, h3]
end

end Go.Proofs.YtgnpjenpehfjbaaDoor
