/- A region that draws its order, whose operations only read or make memory: whatever the order, each operation yields what is said of it.
A region that draws its order, whose operations only read or make memory, some of them not wanted: whatever the order, each operation yields what is said of it.
A region that draws its order, by what holds of the world while it runs, with any number of stores: the operations ys 0, ys 1, .. yield values into slots, the others store; J says of the world what holds when the operations marked in d have run, with these values. And one operation of a plain region, by its run.
A region that draws its order, inside any fence that lets every function in: by what holds of the world while it runs; operations may yield, store, call, or not be wanted.
As FlowM; a slot that the region writes may be read ahead of the write.
A range over a function (see Range) whose assignment of the round's variables makes blocks.
Small laws for functions that range over a function (the same as in Hist17).
A range over a function whose iterator has blocks of its own, which the round must leave as they are: T says which blocks a round may turn.
Wire: names, nodes, ranges, extreme values, on both sides (by program: wip/tools/gen_wire1.py).
Wire: is a text a name? Both sides (by program: wip/tools/gen_wire2.py).
Wire: is an item fit? Both sides (by program: wip/tools/gen_wire3.py).
Wire: boxes of items, equality of items (by program: wip/tools/gen_wire4.py). -/
import Derived.Test.YtgnpjenpehfjbaaDoorMA
import Derived.WalkMore
import Derived.Lib.Hide
import Derived.WalkKit
import Derived.WalkLawsBesides
import Derived.WalkSpells
import Derived.Deep.RegionWith
import Derived.RegionTactic
import Derived.Deep.QuietTactic
import Derived.BigQuiet
import Derived.Outline
import Derived.Deep.WholeRow
import Derived.Deep.MidRow
import Derived.Deep.Cut
set_option linter.unusedSimpArgs false
set_option linter.unusedVariables false
namespace Go.Proofs.YtgnpjenpehfjbaaDoor
open Go.RowKit
variable {P : Program}

/-- what is said of a value stays so while nothing that was there turns -/
def Stays (G : Value → World → Prop) : Prop := ∀ v W W', G v W → Below W.heap.size W W' → G v W'
theorem Stays.eq (x : Value) : Stays (fun v _ => v = x) := fun _ _ _ h _ => h
/-- what one operation does -/
def FlowOp (P : Program) (o : Oper) (a : Act) (W : World) (G : Value → World → Prop) : Prop :=
  (∃ v W', (execOp a.eval o).run P W = .ok (.value v) W' ∧ Below W.heap.size W W' ∧ G v W') ∨
  (∃ f args W1, (execOp a.eval o).run P W = .ok (.enter f args) W1 ∧ Below W.heap.size W W1 ∧ Calls P f args W1 fun e W' => ∃ v, e = .returned v ∧ Below W1.heap.size W1 W' ∧ G v W')
theorem FlowOp.pure {o : Oper} {a : Act} {W : World} {G : Value → World → Prop} (v : Value) (h : (execOp a.eval o).run P W = .ok (.value v) W) (g : G v W) : FlowOp P o a W G := .inl ⟨v, W, h, Below.refl _ _, g⟩
theorem FlowOp.call {o : Oper} {a : Act} {W : World} {G : Value → World → Prop} (f : FuncId) (args : Array Value) (h : (execOp a.eval o).run P W = .ok (.enter f args) W) (g : Calls P f args W fun e W' => ∃ v, e = .returned v ∧ Below W.heap.size W W' ∧ G v W') : FlowOp P o a W G :=
  .inr ⟨f, args, W, h, Below.refl _ _, g⟩

theorem op_at {x o y : Oper} (h : x = o) (e : x = y) : o = y := h ▸ e
theorem getD_puts {a : Act} {s t : Nat} {v : Value} (h : t ≠ s) : (a.put (some s) v).tmps.getD t undef = a.tmps.getD t undef := by
  simp only [Act.put, Array.getD_eq_getD_getElem?]
  rw [Array.getElem?_setIfInBounds_ne (Ne.symm h)]
theorem getD_puts_same {a : Act} {s : Nat} {v : Value} (h : s < a.tmps.size) : (a.put (some s) v).tmps.getD s undef = v := by
  simp [Act.put, Array.getD, h]
theorem size_puts (a : Act) (s : Nat) (v : Value) : (a.put (some s) v).tmps.size = a.tmps.size := by simp [Act.put]

/-- the frame behind the region: its operations' slots set, one behind the other -/
def puts (D : Nat → Nat) (vs : Nat → Value) : Nat → Act → Act
  | 0, a => a
  | n + 1, a => (puts D vs n a).put (some (D n)) (vs n)
theorem puts_size (D : Nat → Nat) (vs : Nat → Value) (n : Nat) (a : Act) : (puts D vs n a).tmps.size = a.tmps.size := by
  induction n with
  | zero => rfl
  | succ n ih => rw [puts, size_puts, ih]
theorem puts_defers (D : Nat → Nat) (vs : Nat → Value) (n : Nat) (a : Act) : (puts D vs n a).defers = a.defers := by
  induction n with
  | zero => rfl
  | succ n ih => exact ih
theorem puts_other (D : Nat → Nat) (vs : Nat → Value) (n : Nat) (a : Act) (s : Nat) (h : ∀ i, i < n → D i ≠ s) : (puts D vs n a).tmps.getD s undef = a.tmps.getD s undef := by
  induction n with
  | zero => rfl
  | succ n ih => rw [puts, getD_puts (Ne.symm (h n (by omega)))]; exact ih fun i hi => h i (by omega)
theorem puts_at (D : Nat → Nat) (vs : Nat → Value) (n : Nat) (a : Act) (hs : ∀ i, i < n → D i < a.tmps.size) (hi : ∀ i j, i < n → j < n → D i = D j → i = j) (k : Nat) (hk : k < n) : (puts D vs n a).tmps.getD (D k) undef = vs k := by
  induction n with
  | zero => omega
  | succ n ih =>
    rw [puts]
    by_cases h : k = n
    · subst h
      exact getD_puts_same (by rw [puts_size]; exact hs k (by omega))
    · rw [getD_puts (fun e => h (hi _ _ (by omega) (by omega) e))]
      exact ih (fun i h => hs i (by omega)) (fun i j h1 h2 => hi i j (by omega) (by omega)) (by omega)

theorem act_ext {a b : Act} (hs : a.tmps.size = b.tmps.size) (h : ∀ s, a.tmps.getD s undef = b.tmps.getD s undef) (hd : a.defers = b.defers) : a = b := by
  cases a; cases b
  simp only at hs h hd
  subst hd
  congr 1
  apply Array.ext hs
  intro i h1 h2
  have := h i
  simpa [Array.getD, h1, h2] using this

end Go.Proofs.YtgnpjenpehfjbaaDoor

namespace Go.Proofs.YtgnpjenpehfjbaaDoor
open Go.RowKit
variable {P : Program}

end Go.Proofs.YtgnpjenpehfjbaaDoor

namespace Go.Proofs.YtgnpjenpehfjbaaDoor
open Go.RowKit
variable {P : Program}

theorem wpList_run {ops : Array Oper} {rest : List Oper} {o : Oper} {a : Act} {Q : Exit → Act → World → Prop} {w w' : World} {v : Value} (hgd : o.guard = none) (hr : (execOp a.eval o).run P w = .ok (.value v) w') (h : wpList P ops Q rest (a.put o.dst v) w') : wpList P ops Q (o :: rest) a w :=
  wpList_plain hgd fun _ hK => by unfold Oper.wp; rw [hr]; exact hK _ _ h
theorem wpList_skip {ops : Array Oper} {rest : List Oper} {o : Oper} {a : Act} {Q : Exit → Act → World → Prop} {w w' : World} (hgd : o.guard = none) (hd : o.dst = none) (hr : (execOp a.eval o).run P w = .ok .skip w') (h : wpList P ops Q rest a w') : wpList P ops Q (o :: rest) a w :=
  wpList_plain hgd fun _ hK => by unfold Oper.wp; rw [hr]; exact hK _ _ (by first | exact h | (rw [hd]; exact h))

def updC (d : Nat → Bool) (i : Nat) : Nat → Bool := fun j => if j = i then true else d j
def updW (vs : Nat → Value) (i : Nat) (v : Value) : Nat → Value := fun j => if j = i then v else vs j

theorem wp_flow_inv2 {ops : Array Oper} {Q : Exit → Act → World → Prop} {id : Nat} {a0 : Act} {w : World} (hm : P.follows .mixedOrders = true) (hline : lineUp ops = true) (m n : Nat) (hsz : ops.size = m) (ys : Nat → Nat)
    (D : Nat → Nat) (hD : ((List.range n).all fun j => (ops.getD (ys j) default).dst == some (D j)) = true)
    (hst : ((List.range m).all fun i => (List.range n).any (fun j => ys j == i) || (ops.getD i default).dst == none) = true)
    (hyi : ((List.range n).all fun i => (List.range i).all fun j => ys i != ys j) = true) (hyl : ((List.range n).all fun j => decide (ys j < m)) = true)
    (hDs : ((List.range n).all fun i => decide (D i < a0.tmps.size)) = true)
    (hDi : ((List.range n).all fun i => (List.range i).all fun j => D i != D j) = true)
    (hng : ((List.range m).all fun i => (ops.getD i default).guard == none) = true)
    (F : Nat → Value → Prop) (J : (Nat → Bool) → (Nat → Value) → World → Prop)
    (h0 : ∀ vs, J (fun _ => false) vs w.drew)
    (hstep : ∀ (i : Nat) (o : Oper) (a : Act) (W : World) (d : Nat → Bool) (vs : Nat → Value), i < m → ops.getD i default = o → d i = false → J d vs W →
      (∀ s, ((List.range n).all fun j => D j != s) = true → a.tmps.getD s undef = a0.tmps.getD s undef) →
      (∀ k, (o.after.any fun e => Region.binds .any e && e.on == k) = true → d k = true) →
      (∀ j, j < n → d (ys j) = true → F j (vs j) ∧ a.tmps.getD (D j) undef = vs j) →
      (∃ j, j < n ∧ ys j = i ∧ ∃ v W', (execOp a.eval o).run P W = .ok (.value v) W' ∧ F j v ∧ J (updC d i) (updW vs j v) W') ∨
      (o.dst = none ∧ ∃ W', (execOp a.eval o).run P W = .ok .skip W' ∧ J (updC d i) vs W'))
    (hend : ∀ (d : Nat → Bool) (vs : Nat → Value) (W : World), (∀ i, i < m → d i = true) → J d vs W → (∀ j, j < n → F j (vs j)) → Q .normal (puts D vs n a0) W) : (Code.region id ops true).wp P Q a0 w := by
  have hyl' : ∀ j, j < n → ys j < m := fun j hj => by simpa using List.all_eq_true.1 hyl j (List.mem_range.2 hj)
  have hD' : ∀ j o, j < n → ops[ys j]? = some o → o.dst = some (D j) := by
    intro j o hj ho
    have h1 := List.all_eq_true.1 hD j (List.mem_range.2 hj)
    have h2 : ops.getD (ys j) default = o := by
      have := (Array.getElem?_eq_some_iff.1 ho).2
      simp [Array.getD, hsz, hyl' j hj, this]
    rw [h2] at h1
    simpa using h1
  have hDs' : ∀ i, i < n → D i < a0.tmps.size := fun i hi => by simpa using List.all_eq_true.1 hDs i (List.mem_range.2 hi)
  have inj : ∀ (f : Nat → Nat), ((List.range n).all fun i => (List.range i).all fun j => f i != f j) = true → ∀ i j, i < n → j < n → f i = f j → i = j := by
    intro f hf
    have key : ∀ i j, i < n → j < i → f i ≠ f j := fun i j hi hj => by
      have h1 := List.all_eq_true.1 hf i (List.mem_range.2 hi)
      have h2 := List.all_eq_true.1 h1 j (List.mem_range.2 hj)
      simpa using h2
    intro i j hi hj he
    rcases Nat.lt_trichotomy i j with h | h | h
    · exact absurd he.symm (key j i hj h)
    · exact h
    · exact absurd he (key i j hi h)
  have hDi' := inj D hDi
  have hyi' := inj ys hyi
  refine wpIn_wide (n := 5).1 (wpIn_region_inv hm hline (fun d a W => a.tmps.size = a0.tmps.size ∧ a.defers = a0.defers ∧
    (∀ s, (∀ j, j < n → D j ≠ s) → a.tmps.getD s undef = a0.tmps.getD s undef) ∧ ∃ vs, (∀ j, j < n → d (ys j) = true → F j (vs j) ∧ a.tmps.getD (D j) undef = vs j) ∧ J d vs W) ?_ ?_ ?_)
  · exact ⟨rfl, rfl, fun _ _ => rfl, fun _ => undef, fun _ _ h => (by cases h), h0 _⟩
  · rintro d d' i o a W hdep ⟨hasz, hdf, hfr, vs, hFd, hJ⟩ ho hdi hd'i hdne hready
    have hi : i < m := by rw [← hsz]; exact (Array.getElem?_eq_some_iff.1 ho).1
    have hgo : ops.getD i default = o := by
      have := (Array.getElem?_eq_some_iff.1 ho).2
      simp [Array.getD, hsz, hi, this]
    have hgn : o.guard = none := by
      have h1 := List.all_eq_true.1 hng i (List.mem_range.2 hi)
      rw [hgo] at h1
      cases hgg : o.guard with
      | none => rfl
      | some p => rw [hgg] at h1; exact absurd h1 (by simp)
    have hdd : d' = updC d i := by
      funext j
      unfold updC
      by_cases hj : j = i
      · subst hj; rw [if_pos rfl]; exact hd'i
      · rw [if_neg hj]; exact hdne j hj
    have hfr' : ∀ s, ((List.range n).all fun j => D j != s) = true → a.tmps.getD s undef = a0.tmps.getD s undef := fun s hs => hfr s fun j hj => by
      have := List.all_eq_true.1 hs j (List.mem_range.2 hj)
      simpa using this
    have hst2 := hstep i o a W d vs hi hgo hdi hJ hfr' (fun k hk => by
      obtain ⟨u, hu, hbu⟩ := Array.any_eq_true.1 hk
      simp only [Bool.and_eq_true, beq_iff_eq] at hbu
      obtain ⟨hb, rfl⟩ := hbu
      exact hready _ (Array.getElem_mem hu) hb) hFd
    have hw : Region.wanted o (yielded ops a.tmps) = true := by unfold Region.wanted; rw [hgn]
    unfold wpOpIn
    rw [ho]
    simp only
    rw [if_pos hw]
    refine ⟨fun f _ => trivial, ?_⟩
    rw [show Fence.wide.round = none from rfl, Oper.semAt_none]
    rcases hst2 with ⟨j, hjn, hyj, v, W', hrun, hv, hJ'⟩ | ⟨hdst, W', hrun, hJ'⟩
    · rw [hrun]
      show _ ∧ _
      subst hyj
      rw [hD' j o hjn ho]
      refine ⟨by rw [size_puts]; exact hasz, hdf, fun s hs => by rw [getD_puts (Ne.symm (hs j hjn))]; exact hfr s hs, updW vs j v, fun k hk hdk => ?_, by rw [hdd]; exact hJ'⟩
      by_cases hki : k = j
      · subst hki
        unfold updW
        rw [if_pos rfl]
        exact ⟨hv, getD_puts_same (by rw [hasz]; exact hDs' k hk)⟩
      · unfold updW
        rw [if_neg hki, getD_puts (fun e => hki (hDi' _ _ hk hjn e))]
        exact hFd k hk (by rw [← hdne (ys k) (fun e => hki (hyi' _ _ hk hjn e))]; exact hdk)
    · rw [hrun]
      show _ ∧ _
      rw [hdst]
      have hno : ∀ k, k < n → ys k ≠ i := by
        intro k hk e
        subst e
        have := hD' k o hk ho
        rw [hdst] at this
        cases this
      refine ⟨hasz, hdf, hfr, vs, fun k hk hdk => hFd k hk (by rw [← hdne (ys k) (hno k hk)]; exact hdk), by rw [hdd]; exact hJ'⟩
  · rintro d a W ⟨hasz, hdf, hfr, vs, hFd, hJ⟩ hall
    rw [hsz] at hall
    have he : a = puts D vs n a0 := by
      refine act_ext (by rw [puts_size]; exact hasz) (fun s => ?_) (by rw [puts_defers]; exact hdf)
      by_cases hs : ∃ j, j < n ∧ D j = s
      · obtain ⟨j, hj, rfl⟩ := hs
        rw [puts_at D _ n a0 hDs' hDi' j hj]
        exact (hFd j hj (hall _ (hyl' j hj))).2
      · rw [puts_other _ _ _ _ _ (fun i hi h => hs ⟨i, hi, h⟩)]
        exact hfr s fun j hj h => hs ⟨j, hj, h⟩
    rw [he]
    exact hend d vs W hall hJ fun j hj => (hFd j hj (hall _ (hyl' j hj))).1

end Go.Proofs.YtgnpjenpehfjbaaDoor

namespace Go.Proofs.YtgnpjenpehfjbaaDoor
open Go.RowKit
variable {P : Program}

theorem wpIn_flowM {F0 : Fence} {n0 : Nat} (hfn : ∀ f, F0.fn f) (hdep0 : F0.depth.isSome = true → 1 ≤ n0) {ops : Array Oper} {Q : Exit → Act → World → Prop} {id : Nat} {a0 : Act} {w : World} (hm : P.follows .mixedOrders = true) (hline : lineUp ops = true) (m n : Nat) (hsz : ops.size = m) (ys : Nat → Nat)
    (D : Nat → Nat) (hD : ((List.range n).all fun j => (ops.getD (ys j) default).dst == some (D j)) = true)
    (hst : ((List.range m).all fun i => (List.range n).any (fun j => ys j == i) || (ops.getD i default).dst == none) = true)
    (hyi : ((List.range n).all fun i => (List.range i).all fun j => ys i != ys j) = true) (hyl : ((List.range n).all fun j => decide (ys j < m)) = true)
    (hDs : ((List.range n).all fun i => decide (D i < a0.tmps.size)) = true)
    (hDi : ((List.range n).all fun i => (List.range i).all fun j => D i != D j) = true)
    (hnd : ((List.range m).all fun i => match (ops.getD i default).op with | .defer _ => false | _ => true) = true)
    (F : Nat → Value → Prop) (J : (Nat → Bool) → (Nat → Value) → World → Prop)
    (h0 : ∀ vs, J (fun _ => false) vs w.drew)
    (hstep : ∀ (i : Nat) (o : Oper) (a : Act) (W : World) (d : Nat → Bool) (vs : Nat → Value), i < m → ops.getD i default = o → d i = false → J d vs W →
      (∀ s, ((List.range n).all fun j => D j != s) = true → a.tmps.getD s undef = a0.tmps.getD s undef) →
      (∀ k, (o.after.any fun e => Region.binds .any e && e.on == k) = true → d k = true) →
      (∀ j, j < n → d (ys j) = true → F j (vs j) ∧ a.tmps.getD (D j) undef = vs j) →
      ((∀ k b, o.guard = some (k, b) → ∃ j, j < n ∧ ys j = k ∧ a.tmps.getD (D j) undef = .bool b) ∧
        ((∃ j, j < n ∧ ys j = i ∧ ∃ v W', (execOp a.eval o).run P W = .ok (.value v) W' ∧ F j v ∧ J (updC d i) (updW vs j v) W') ∨
        (o.dst = none ∧ ∃ W', (execOp a.eval o).run P W = .ok .skip W' ∧ J (updC d i) vs W') ∨
        (∃ j, j < n ∧ ys j = i ∧ ∃ f args W1, (execOp a.eval o).run P W = .ok (.enter f args) W1 ∧ CallsIn F0 (n0 - 1) P f args W1 fun e W' => ∃ v, e = .returned v ∧ F j v ∧ J (updC d i) (updW vs j v) W'))) ∨
      (∃ k b j, o.guard = some (k, b) ∧ j < n ∧ ys j = k ∧ a.tmps.getD (D j) undef ≠ .bool b ∧
        ((∃ j, j < n ∧ ys j = i ∧ F j undef ∧ J (updC d i) (updW vs j undef) W) ∨ (o.dst = none ∧ J (updC d i) vs W))))
    (hend : ∀ (d : Nat → Bool) (vs : Nat → Value) (W : World), (∀ i, i < m → d i = true) → J d vs W → (∀ j, j < n → F j (vs j)) → Q .normal (puts D vs n a0) W) : (Code.region id ops true).wpIn F0 n0 P Q a0 w := by
  have hyl' : ∀ j, j < n → ys j < m := fun j hj => by simpa using List.all_eq_true.1 hyl j (List.mem_range.2 hj)
  have hD' : ∀ j o, j < n → ops[ys j]? = some o → o.dst = some (D j) := by
    intro j o hj ho
    have h1 := List.all_eq_true.1 hD j (List.mem_range.2 hj)
    have h2 : ops.getD (ys j) default = o := by
      have := (Array.getElem?_eq_some_iff.1 ho).2
      simp [Array.getD, hsz, hyl' j hj, this]
    rw [h2] at h1
    simpa using h1
  have hDs' : ∀ i, i < n → D i < a0.tmps.size := fun i hi => by simpa using List.all_eq_true.1 hDs i (List.mem_range.2 hi)
  have inj : ∀ (f : Nat → Nat), ((List.range n).all fun i => (List.range i).all fun j => f i != f j) = true → ∀ i j, i < n → j < n → f i = f j → i = j := by
    intro f hf
    have key : ∀ i j, i < n → j < i → f i ≠ f j := fun i j hi hj => by
      have h1 := List.all_eq_true.1 hf i (List.mem_range.2 hi)
      have h2 := List.all_eq_true.1 h1 j (List.mem_range.2 hj)
      simpa using h2
    intro i j hi hj he
    rcases Nat.lt_trichotomy i j with h | h | h
    · exact absurd he.symm (key j i hj h)
    · exact h
    · exact absurd he (key i j hi h)
  have hDi' := inj D hDi
  have hyi' := inj ys hyi
  refine wpIn_region_inv hm hline (fun d a W => a.tmps.size = a0.tmps.size ∧ a.defers = a0.defers ∧
    (∀ s, (∀ j, j < n → D j ≠ s) → a.tmps.getD s undef = a0.tmps.getD s undef) ∧ ∃ vs, (∀ j, j < n → d (ys j) = true → F j (vs j) ∧ a.tmps.getD (D j) undef = vs j) ∧ J d vs W) ?_ ?_ ?_
  · exact ⟨rfl, rfl, fun _ _ => rfl, fun _ => undef, fun _ _ h => (by cases h), h0 _⟩
  · rintro d d' i o a W hdep ⟨hasz, hdf, hfr, vs, hFd, hJ⟩ ho hdi hd'i hdne hready
    have hi : i < m := by rw [← hsz]; exact (Array.getElem?_eq_some_iff.1 ho).1
    have hgo : ops.getD i default = o := by
      have := (Array.getElem?_eq_some_iff.1 ho).2
      simp [Array.getD, hsz, hi, this]
    have hndf : ∀ c, o.op ≠ .defer c := by
      have h1 := List.all_eq_true.1 hnd i (List.mem_range.2 hi)
      rw [hgo] at h1
      intro c hc
      rw [hc] at h1
      cases h1
    have hdd : d' = updC d i := by
      funext j
      unfold updC
      by_cases hj : j = i
      · subst hj; rw [if_pos rfl]; exact hd'i
      · rw [if_neg hj]; exact hdne j hj
    have hfr' : ∀ s, ((List.range n).all fun j => D j != s) = true → a.tmps.getD s undef = a0.tmps.getD s undef := fun s hs => hfr s fun j hj => by
      have := List.all_eq_true.1 hs j (List.mem_range.2 hj)
      simpa using this
    have hst2 := hstep i o a W d vs hi hgo hdi hJ hfr' (fun k hk => by
      obtain ⟨u, hu, hbu⟩ := Array.any_eq_true.1 hk
      simp only [Bool.and_eq_true, beq_iff_eq] at hbu
      obtain ⟨hb, rfl⟩ := hbu
      exact hready _ (Array.getElem_mem hu) hb) hFd
    have hval : ∀ j, j < n → (ops[ys j]?).bind (·.dst) = some (D j) ∧ a.tmps[D j]? = some (a.tmps.getD (D j) undef) := by
      intro j hj
      have hlt : ys j < ops.size := by rw [hsz]; exact hyl' j hj
      have h3 : ops[ys j]? = some ops[ys j] := by simp [hlt]
      refine ⟨by rw [h3]; exact hD' j _ hj h3, ?_⟩
      have h5 : D j < a.tmps.size := by rw [hasz]; exact hDs' j hj
      simp [Array.getD, h5]
    have yld : ∀ j, j < n → ∀ v, F j v → ∀ W', J (updC d i) (updW vs j v) W' → ys j = i → ((a.put (some (D j)) v).tmps.size = a0.tmps.size ∧ (a.put (some (D j)) v).defers = a0.defers ∧
        (∀ s, (∀ k, k < n → D k ≠ s) → (a.put (some (D j)) v).tmps.getD s undef = a0.tmps.getD s undef) ∧ ∃ vs, (∀ k, k < n → d' (ys k) = true → F k (vs k) ∧ (a.put (some (D j)) v).tmps.getD (D k) undef = vs k) ∧ J d' vs W') := by
      intro j hjn v hv W' hJ' hyj
      subst hyj
      refine ⟨by rw [size_puts]; exact hasz, hdf, fun s hs => by rw [getD_puts (Ne.symm (hs j hjn))]; exact hfr s hs, updW vs j v, fun k hk hdk => ?_, by rw [hdd]; exact hJ'⟩
      by_cases hki : k = j
      · subst hki
        unfold updW
        rw [if_pos rfl]
        exact ⟨hv, getD_puts_same (by rw [hasz]; exact hDs' k hk)⟩
      · unfold updW
        rw [if_neg hki, getD_puts (fun e => hki (hDi' _ _ hk hjn e))]
        exact hFd k hk (by rw [← hdne (ys k) (fun e => hki (hyi' _ _ hk hjn e))]; exact hdk)
    have skp : o.dst = none → ∀ W', J (updC d i) vs W' → (a.tmps.size = a0.tmps.size ∧ a.defers = a0.defers ∧
        (∀ s, (∀ k, k < n → D k ≠ s) → a.tmps.getD s undef = a0.tmps.getD s undef) ∧ ∃ vs, (∀ k, k < n → d' (ys k) = true → F k (vs k) ∧ a.tmps.getD (D k) undef = vs k) ∧ J d' vs W') := by
      intro hdst W' hJ'
      have hno : ∀ k, k < n → ys k ≠ i := by
        intro k hk e
        subst e
        have := hD' k o hk ho
        rw [hdst] at this
        cases this
      exact ⟨hasz, hdf, hfr, vs, fun k hk hdk => hFd k hk (by rw [← hdne (ys k) (hno k hk)]; exact hdk), by rw [hdd]; exact hJ'⟩
    unfold wpOpIn
    rw [ho]
    simp only
    rcases hst2 with ⟨hgw, hst2⟩ | ⟨k, b, j, hgg, hjn, hjk, hne, hst2⟩
    · have hw : Region.wanted o (yielded ops a.tmps) = true := by
        unfold Region.wanted
        cases hgg : o.guard with
        | none => rfl
        | some p =>
          obtain ⟨k, b⟩ := p
          obtain ⟨j, hjn, rfl, hjb⟩ := hgw k b hgg
          obtain ⟨h1, h2⟩ := hval j hjn
          rw [hjb] at h2
          simp [yielded, h1, h2]
      rw [if_pos hw]
      refine ⟨fun f _ => hfn f, ?_⟩
      rw [Oper.semAt_eq _ _ _ hndf]
      rcases hst2 with ⟨j, hjn, hyj, v, W', hrun, hv, hJ'⟩ | ⟨hdst, W', hrun, hJ'⟩ | ⟨j, hjn, hyj, f, args, W1, hrun, hcall⟩
      · rw [hrun]
        show _ ∧ _
        rw [hD' j o hjn (by rw [hyj]; exact ho)]
        exact yld j hjn v hv W' hJ' hyj
      · rw [hrun]
        show _ ∧ _
        rw [hdst]
        exact skp hdst W' hJ'
      · rw [hrun]
        refine ⟨hdep0, hcall.mono ?_⟩
        rintro e W' ⟨v, rfl, hv, hJ'⟩
        show _ ∧ _
        rw [hD' j o hjn (by rw [hyj]; exact ho)]
        exact yld j hjn v hv W' hJ' hyj
    · have hw : ¬ Region.wanted o (yielded ops a.tmps) = true := by
        unfold Region.wanted
        subst hjk
        obtain ⟨h1, h2⟩ := hval j hjn
        rw [hgg]
        simp only [yielded, h1, Option.bind_some, h2]
        intro hc
        apply hne
        revert hc
        generalize a.tmps.getD (D j) undef = u
        cases u <;> simp
      rw [if_neg hw]
      refine ⟨fun f _ => hfn f, ?_⟩
      rcases hst2 with ⟨j, hjn, hyj, hv, hJ'⟩ | ⟨hdst, hJ'⟩
      · rw [hD' j o hjn (by rw [hyj]; exact ho)]
        exact yld j hjn undef hv W hJ' hyj
      · rw [hdst]
        exact skp hdst W hJ'
  · rintro d a W ⟨hasz, hdf, hfr, vs, hFd, hJ⟩ hall
    rw [hsz] at hall
    have he : a = puts D vs n a0 := by
      refine act_ext (by rw [puts_size]; exact hasz) (fun s => ?_) (by rw [puts_defers]; exact hdf)
      by_cases hs : ∃ j, j < n ∧ D j = s
      · obtain ⟨j, hj, rfl⟩ := hs
        rw [puts_at D _ n a0 hDs' hDi' j hj]
        exact (hFd j hj (hall _ (hyl' j hj))).2
      · rw [puts_other _ _ _ _ _ (fun i hi h => hs ⟨i, hi, h⟩)]
        exact hfr s fun j hj h => hs ⟨j, hj, h⟩
    rw [he]
    exact hend d vs W hall hJ fun j hj => (hFd j hj (hall _ (hyl' j hj))).1

end Go.Proofs.YtgnpjenpehfjbaaDoor

namespace Go.Proofs.YtgnpjenpehfjbaaDoor
open Go.RowKit
variable {P : Program}

theorem wpIn_flowM2 {F0 : Fence} {n0 : Nat} (hfn : ∀ f, F0.fn f) (hdep0 : F0.depth.isSome = true → 1 ≤ n0) {ops : Array Oper} {Q : Exit → Act → World → Prop} {id : Nat} {a0 : Act} {w : World} (hm : P.follows .mixedOrders = true) (hline : lineUp ops = true) (m n : Nat) (hsz : ops.size = m) (ys : Nat → Nat)
    (D : Nat → Nat) (hD : ((List.range n).all fun j => (ops.getD (ys j) default).dst == some (D j)) = true)
    (hst : ((List.range m).all fun i => (List.range n).any (fun j => ys j == i) || (ops.getD i default).dst == none) = true)
    (hyi : ((List.range n).all fun i => (List.range i).all fun j => ys i != ys j) = true) (hyl : ((List.range n).all fun j => decide (ys j < m)) = true)
    (hDs : ((List.range n).all fun i => decide (D i < a0.tmps.size)) = true)
    (hDi : ((List.range n).all fun i => (List.range i).all fun j => D i != D j) = true)
    (hnd : ((List.range m).all fun i => match (ops.getD i default).op with | .defer _ => false | _ => true) = true)
    (F : Nat → Value → Prop) (J : (Nat → Bool) → (Nat → Value) → World → Prop)
    (h0 : ∀ vs, J (fun _ => false) vs w.drew)
    (hstep : ∀ (i : Nat) (o : Oper) (a : Act) (W : World) (d : Nat → Bool) (vs : Nat → Value), i < m → ops.getD i default = o → d i = false → J d vs W →
      (∀ s, ((List.range n).all fun j => D j != s) = true → a.tmps.getD s undef = a0.tmps.getD s undef) →
      (∀ k, (o.after.any fun e => Region.binds .any e && e.on == k) = true → d k = true) →
      (∀ j, j < n → d (ys j) = true → F j (vs j) ∧ a.tmps.getD (D j) undef = vs j) →
      (∀ j, j < n → d (ys j) = false → a.tmps.getD (D j) undef = a0.tmps.getD (D j) undef) →
      ((∀ k b, o.guard = some (k, b) → ∃ j, j < n ∧ ys j = k ∧ a.tmps.getD (D j) undef = .bool b) ∧
        ((∃ j, j < n ∧ ys j = i ∧ ∃ v W', (execOp a.eval o).run P W = .ok (.value v) W' ∧ F j v ∧ J (updC d i) (updW vs j v) W') ∨
        (o.dst = none ∧ ∃ W', (execOp a.eval o).run P W = .ok .skip W' ∧ J (updC d i) vs W') ∨
        (∃ j, j < n ∧ ys j = i ∧ ∃ f args W1, (execOp a.eval o).run P W = .ok (.enter f args) W1 ∧ CallsIn F0 (n0 - 1) P f args W1 fun e W' => ∃ v, e = .returned v ∧ F j v ∧ J (updC d i) (updW vs j v) W'))) ∨
      (∃ k b j, o.guard = some (k, b) ∧ j < n ∧ ys j = k ∧ a.tmps.getD (D j) undef ≠ .bool b ∧
        ((∃ j, j < n ∧ ys j = i ∧ F j undef ∧ J (updC d i) (updW vs j undef) W) ∨ (o.dst = none ∧ J (updC d i) vs W))))
    (hend : ∀ (d : Nat → Bool) (vs : Nat → Value) (W : World), (∀ i, i < m → d i = true) → J d vs W → (∀ j, j < n → F j (vs j)) → Q .normal (puts D vs n a0) W) : (Code.region id ops true).wpIn F0 n0 P Q a0 w := by
  have hyl' : ∀ j, j < n → ys j < m := fun j hj => by simpa using List.all_eq_true.1 hyl j (List.mem_range.2 hj)
  have hD' : ∀ j o, j < n → ops[ys j]? = some o → o.dst = some (D j) := by
    intro j o hj ho
    have h1 := List.all_eq_true.1 hD j (List.mem_range.2 hj)
    have h2 : ops.getD (ys j) default = o := by
      have := (Array.getElem?_eq_some_iff.1 ho).2
      simp [Array.getD, hsz, hyl' j hj, this]
    rw [h2] at h1
    simpa using h1
  have hDs' : ∀ i, i < n → D i < a0.tmps.size := fun i hi => by simpa using List.all_eq_true.1 hDs i (List.mem_range.2 hi)
  have inj : ∀ (f : Nat → Nat), ((List.range n).all fun i => (List.range i).all fun j => f i != f j) = true → ∀ i j, i < n → j < n → f i = f j → i = j := by
    intro f hf
    have key : ∀ i j, i < n → j < i → f i ≠ f j := fun i j hi hj => by
      have h1 := List.all_eq_true.1 hf i (List.mem_range.2 hi)
      have h2 := List.all_eq_true.1 h1 j (List.mem_range.2 hj)
      simpa using h2
    intro i j hi hj he
    rcases Nat.lt_trichotomy i j with h | h | h
    · exact absurd he.symm (key j i hj h)
    · exact h
    · exact absurd he (key i j hi h)
  have hDi' := inj D hDi
  have hyi' := inj ys hyi
  refine wpIn_region_inv hm hline (fun d a W => a.tmps.size = a0.tmps.size ∧ a.defers = a0.defers ∧
    (∀ s, (∀ j, j < n → D j ≠ s) → a.tmps.getD s undef = a0.tmps.getD s undef) ∧ (∀ j, j < n → d (ys j) = false → a.tmps.getD (D j) undef = a0.tmps.getD (D j) undef) ∧ ∃ vs, (∀ j, j < n → d (ys j) = true → F j (vs j) ∧ a.tmps.getD (D j) undef = vs j) ∧ J d vs W) ?_ ?_ ?_
  · exact ⟨rfl, rfl, fun _ _ => rfl, fun _ _ _ => rfl, fun _ => undef, fun _ _ h => (by cases h), h0 _⟩
  · rintro d d' i o a W hdep ⟨hasz, hdf, hfr, hfz, vs, hFd, hJ⟩ ho hdi hd'i hdne hready
    have hi : i < m := by rw [← hsz]; exact (Array.getElem?_eq_some_iff.1 ho).1
    have hgo : ops.getD i default = o := by
      have := (Array.getElem?_eq_some_iff.1 ho).2
      simp [Array.getD, hsz, hi, this]
    have hndf : ∀ c, o.op ≠ .defer c := by
      have h1 := List.all_eq_true.1 hnd i (List.mem_range.2 hi)
      rw [hgo] at h1
      intro c hc
      rw [hc] at h1
      cases h1
    have hdd : d' = updC d i := by
      funext j
      unfold updC
      by_cases hj : j = i
      · subst hj; rw [if_pos rfl]; exact hd'i
      · rw [if_neg hj]; exact hdne j hj
    have hfr' : ∀ s, ((List.range n).all fun j => D j != s) = true → a.tmps.getD s undef = a0.tmps.getD s undef := fun s hs => hfr s fun j hj => by
      have := List.all_eq_true.1 hs j (List.mem_range.2 hj)
      simpa using this
    have hst2 := hstep i o a W d vs hi hgo hdi hJ hfr' (fun k hk => by
      obtain ⟨u, hu, hbu⟩ := Array.any_eq_true.1 hk
      simp only [Bool.and_eq_true, beq_iff_eq] at hbu
      obtain ⟨hb, rfl⟩ := hbu
      exact hready _ (Array.getElem_mem hu) hb) hFd hfz
    have hval : ∀ j, j < n → (ops[ys j]?).bind (·.dst) = some (D j) ∧ a.tmps[D j]? = some (a.tmps.getD (D j) undef) := by
      intro j hj
      have hlt : ys j < ops.size := by rw [hsz]; exact hyl' j hj
      have h3 : ops[ys j]? = some ops[ys j] := by simp [hlt]
      refine ⟨by rw [h3]; exact hD' j _ hj h3, ?_⟩
      have h5 : D j < a.tmps.size := by rw [hasz]; exact hDs' j hj
      simp [Array.getD, h5]
    have yld : ∀ j, j < n → ∀ v, F j v → ∀ W', J (updC d i) (updW vs j v) W' → ys j = i → ((a.put (some (D j)) v).tmps.size = a0.tmps.size ∧ (a.put (some (D j)) v).defers = a0.defers ∧
        (∀ s, (∀ k, k < n → D k ≠ s) → (a.put (some (D j)) v).tmps.getD s undef = a0.tmps.getD s undef) ∧ (∀ k, k < n → d' (ys k) = false → (a.put (some (D j)) v).tmps.getD (D k) undef = a0.tmps.getD (D k) undef) ∧ ∃ vs, (∀ k, k < n → d' (ys k) = true → F k (vs k) ∧ (a.put (some (D j)) v).tmps.getD (D k) undef = vs k) ∧ J d' vs W') := by
      intro j hjn v hv W' hJ' hyj
      subst hyj
      refine ⟨by rw [size_puts]; exact hasz, hdf, fun s hs => by rw [getD_puts (Ne.symm (hs j hjn))]; exact hfr s hs, fun k hk hdk => (by
        have hki : k ≠ j := by rintro rfl; rw [hd'i] at hdk; cases hdk
        rw [getD_puts (fun e => hki (hDi' _ _ hk hjn e))]
        exact hfz k hk (by rw [← hdne (ys k) (fun e => hki (hyi' _ _ hk hjn e))]; exact hdk)), updW vs j v, fun k hk hdk => ?_, by rw [hdd]; exact hJ'⟩
      by_cases hki : k = j
      · subst hki
        unfold updW
        rw [if_pos rfl]
        exact ⟨hv, getD_puts_same (by rw [hasz]; exact hDs' k hk)⟩
      · unfold updW
        rw [if_neg hki, getD_puts (fun e => hki (hDi' _ _ hk hjn e))]
        exact hFd k hk (by rw [← hdne (ys k) (fun e => hki (hyi' _ _ hk hjn e))]; exact hdk)
    have skp : o.dst = none → ∀ W', J (updC d i) vs W' → (a.tmps.size = a0.tmps.size ∧ a.defers = a0.defers ∧
        (∀ s, (∀ k, k < n → D k ≠ s) → a.tmps.getD s undef = a0.tmps.getD s undef) ∧ (∀ k, k < n → d' (ys k) = false → a.tmps.getD (D k) undef = a0.tmps.getD (D k) undef) ∧ ∃ vs, (∀ k, k < n → d' (ys k) = true → F k (vs k) ∧ a.tmps.getD (D k) undef = vs k) ∧ J d' vs W') := by
      intro hdst W' hJ'
      have hno : ∀ k, k < n → ys k ≠ i := by
        intro k hk e
        subst e
        have := hD' k o hk ho
        rw [hdst] at this
        cases this
      exact ⟨hasz, hdf, hfr, fun k hk hdk => hfz k hk (by rw [← hdne (ys k) (hno k hk)]; exact hdk), vs, fun k hk hdk => hFd k hk (by rw [← hdne (ys k) (hno k hk)]; exact hdk), by rw [hdd]; exact hJ'⟩
    unfold wpOpIn
    rw [ho]
    simp only
    rcases hst2 with ⟨hgw, hst2⟩ | ⟨k, b, j, hgg, hjn, hjk, hne, hst2⟩
    · have hw : Region.wanted o (yielded ops a.tmps) = true := by
        unfold Region.wanted
        cases hgg : o.guard with
        | none => rfl
        | some p =>
          obtain ⟨k, b⟩ := p
          obtain ⟨j, hjn, rfl, hjb⟩ := hgw k b hgg
          obtain ⟨h1, h2⟩ := hval j hjn
          rw [hjb] at h2
          simp [yielded, h1, h2]
      rw [if_pos hw]
      refine ⟨fun f _ => hfn f, ?_⟩
      rw [Oper.semAt_eq _ _ _ hndf]
      rcases hst2 with ⟨j, hjn, hyj, v, W', hrun, hv, hJ'⟩ | ⟨hdst, W', hrun, hJ'⟩ | ⟨j, hjn, hyj, f, args, W1, hrun, hcall⟩
      · rw [hrun]
        show _ ∧ _
        rw [hD' j o hjn (by rw [hyj]; exact ho)]
        exact yld j hjn v hv W' hJ' hyj
      · rw [hrun]
        show _ ∧ _
        rw [hdst]
        exact skp hdst W' hJ'
      · rw [hrun]
        refine ⟨hdep0, hcall.mono ?_⟩
        rintro e W' ⟨v, rfl, hv, hJ'⟩
        show _ ∧ _
        rw [hD' j o hjn (by rw [hyj]; exact ho)]
        exact yld j hjn v hv W' hJ' hyj
    · have hw : ¬ Region.wanted o (yielded ops a.tmps) = true := by
        unfold Region.wanted
        subst hjk
        obtain ⟨h1, h2⟩ := hval j hjn
        rw [hgg]
        simp only [yielded, h1, Option.bind_some, h2]
        intro hc
        apply hne
        revert hc
        generalize a.tmps.getD (D j) undef = u
        cases u <;> simp
      rw [if_neg hw]
      refine ⟨fun f _ => hfn f, ?_⟩
      rcases hst2 with ⟨j, hjn, hyj, hv, hJ'⟩ | ⟨hdst, hJ'⟩
      · rw [hD' j o hjn (by rw [hyj]; exact ho)]
        exact yld j hjn undef hv W hJ' hyj
      · rw [hdst]
        exact skp hdst W hJ'
  · rintro d a W ⟨hasz, hdf, hfr, -, vs, hFd, hJ⟩ hall
    rw [hsz] at hall
    have he : a = puts D vs n a0 := by
      refine act_ext (by rw [puts_size]; exact hasz) (fun s => ?_) (by rw [puts_defers]; exact hdf)
      by_cases hs : ∃ j, j < n ∧ D j = s
      · obtain ⟨j, hj, rfl⟩ := hs
        rw [puts_at D _ n a0 hDs' hDi' j hj]
        exact (hFd j hj (hall _ (hyl' j hj))).2
      · rw [puts_other _ _ _ _ _ (fun i hi h => hs ⟨i, hi, h⟩)]
        exact hfr s fun j hj h => hs ⟨j, hj, h⟩
    rw [he]
    exact hend d vs W hall hJ fun j hj => (hFd j hj (hall _ (hyl' j hj))).1

end Go.Proofs.YtgnpjenpehfjbaaDoor

namespace Go.Proofs.YtgnpjenpehfjbaaDoor
open Go.RowKit

variable {F : Fence} {n : Nat} {P : Program}

/-- as wpIn_range; what takes an element in may make blocks and store (Ax: what it leaves) -/
theorem wpIn_range_as {α : Type} {g : Operand} {ps : Array Tmp} {assign body : Code} {Q : Exit → Act → World → Prop} {a : Act} {w : World}
    (hro : F.round = none) (h1 : 1 ≤ n) {gf : Nat} {lb : Array Value} (hg : a.eval g = .func (.func gf) #[] lb) (hFg : F.fn gf) (eg : ∀ args w, (callFunc gf args).run P w = .ok (.enter gf args) w)
    {encs : α → Array Value} {Inv : World → Prop} {R : List α → α → World → Prop} {S Sp : List α → Prop} (hit : Iterates F (n - 1) P gf lb encs Inv R S Sp)
    (hps : ∀ x, (encs x).size = ps.size)
    (hRput : ∀ pre x W l (o o' : Obj), R pre x W → W.heap[l]? = some o → o.isCells = false → R pre x (W.putObj l o'))
    (I : List α → World → Prop) (Ix : Code → List α → World → Prop) (hI : StaysGrown I) (hIp : StaysPut w.heap.size I) (hIxp : ∀ c, StaysPut w.heap.size (Ix c)) (hInv : ∀ s W, I s W → Inv W) (h0 : I [] w) {β₁ β₂ β₃ β₄ β₅ β₆ : Type} (A : β₁ → β₂ → β₃ → β₄ → β₅ → β₆ → Act) (Ax : α → β₁ → β₂ → β₃ → β₄ → β₅ → β₆ → World → Prop) (hAxp : ∀ x b₁ b₂ b₃ b₄ b₅ b₆ W l (o o' : Obj), Ax x b₁ b₂ b₃ b₄ b₅ b₆ W → w.heap.size ≤ l → W.heap[l]? = some o → o.isCells = false → Ax x b₁ b₂ b₃ b₄ b₅ b₆ (W.putObj l o'))
    (hassign : ∀ (l : Nat) (pre : List α) (x : α) (W : World) (K : Act → World → Prop), I pre W → R pre x W → (∀ b₁ b₂ b₃ b₄ b₅ b₆ W', KeepsOthers W W' → I pre W' → R pre x W' → Ax x b₁ b₂ b₃ b₄ b₅ b₆ W' → K (A b₁ b₂ b₃ b₄ b₅ b₆) W') →
      assign.wpIn (F.inRound l) (n - 1 - 1) P (Exit.then K (fun _ _ _ => False)) { tmps := (ps.zip (encs x)).foldl (fun t (p, v) => t.setIfInBounds p v) a.tmps, defers := [] } W)
    (hbody : ∀ (l : Nat) (pre : List α) (x : α) b₁ b₂ b₃ b₄ b₅ b₆ (W : World), I pre W → R pre x W → Ax x b₁ b₂ b₃ b₄ b₅ b₆ W → body.wpIn (F.inRound l) (n - 1 - 1) P (ownPost I Ix (pre ++ [x]) W) (A b₁ b₂ b₃ b₄ b₅ b₆) W)
    (hdone : ∀ (D : Nat) (xs : List α) (W : World), S xs → I xs W → W.heap[D]? = some (.deferred (some [])) → w.heap.size ≤ D → Q .normal { a with defers := { target := .collected D, args := #[] } :: a.defers } W)
    (hstop : ∀ (D : Nat) (c : Code) (pre : List α) (W : World), Sp pre → Ix c pre W → W.heap[D]? = some (.deferred (some [])) → w.heap.size ≤ D → c.wpIn F n P Q { a with defers := { target := .collected D, args := #[] } :: a.defers } W) :
    (Code.rangeFunc g ps assign body).wpIn F n P Q a w := by
  refine wpIn_rangeFunc fun fn hfn => ?_
  rw [hro]
  have hlen : w.heap.size < (w.alloc (.deferred (some []))).heap.size := by simp
  generalize hr0 : (fun (st : LoopState) (pe : Option Code) => ({ state := st, pending := pe, fn, tmps := a.tmps, params := ps, assign, body, defers := w.heap.size } : Loop)) = mk
  have mkps : ∀ st pe, (mk st pe).params = ps := fun st pe => by rw [← hr0]
  have mkEnd : ∀ (W : World) (l : Nat) (st : LoopState) (pe : Option Code), st ≠ .busy → W.heap[l]? = some (.loop (mk st pe)) → (Instr.endLoop l).run P W = .ok pe (W.putObj l (.loop (mk .exhausted pe))) :=
    fun W l st pe hst hl => by subst hr0; exact run_endLoop hl hst
  have mkBegin : ∀ (W : World) (l : Nat) (pe : Option Code), W.heap[l]? = some (.loop (mk .ready pe)) → (Instr.beginRound l).run P W = .ok () (W.putObj l (.loop (mk .busy pe))) :=
    fun W l pe hl => by subst hr0; exact run_beginRound hl rfl
  have mkRound : ∀ (W : World) (l : Nat) (pe jump : Option Code), W.heap[l]? = some (.loop (mk .busy pe)) → (Instr.endRound l jump).run P W = .ok (.bool jump.isNone) (W.putObj l (.loop (mk (if jump.isNone then .ready else .done) jump))) :=
    fun W l pe jump hl => by subst hr0; exact run_endRound jump hl
  generalize hw1 : (w.alloc (.deferred (some []))).alloc (.loop (mk .ready none)) = W1
  have below1 : Below w.heap.size w W1 := by
    rw [← hw1]; exact ((Below.refl _ w).alloc (Nat.le_refl _) _).alloc (by simp) _
  have rec1 : W1.heap[w.heap.size + 1]? = some (.loop (mk .ready none)) := by
    rw [← hw1]; have := World.alloc_heap_new (w.alloc (.deferred (some []))) (.loop (mk .ready none)); rwa [World.size_alloc] at this
  have def1 : W1.heap[w.heap.size]? = some (.deferred (some [])) := by
    rw [← hw1]; exact (Below.heap_alloc _ _ _ hlen).trans (World.alloc_heap_new w _)
  have keep2 : ∀ {A B : World} {k : Nat} {o : Obj}, Below A.heap.size A B → A.heap[k]? = some o → B.heap[k]? = some o := fun hb hk => (hb.block _ (Array.getElem?_eq_some_iff.1 hk).1).trans hk
  refine ⟨w.heap.size + 1, [{ target := .collected w.heap.size, args := #[] }], W1, { target := .fn (.func gf) lb, args := #[.func (.yield (w.heap.size + 1)) #[] #[]] }, W1, gf,
    #[.func (.yield (w.heap.size + 1)) #[] #[]] ++ lb, W1, ?_, ?_, ?_, ?_, fun _ => h1, ?_⟩
  · rw [← hw1, ← hr0]; exact run_enterLoop_outer _ _ _ _ _
  · simp only [resolve, hg]
    simp [go_sem]
  · intro f' hf'
    simp [Target.leads] at hf'
    subst hf'
    exact hFg
  · simp [invoke, go_sem, eg]
  refine (hit (w.heap.size + 1)
    (fun pre W => I pre W ∧ W.heap[w.heap.size + 1]? = some (.loop (mk .ready none)) ∧ W.heap[w.heap.size]? = some (.deferred (some [])))
    (fun pre W => ∃ c, Ix c pre W ∧ W.heap[w.heap.size + 1]? = some (.loop (mk .done (some c))) ∧ W.heap[w.heap.size]? = some (.deferred (some [])))
    W1 (fun s A B h hb => ⟨hI s A B h.1 hb, keep2 hb h.2.1, keep2 hb h.2.2⟩) (fun s W h => hInv s W h.1) ?round ⟨hI [] w W1 h0 below1, rec1, def1⟩).mono ?after
  case after =>
    rintro e W2 ⟨⟨v, rfl⟩, (⟨xs, hS, hi, hl, hk⟩ | ⟨pre, hSp, c, hi, hl, hk⟩)⟩
    · have he := mkEnd _ _ _ _ (by simp) hl
      exact ⟨none, _, he, hdone _ xs _ hS (hIp _ _ _ _ _ hi (by omega) hl rfl) ((World.putObj_heap_other (by omega)).trans hk) (Nat.le_refl _)⟩
    · have he := mkEnd _ _ _ _ (by simp) hl
      exact ⟨some c, _, he, hstop _ c pre _ hSp (hIxp c _ _ _ _ _ hi (by omega) hl rfl) ((World.putObj_heap_other (by omega)).trans hk) (Nat.le_refl _)⟩
  case round =>
    rintro pre x W ⟨hi, hl, hk⟩ hR
    have hlt : w.heap.size + 1 < W.heap.size := (Array.getElem?_eq_some_iff.1 hl).1
    have hy := run_yield (P := P) (args := encs x) hl (by rw [mkps]; exact hps x)
    have hyy : (Instr.yield (w.heap.size + 1) (encs x)).run P W = .ok (.round (w.heap.size + 1) fn ((ps.zip (encs x)).foldl (fun t (p, v) => t.setIfInBounds p v) a.tmps) assign body) W := by
      rw [hy, ← hr0]
    refine ⟨fn, _, assign, body, hyy, roundIn_of_wpIn hfn (hassign _ pre x W _ hi hR fun b₁ b₂ b₃ b₄ b₅ b₆ W' hko hi' hR' hAx => ⟨_, mkBegin _ _ _ (hko.same _ _ hl rfl), ?_⟩)⟩
    replace hl := hko.same _ _ hl rfl
    replace hk := hko.same _ _ hk rfl
    replace hi := hi'
    replace hR := hR'
    have hlt : w.heap.size + 1 < W'.heap.size := (Array.getElem?_eq_some_iff.1 hl).1
    have hAb := hAxp _ _ _ _ _ _ _ _ (w.heap.size + 1) _ (.loop (mk .busy none)) hAx (by omega) hl rfl
    generalize hwb : W'.putObj (w.heap.size + 1) (.loop (mk .busy none)) = Wb at *
    have hlb : Wb.heap[w.heap.size + 1]? = some (.loop (mk .busy none)) := by rw [← hwb]; exact World.putObj_heap_same hlt
    have hkb : Wb.heap[w.heap.size]? = some (.deferred (some [])) := by rw [← hwb]; exact (World.putObj_heap_other (by omega)).trans hk
    have hib : I pre Wb := by rw [← hwb]; exact hIp _ _ _ _ _ hi (by omega) hl rfl
    have hRb : R pre x Wb := by rw [← hwb]; exact hRput _ _ _ _ _ _ hR hl rfl
    refine wpIn_mono (hbody _ pre x _ _ _ _ _ _ Wb hib hRb hAb) ?_
    have fin : ∀ (jump : Option Code) (W3 : World), KeepsOthers Wb W3 → ∃ W4, (Instr.endRound (w.heap.size + 1) jump).run P W3 = .ok (.bool jump.isNone) W4 ∧ W4 = W3.putObj (w.heap.size + 1) (.loop (mk (if jump.isNone then .ready else .done) jump)) ∧
        W3.heap[w.heap.size + 1]? = some (.loop (mk .busy none)) ∧
        W4.heap[w.heap.size + 1]? = some (.loop (mk (if jump.isNone then .ready else .done) jump)) ∧ W4.heap[w.heap.size]? = some (.deferred (some [])) := by
      intro jump W3 hk3
      have hl3 := hk3.same _ _ hlb rfl
      have he := mkRound _ _ _ jump hl3
      exact ⟨_, he, rfl, hl3, World.putObj_heap_same (Array.getElem?_eq_some_iff.1 hl3).1, (World.putObj_heap_other (by omega)).trans (hk3.same _ _ hkb rfl)⟩
    rintro e a3 W3 hp
    cases e with
    | normal =>
      obtain ⟨hk3, hi3⟩ := hp
      obtain ⟨W4, hr, h4, hl3, hl4, hk4⟩ := fin none W3 hk3
      exact ⟨_, _, hr, .inl ⟨rfl, by rw [h4]; exact hIp _ _ _ _ _ hi3 (by omega) hl3 rfl, hl4, hk4⟩⟩
    | ret =>
      obtain ⟨hk3, hi3⟩ := hp
      obtain ⟨W4, hr, h4, hl3, hl4, hk4⟩ := fin (some .ret) W3 hk3
      exact ⟨_, _, hr, .inr ⟨rfl, .ret, by rw [h4]; exact hIxp _ _ _ _ _ _ hi3 (by omega) hl3 rfl, hl4, hk4⟩⟩
    | exit id =>
      obtain ⟨hk3, hi3⟩ := hp
      obtain ⟨W4, hr, h4, hl3, hl4, hk4⟩ := fin (some (.exit id)) W3 hk3
      exact ⟨_, _, hr, .inr ⟨rfl, .exit id, by rw [h4]; exact hIxp _ _ _ _ _ _ hi3 (by omega) hl3 rfl, hl4, hk4⟩⟩
    | goto t =>
      obtain ⟨hk3, hi3⟩ := hp
      obtain ⟨W4, hr, h4, hl3, hl4, hk4⟩ := fin (some (.goto t)) W3 hk3
      exact ⟨_, _, hr, .inr ⟨rfl, .goto t, by rw [h4]; exact hIxp _ _ _ _ _ _ hi3 (by omega) hl3 rfl, hl4, hk4⟩⟩
    | panic ch => exact hp.elim
    | outgrown => exact hp.elim

end Go.Proofs.YtgnpjenpehfjbaaDoor

namespace Go.Proofs.YtgnpjenpehfjbaaDoor
open Go.RowKit

/-- a row stays under a turn of a block that is no row -/
theorem row_put {W : World} {k l : Nat} {cs : Array Value} {t : TypeId} {fr : Nat × Nat} {o : Obj} (o' : Obj) (h : W.heap[k]? = some (.cells cs t fr)) (hl : W.heap[l]? = some o) (hc : o.isCells = false) : (W.putObj l o').heap[k]? = some (.cells cs t fr) := by
  have : l ≠ k := by rintro rfl; rw [h] at hl; cases hl; simp [Obj.isCells] at hc
  rw [World.putObj_heap_other (by omega)]; exact h

theorem marks_ret1 {F : Fence} {n : Nat} {P : Program} {fn : Func} {R : Ending → World → Prop} {a : Act} {w : World} {v : Value} {D : Nat} (hd : a.defers = [{ target := .collected D, args := #[] }]) (hD : w.heap[D]? = some (.deferred (some []))) (hr : (results fn a.tmps).run P (w.putObj D (.deferred none)) = .ok v (w.putObj D (.deferred none))) (hR : R (.returned v) (w.putObj D (.deferred none))) : bodyPostM F n P fn R .ret a w := by
  show LeavesInM F n P fn a.tmps R a.defers .returning w
  rw [hd]
  exact ⟨by simp, .inl ⟨_, _, rfl, run_takeDeferred hD, v, hr, hR⟩⟩

end Go.Proofs.YtgnpjenpehfjbaaDoor

namespace Go.Proofs.YtgnpjenpehfjbaaDoor
open Go.RowKit

/-- a round turns no block but those of T, and those that it makes -/
def KeptT (T : World → Nat → Prop) (A B : World) : Prop := A.heap.size ≤ B.heap.size ∧ (∀ k, k < A.heap.size → ¬ T A k → B.heap[k]? = A.heap[k]?) ∧ ∀ k, T B k → T A k ∨ A.heap.size ≤ k
theorem KeptT.trans {T : World → Nat → Prop} {A B C : World} (h : KeptT T A B) (g : KeptT T B C) : KeptT T A C := by
  refine ⟨Nat.le_trans h.1 g.1, fun k hk hn => ?_, fun k hk => ?_⟩
  · have hnb : ¬ T B k := fun hb => by
      rcases h.2.2 k hb with h1 | h1
      · exact hn h1
      · omega
    exact (g.2.1 k (Nat.lt_of_lt_of_le hk h.1) hnb).trans (h.2.1 k hk hn)
  · rcases g.2.2 k hk with h1 | h1
    · exact h.2.2 k h1
    · exact .inr (Nat.le_trans h.1 h1)
/-- THE CONTRACT OF AN ITERATOR's VALUE (see Iterates), where the rounds turn no block but those of T -/
def IteratesT {α : Type} (F : Fence) (n : Nat) (P : Program) (g : Nat) (lb : Array Value) (encs : α → Array Value) (Inv : World → Prop) (R : List α → α → World → Prop) (S Sp : List α → Prop) : Prop :=
  ∀ (l : Nat) (J Jx : List α → World → Prop) (T : World → Nat → Prop) (W : World), StaysGrown J → (∀ s W, J s W → Inv W) →
    (∀ s W, J s W → ∀ k, T W k → k < W.heap.size) → (∀ s W W', J s W → Below W.heap.size W W' → ∀ k, T W' k → T W k) →
    (∀ pre x W1, J pre W1 → R pre x W1 → YieldAt F (n - 1) P l (encs x) W1 fun e W' =>
      (e = .returned (.bool true) ∧ J (pre ++ [x]) W' ∧ KeptT T W1 W') ∨ (e = .returned (.bool false) ∧ Jx (pre ++ [x]) W')) →
    J [] W →
    CallsIn F n P g (#[.func (.yield l) #[] #[]] ++ lb) W fun e W' => (∃ v, e = .returned v) ∧ ((∃ xs, S xs ∧ J xs W') ∨ (∃ pre, Sp pre ∧ Jx pre W'))
theorem Iterates.toT {α : Type} {F : Fence} {n : Nat} {P : Program} {g : Nat} {lb : Array Value} {encs : α → Array Value} {Inv : World → Prop} {R : List α → α → World → Prop} {S Sp : List α → Prop} (h : Iterates F n P g lb encs Inv R S Sp) : IteratesT F n P g lb encs Inv R S Sp := by
  intro l J Jx T W hJ hInv _ _ hY h0
  refine h l J Jx W hJ hInv (fun pre x W1 h1 h2 => ?_) h0
  obtain ⟨fn, tmps, assign, body, hy, hR⟩ := hY pre x W1 h1 h2
  exact ⟨fn, tmps, assign, body, hy, hR.mono fun e W' h => by
    rcases h with ⟨h1, h2, _⟩ | ⟨h1, h2⟩
    · exact .inl ⟨h1, h2⟩
    · exact .inr ⟨h1, h2⟩⟩
def ownPostT {α : Type} (T : World → Nat → Prop) (I : List α → World → Prop) (Ix : Code → List α → World → Prop) (xs : List α) (W : World) : Exit → Act → World → Prop
  | .normal, _, W' => KeepsOthers W W' ∧ KeptT T W W' ∧ I xs W'
  | .ret, _, W' => KeepsOthers W W' ∧ Ix .ret xs W'
  | .exit id, _, W' => KeepsOthers W W' ∧ Ix (.exit id) xs W'
  | .goto t, _, W' => KeepsOthers W W' ∧ Ix (.goto t) xs W'
  | .panic _, _, _ => False
  | .outgrown, _, _ => False
variable {F : Fence} {n : Nat} {P : Program}

/-- as wpIn_range_as, for IteratesT; what takes an element in may make blocks alone -/
theorem wpIn_range_T {α : Type} {g : Operand} {ps : Array Tmp} {assign body : Code} {Q : Exit → Act → World → Prop} {a : Act} {w : World}
    (hro : F.round = none) (h1 : 1 ≤ n) {gf : Nat} {lb : Array Value} (hg : a.eval g = .func (.func gf) #[] lb) (hFg : F.fn gf) (eg : ∀ args w, (callFunc gf args).run P w = .ok (.enter gf args) w)
    {encs : α → Array Value} {Inv : World → Prop} {R : List α → α → World → Prop} {S Sp : List α → Prop} (hit : IteratesT F (n - 1) P gf lb encs Inv R S Sp)
    (hps : ∀ x, (encs x).size = ps.size)
    (hRput : ∀ pre x W l (o o' : Obj), R pre x W → W.heap[l]? = some o → o.isCells = false → R pre x (W.putObj l o'))
    (I : List α → World → Prop) (Ix : Code → List α → World → Prop) (T : World → Nat → Prop) (hT1 : ∀ s W, I s W → ∀ k, T W k → k < W.heap.size) (hT2 : ∀ s W W', I s W → Below W.heap.size W W' → ∀ k, T W' k → T W k) (hT3 : ∀ s W l (o o' : Obj), I s W → w.heap.size ≤ l → W.heap[l]? = some o → o.isCells = false → ∀ k, T (W.putObj l o') k → T W k) (hI : StaysGrown I) (hIp : StaysPut w.heap.size I) (hIxp : ∀ c, StaysPut w.heap.size (Ix c)) (hInv : ∀ s W, I s W → Inv W) (h0 : I [] w) {β₁ β₂ β₃ β₄ β₅ β₆ : Type} (A : β₁ → β₂ → β₃ → β₄ → β₅ → β₆ → Act) (Ax : α → β₁ → β₂ → β₃ → β₄ → β₅ → β₆ → World → Prop) (hAxp : ∀ x b₁ b₂ b₃ b₄ b₅ b₆ W l (o o' : Obj), Ax x b₁ b₂ b₃ b₄ b₅ b₆ W → w.heap.size ≤ l → W.heap[l]? = some o → o.isCells = false → Ax x b₁ b₂ b₃ b₄ b₅ b₆ (W.putObj l o'))
    (hassign : ∀ (l : Nat) (pre : List α) (x : α) (W : World) (K : Act → World → Prop), I pre W → R pre x W → (∀ b₁ b₂ b₃ b₄ b₅ b₆ W', Below W.heap.size W W' → I pre W' → R pre x W' → Ax x b₁ b₂ b₃ b₄ b₅ b₆ W' → K (A b₁ b₂ b₃ b₄ b₅ b₆) W') →
      assign.wpIn (F.inRound l) (n - 1 - 1) P (Exit.then K (fun _ _ _ => False)) { tmps := (ps.zip (encs x)).foldl (fun t (p, v) => t.setIfInBounds p v) a.tmps, defers := [] } W)
    (hbody : ∀ (l : Nat) (pre : List α) (x : α) b₁ b₂ b₃ b₄ b₅ b₆ (W : World), I pre W → R pre x W → Ax x b₁ b₂ b₃ b₄ b₅ b₆ W → body.wpIn (F.inRound l) (n - 1 - 1) P (ownPostT T I Ix (pre ++ [x]) W) (A b₁ b₂ b₃ b₄ b₅ b₆) W)
    (hdone : ∀ (D : Nat) (xs : List α) (W : World), S xs → I xs W → W.heap[D]? = some (.deferred (some [])) → w.heap.size ≤ D → Q .normal { a with defers := { target := .collected D, args := #[] } :: a.defers } W)
    (hstop : ∀ (D : Nat) (c : Code) (pre : List α) (W : World), Sp pre → Ix c pre W → W.heap[D]? = some (.deferred (some [])) → w.heap.size ≤ D → c.wpIn F n P Q { a with defers := { target := .collected D, args := #[] } :: a.defers } W) :
    (Code.rangeFunc g ps assign body).wpIn F n P Q a w := by
  refine wpIn_rangeFunc fun fn hfn => ?_
  rw [hro]
  have hlen : w.heap.size < (w.alloc (.deferred (some []))).heap.size := by simp
  generalize hr0 : (fun (st : LoopState) (pe : Option Code) => ({ state := st, pending := pe, fn, tmps := a.tmps, params := ps, assign, body, defers := w.heap.size } : Loop)) = mk
  have mkps : ∀ st pe, (mk st pe).params = ps := fun st pe => by rw [← hr0]
  have mkEnd : ∀ (W : World) (l : Nat) (st : LoopState) (pe : Option Code), st ≠ .busy → W.heap[l]? = some (.loop (mk st pe)) → (Instr.endLoop l).run P W = .ok pe (W.putObj l (.loop (mk .exhausted pe))) :=
    fun W l st pe hst hl => by subst hr0; exact run_endLoop hl hst
  have mkBegin : ∀ (W : World) (l : Nat) (pe : Option Code), W.heap[l]? = some (.loop (mk .ready pe)) → (Instr.beginRound l).run P W = .ok () (W.putObj l (.loop (mk .busy pe))) :=
    fun W l pe hl => by subst hr0; exact run_beginRound hl rfl
  have mkRound : ∀ (W : World) (l : Nat) (pe jump : Option Code), W.heap[l]? = some (.loop (mk .busy pe)) → (Instr.endRound l jump).run P W = .ok (.bool jump.isNone) (W.putObj l (.loop (mk (if jump.isNone then .ready else .done) jump))) :=
    fun W l pe jump hl => by subst hr0; exact run_endRound jump hl
  generalize hw1 : (w.alloc (.deferred (some []))).alloc (.loop (mk .ready none)) = W1
  have below1 : Below w.heap.size w W1 := by
    rw [← hw1]; exact ((Below.refl _ w).alloc (Nat.le_refl _) _).alloc (by simp) _
  have rec1 : W1.heap[w.heap.size + 1]? = some (.loop (mk .ready none)) := by
    rw [← hw1]; have := World.alloc_heap_new (w.alloc (.deferred (some []))) (.loop (mk .ready none)); rwa [World.size_alloc] at this
  have def1 : W1.heap[w.heap.size]? = some (.deferred (some [])) := by
    rw [← hw1]; exact (Below.heap_alloc _ _ _ hlen).trans (World.alloc_heap_new w _)
  have keep2 : ∀ {A B : World} {k : Nat} {o : Obj}, Below A.heap.size A B → A.heap[k]? = some o → B.heap[k]? = some o := fun hb hk => (hb.block _ (Array.getElem?_eq_some_iff.1 hk).1).trans hk
  refine ⟨w.heap.size + 1, [{ target := .collected w.heap.size, args := #[] }], W1, { target := .fn (.func gf) lb, args := #[.func (.yield (w.heap.size + 1)) #[] #[]] }, W1, gf,
    #[.func (.yield (w.heap.size + 1)) #[] #[]] ++ lb, W1, ?_, ?_, ?_, ?_, fun _ => h1, ?_⟩
  · rw [← hw1, ← hr0]; exact run_enterLoop_outer _ _ _ _ _
  · simp only [resolve, hg]
    simp [go_sem]
  · intro f' hf'
    simp [Target.leads] at hf'
    subst hf'
    exact hFg
  · simp [invoke, go_sem, eg]
  refine (hit (w.heap.size + 1)
    (fun pre W => I pre W ∧ W.heap[w.heap.size + 1]? = some (.loop (mk .ready none)) ∧ W.heap[w.heap.size]? = some (.deferred (some [])))
    (fun pre W => ∃ c, Ix c pre W ∧ W.heap[w.heap.size + 1]? = some (.loop (mk .done (some c))) ∧ W.heap[w.heap.size]? = some (.deferred (some [])))
    (fun W k => T W k ∨ k = w.heap.size + 1)
    W1 (fun s A B h hb => ⟨hI s A B h.1 hb, keep2 hb h.2.1, keep2 hb h.2.2⟩) (fun s W h => hInv s W h.1)
    (fun s A h k hk => by
      rcases hk with hk | rfl
      · exact hT1 s A h.1 k hk
      · exact (Array.getElem?_eq_some_iff.1 h.2.1).1)
    (fun s A B h hb k hk => by
      rcases hk with hk | rfl
      · exact .inl (hT2 s A B h.1 hb k hk)
      · exact .inr rfl) ?round ⟨hI [] w W1 h0 below1, rec1, def1⟩).mono ?after
  case after =>
    rintro e W2 ⟨⟨v, rfl⟩, (⟨xs, hS, hi, hl, hk⟩ | ⟨pre, hSp, c, hi, hl, hk⟩)⟩
    · have he := mkEnd _ _ _ _ (by simp) hl
      exact ⟨none, _, he, hdone _ xs _ hS (hIp _ _ _ _ _ hi (by omega) hl rfl) ((World.putObj_heap_other (by omega)).trans hk) (Nat.le_refl _)⟩
    · have he := mkEnd _ _ _ _ (by simp) hl
      exact ⟨some c, _, he, hstop _ c pre _ hSp (hIxp c _ _ _ _ _ hi (by omega) hl rfl) ((World.putObj_heap_other (by omega)).trans hk) (Nat.le_refl _)⟩
  case round =>
    rintro pre x W ⟨hi, hl, hk⟩ hR
    have hlt : w.heap.size + 1 < W.heap.size := (Array.getElem?_eq_some_iff.1 hl).1
    have hy := run_yield (P := P) (args := encs x) hl (by rw [mkps]; exact hps x)
    have hyy : (Instr.yield (w.heap.size + 1) (encs x)).run P W = .ok (.round (w.heap.size + 1) fn ((ps.zip (encs x)).foldl (fun t (p, v) => t.setIfInBounds p v) a.tmps) assign body) W := by
      rw [hy, ← hr0]
    refine ⟨fn, _, assign, body, hyy, roundIn_of_wpIn hfn (hassign _ pre x W _ hi hR fun b₁ b₂ b₃ b₄ b₅ b₆ W' hbe hi' hR' hAx => ⟨_, mkBegin _ _ _ (keep2 hbe hl), ?_⟩)⟩
    have kt1 : KeptT (fun W k => T W k ∨ k = w.heap.size + 1) W W' := ⟨hbe.size, fun k hk _ => hbe.block k hk, fun k hk => .inl (by
      rcases hk with hk | rfl
      · exact .inl (hT2 _ W W' hi hbe k hk)
      · exact .inr rfl)⟩
    have hko : KeepsOthers W W' := ⟨hbe.size, fun k o hk _ => keep2 hbe hk⟩
    replace hl := hko.same _ _ hl rfl
    replace hk := hko.same _ _ hk rfl
    replace hi := hi'
    replace hR := hR'
    have hlt : w.heap.size + 1 < W'.heap.size := (Array.getElem?_eq_some_iff.1 hl).1
    have hAb := hAxp _ _ _ _ _ _ _ _ (w.heap.size + 1) _ (.loop (mk .busy none)) hAx (by omega) hl rfl
    have ktp : ∀ (A : World) (o' : Obj) (o : Obj) s, I s A → A.heap[w.heap.size + 1]? = some o → o.isCells = false → KeptT (fun W k => T W k ∨ k = w.heap.size + 1) A (A.putObj (w.heap.size + 1) o') := by
      intro A o' o s hs ho hc
      refine ⟨(grownBy_putObj' A (w.heap.size + 1) o').size, fun k hk hn => World.putObj_heap_other (fun e => hn (.inr (by omega))), fun k hk => .inl ?_⟩
      rcases hk with hk | rfl
      · exact .inl (hT3 s A _ o o' hs (by omega) ho hc k hk)
      · exact .inr rfl
    have kt2 := kt1.trans (ktp W' (.loop (mk .busy none)) _ _ hi hl rfl)
    clear kt1
    generalize hwb : W'.putObj (w.heap.size + 1) (.loop (mk .busy none)) = Wb at *
    have hlb : Wb.heap[w.heap.size + 1]? = some (.loop (mk .busy none)) := by rw [← hwb]; exact World.putObj_heap_same hlt
    have hkb : Wb.heap[w.heap.size]? = some (.deferred (some [])) := by rw [← hwb]; exact (World.putObj_heap_other (by omega)).trans hk
    have hib : I pre Wb := by rw [← hwb]; exact hIp _ _ _ _ _ hi (by omega) hl rfl
    have hRb : R pre x Wb := by rw [← hwb]; exact hRput _ _ _ _ _ _ hR hl rfl
    refine wpIn_mono (hbody _ pre x _ _ _ _ _ _ Wb hib hRb hAb) ?_
    have fin : ∀ (jump : Option Code) (W3 : World), KeepsOthers Wb W3 → ∃ W4, (Instr.endRound (w.heap.size + 1) jump).run P W3 = .ok (.bool jump.isNone) W4 ∧ W4 = W3.putObj (w.heap.size + 1) (.loop (mk (if jump.isNone then .ready else .done) jump)) ∧
        W3.heap[w.heap.size + 1]? = some (.loop (mk .busy none)) ∧
        W4.heap[w.heap.size + 1]? = some (.loop (mk (if jump.isNone then .ready else .done) jump)) ∧ W4.heap[w.heap.size]? = some (.deferred (some [])) := by
      intro jump W3 hk3
      have hl3 := hk3.same _ _ hlb rfl
      have he := mkRound _ _ _ jump hl3
      exact ⟨_, he, rfl, hl3, World.putObj_heap_same (Array.getElem?_eq_some_iff.1 hl3).1, (World.putObj_heap_other (by omega)).trans (hk3.same _ _ hkb rfl)⟩
    rintro e a3 W3 hp
    cases e with
    | normal =>
      obtain ⟨hk3, hkt3, hi3⟩ := hp
      obtain ⟨W4, hr, h4, hl3, hl4, hk4⟩ := fin none W3 hk3
      have kt3 : KeptT (fun W k => T W k ∨ k = w.heap.size + 1) Wb W3 := ⟨hkt3.1, fun k hk hn => hkt3.2.1 k hk (fun h => hn (.inl h)), fun k hk => by
        rcases hk with hk | rfl
        · rcases hkt3.2.2 k hk with h1 | h1
          · exact .inl (.inl h1)
          · exact .inr h1
        · exact .inl (.inr rfl)⟩
      exact ⟨_, _, hr, .inl ⟨rfl, ⟨by rw [h4]; exact hIp _ _ _ _ _ hi3 (by omega) hl3 rfl, hl4, hk4⟩, by rw [h4]; exact (kt2.trans kt3).trans (ktp W3 _ _ _ hi3 hl3 rfl)⟩⟩
    | ret =>
      obtain ⟨hk3, hi3⟩ := hp
      obtain ⟨W4, hr, h4, hl3, hl4, hk4⟩ := fin (some .ret) W3 hk3
      exact ⟨_, _, hr, .inr ⟨rfl, .ret, by rw [h4]; exact hIxp _ _ _ _ _ _ hi3 (by omega) hl3 rfl, hl4, hk4⟩⟩
    | exit id =>
      obtain ⟨hk3, hi3⟩ := hp
      obtain ⟨W4, hr, h4, hl3, hl4, hk4⟩ := fin (some (.exit id)) W3 hk3
      exact ⟨_, _, hr, .inr ⟨rfl, .exit id, by rw [h4]; exact hIxp _ _ _ _ _ _ hi3 (by omega) hl3 rfl, hl4, hk4⟩⟩
    | goto t =>
      obtain ⟨hk3, hi3⟩ := hp
      obtain ⟨W4, hr, h4, hl3, hl4, hk4⟩ := fin (some (.goto t)) W3 hk3
      exact ⟨_, _, hr, .inr ⟨rfl, .goto t, by rw [h4]; exact hIxp _ _ _ _ _ _ hi3 (by omega) hl3 rfl, hl4, hk4⟩⟩
    | panic ch => exact hp.elim
    | outgrown => exact hp.elim

end Go.Proofs.YtgnpjenpehfjbaaDoor

namespace Go.Proofs.YtgnpjenpehfjbaaDoor
open Go.RowKit

def inB (x lo hi : Int) : Bool := decide (lo ≤ x) && decide (x ≤ hi)
def nodeB (n : Int) : Bool := decide (0 ≤ n) && decide (n < 16)
def flowB (x : Int) : Bool := inB x (-2147483647) 2147483647
theorem nodeB_iff {n : Int} : nodeB n = true ↔ 0 ≤ n ∧ n < 16 := by simp [nodeB]
theorem inB_iff {x lo hi : Int} : inB x lo hi = true ↔ lo ≤ x ∧ x ≤ hi := by simp [inB]

theorem node_any (n : Int) (w : World) : Calls Tryd.prog 28 #[.int .i64 n] w fun e w' => e = .returned (.bool (nodeB n)) ∧ w = w' := by
  unfold nodeB
  by_cases h1 : 0 ≤ n
  · by_cases h2 : n < 16
    · have e1 : decide (0 ≤ n) = true := by simpa using h1
      have e2 : decide (n < 16) = true := by simpa using h2
      go_enter Tryd.func28, Tryd.ntmps28
      go_wp2
      go_ret
      exact ⟨by simp [e1, e2], rfl⟩
    · have e1 : decide (0 ≤ n) = true := by simpa using h1
      have e2 : decide (n < 16) = false := by simpa using h2
      go_enter Tryd.func28, Tryd.ntmps28
      go_wp2
      go_ret
      exact ⟨by simp [e1, e2], rfl⟩
  · have e1 : decide (0 ≤ n) = false := by simpa using h1
    go_enter Tryd.func28, Tryd.ntmps28
    go_wp2
    go_ret
    exact ⟨by simp [e1], rfl⟩
theorem within_any (x lo hi : Int) (w : World) : Calls Tryd.prog 29 #[.int .i64 x, .int .i64 lo, .int .i64 hi] w fun e w' => e = .returned (.bool (inB x lo hi)) ∧ w = w' := by
  unfold inB
  by_cases h1 : lo ≤ x
  · by_cases h2 : x ≤ hi
    · have e1 : decide (lo ≤ x) = true := by simpa using h1
      have e2 : decide (x ≤ hi) = true := by simpa using h2
      go_enter Tryd.func29, Tryd.ntmps29
      go_wp2
      go_ret
      exact ⟨by simp [e1, e2], rfl⟩
    · have e1 : decide (lo ≤ x) = true := by simpa using h1
      have e2 : decide (x ≤ hi) = false := by simpa using h2
      go_enter Tryd.func29, Tryd.ntmps29
      go_wp2
      go_ret
      exact ⟨by simp [e1, e2], rfl⟩
  · have e1 : decide (lo ≤ x) = false := by simpa using h1
    go_enter Tryd.func29, Tryd.ntmps29
    go_wp2
    go_ret
    exact ⟨by simp [e1], rfl⟩
theorem flow_any (x : Int) (w : World) : Calls Tryd.prog 39 #[.int .i64 x] w fun e w' => e = .returned (.bool (flowB x)) ∧ w = w' := by
  have hcon := fun W => within_any x (-2147483647) 2147483647 W
  unfold flowB
  generalize inB x (-2147483647) 2147483647 = b at *
  go_enter Tryd.func39, Tryd.ntmps39
  go_wp2_with (refine (hcon _).mono ?_; rintro e w' ⟨rfl, rfl⟩)
  go_ret
  exact ⟨rfl, rfl⟩

theorem rnode_any (n : Int) (w : World) : Calls Tryd.prog 30 #[.int .i64 n] w fun e w' => e = .returned (.bool (nodeB n)) ∧ w = w' := by
  unfold nodeB
  by_cases h1 : 0 ≤ n
  · by_cases h2 : n < 16
    · have e1 : decide (0 ≤ n) = true := by simpa using h1
      have e2 : decide (n < 16) = true := by simpa using h2
      go_enter Tryd.func30, Tryd.ntmps30
      go_wp2
      go_ret
      exact ⟨by simp [e1, e2], rfl⟩
    · have e1 : decide (0 ≤ n) = true := by simpa using h1
      have e2 : decide (n < 16) = false := by simpa using h2
      go_enter Tryd.func30, Tryd.ntmps30
      go_wp2
      go_ret
      exact ⟨by simp [e1, e2], rfl⟩
  · have e1 : decide (0 ≤ n) = false := by simpa using h1
    go_enter Tryd.func30, Tryd.ntmps30
    go_wp2
    go_ret
    exact ⟨by simp [e1], rfl⟩
theorem rwithin_any (x lo hi : Int) (w : World) : Calls Tryd.prog 31 #[.int .i64 x, .int .i64 lo, .int .i64 hi] w fun e w' => e = .returned (.bool (inB x lo hi)) ∧ w = w' := by
  unfold inB
  by_cases h1 : lo ≤ x
  · by_cases h2 : x ≤ hi
    · have e1 : decide (lo ≤ x) = true := by simpa using h1
      have e2 : decide (x ≤ hi) = true := by simpa using h2
      go_enter Tryd.func31, Tryd.ntmps31
      go_wp2
      go_ret
      exact ⟨by simp [e1, e2], rfl⟩
    · have e1 : decide (lo ≤ x) = true := by simpa using h1
      have e2 : decide (x ≤ hi) = false := by simpa using h2
      go_enter Tryd.func31, Tryd.ntmps31
      go_wp2
      go_ret
      exact ⟨by simp [e1, e2], rfl⟩
  · have e1 : decide (lo ≤ x) = false := by simpa using h1
    go_enter Tryd.func31, Tryd.ntmps31
    go_wp2
    go_ret
    exact ⟨by simp [e1], rfl⟩
theorem rflow_any (x : Int) (w : World) : Calls Tryd.prog 41 #[.int .i64 x] w fun e w' => e = .returned (.bool (flowB x)) ∧ w = w' := by
  have hcon := fun W => rwithin_any x (-2147483647) 2147483647 W
  unfold flowB
  generalize inB x (-2147483647) 2147483647 = b at *
  go_enter Tryd.func41, Tryd.ntmps41
  go_wp2_with (refine (hcon _).mono ?_; rintro e w' ⟨rfl, rfl⟩)
  go_ret
  exact ⟨rfl, rfl⟩

structure Xt where
  has : Bool
  val : Int
  org : Int
  age : Int
abbrev Xt.cells (e : Xt) : List Value := [.bool e.has, .int .i64 e.val, .int .i64 e.org, .int .i64 e.age]
def Xt.zeroB (e : Xt) : Bool := !e.has && e.val == 0 && e.org == 0 && e.age == 0
def extB (e : Xt) : Bool := if e.has then flowB e.val && nodeB e.org && inB e.age 0 63 else e.val == 0 && e.org == 0 && e.age == 0
def zeroX : Xt := ⟨false, 0, 0, 0⟩
theorem Xt.zero_iff {e : Xt} : e.zeroB = true ↔ e = zeroX := by
  obtain ⟨h, v, o, a⟩ := e
  cases h <;> simp [Xt.zeroB, zeroX]
  omega
set_option maxHeartbeats 1000000 in
theorem ext_any (e : Xt) (w : World) : Calls Tryd.prog 40 #[.agg e.cells.toArray] w fun x w' => x = .returned (.bool (extB e)) ∧ Below w.heap.size w w' := by
  obtain ⟨h, v, o, a⟩ := e
  have hn := fun W => node_any o W
  have hw := fun W => within_any a 0 63 W
  have hf := fun W => flow_any v W
  cases h
  · by_cases h1 : v = 0 ∧ o = 0 ∧ a = 0
    · obtain ⟨rfl, rfl, rfl⟩ := h1
      clear hn hw hf
      go_enter Tryd.func40, Tryd.ntmps40
      go_wp2
      go_ret
      exact ⟨rfl, (Below.refl _ _).alloc (Nat.le_refl _) _⟩
    · have hx : ∀ W, (binOp .eql 36 (.agg #[.bool false, .int .i64 v, .int .i64 o, .int .i64 a]) (.agg #[.bool false, .int .i64 0, .int .i64 0, .int .i64 0])).run Tryd.prog W = .ok (.bool false) W := by
        intro W
        rw [run_eql_struct]
        rcases (show v ≠ 0 ∨ (v = 0 ∧ o ≠ 0) ∨ (v = 0 ∧ o = 0 ∧ a ≠ 0) by omega) with h2 | ⟨h2, h3⟩ | ⟨h2, h3, h4⟩
        · simp [go_sem, h2]
        · simp [go_sem, h2, h3]
        · simp [go_sem, h2, h3, h4]
      have HR : Hid (extB ⟨false, v, o, a⟩ = false) := by
        show _ = _
        simp [extB]
        intro h2 h3 h4
        exact h1 ⟨h2, h3, h4⟩
      clear hn hw hf h1
      go_enter Tryd.func40, Tryd.ntmps40
      go_wp2
      go_ret
      rw [HR.out]
      exact ⟨rfl, (Below.refl _ _).alloc (Nat.le_refl _) _⟩
  · have HR : Hid (extB ⟨true, v, o, a⟩ = (flowB v && nodeB o && inB a 0 63)) := rfl
    generalize inB a 0 63 = b3 at *
    generalize nodeB o = b2 at *
    generalize flowB v = b1 at *
    cases b1
    · clear hn hw
      go_enter Tryd.func40, Tryd.ntmps40
      go_wp2_with (refine (hf _).mono ?_; rintro e w' ⟨rfl, rfl⟩)
      go_ret
      rw [HR.out]
      exact ⟨rfl, (Below.refl _ _).alloc (Nat.le_refl _) _⟩
    · cases b2
      · clear hw
        go_enter Tryd.func40, Tryd.ntmps40
        go_wp2_with (first | (go_at_call 39; refine (hf _).mono ?_; rintro e w' ⟨rfl, rfl⟩) | (refine (hn _).mono ?_; rintro e w' ⟨rfl, rfl⟩))
        go_ret
        rw [HR.out]
        exact ⟨rfl, (Below.refl _ _).alloc (Nat.le_refl _) _⟩
      · go_enter Tryd.func40, Tryd.ntmps40
        go_wp2_with (first | (go_at_call 39; refine (hf _).mono ?_; rintro e w' ⟨rfl, rfl⟩) | (go_at_call 28; refine (hn _).mono ?_; rintro e w' ⟨rfl, rfl⟩) | (refine (hw _).mono ?_; rintro e w' ⟨rfl, rfl⟩))
        go_ret
        rw [HR.out]
        exact ⟨by first | rfl | simp, (Below.refl _ _).alloc (Nat.le_refl _) _⟩

set_option maxHeartbeats 1000000 in
theorem rext_any (e : Xt) (w : World) : Calls Tryd.prog 42 #[.agg e.cells.toArray] w fun x w' => x = .returned (.bool (extB e)) ∧ Below w.heap.size w w' := by
  obtain ⟨h, v, o, a⟩ := e
  have hn := fun W => rnode_any o W
  have hw := fun W => rwithin_any a 0 63 W
  have hf := fun W => rflow_any v W
  cases h
  · by_cases h1 : v = 0 ∧ o = 0 ∧ a = 0
    · obtain ⟨rfl, rfl, rfl⟩ := h1
      clear hn hw hf
      go_enter Tryd.func42, Tryd.ntmps42
      go_wp2
      go_ret
      exact ⟨rfl, (Below.refl _ _).alloc (Nat.le_refl _) _⟩
    · have hx : ∀ W, (binOp .eql 36 (.agg #[.bool false, .int .i64 v, .int .i64 o, .int .i64 a]) (.agg #[.bool false, .int .i64 0, .int .i64 0, .int .i64 0])).run Tryd.prog W = .ok (.bool false) W := by
        intro W
        rw [run_eql_struct]
        rcases (show v ≠ 0 ∨ (v = 0 ∧ o ≠ 0) ∨ (v = 0 ∧ o = 0 ∧ a ≠ 0) by omega) with h2 | ⟨h2, h3⟩ | ⟨h2, h3, h4⟩
        · simp [go_sem, h2]
        · simp [go_sem, h2, h3]
        · simp [go_sem, h2, h3, h4]
      have HR : Hid (extB ⟨false, v, o, a⟩ = false) := by
        show _ = _
        simp [extB]
        intro h2 h3 h4
        exact h1 ⟨h2, h3, h4⟩
      clear hn hw hf h1
      go_enter Tryd.func42, Tryd.ntmps42
      go_wp2
      go_ret
      rw [HR.out]
      exact ⟨rfl, (Below.refl _ _).alloc (Nat.le_refl _) _⟩
  · have HR : Hid (extB ⟨true, v, o, a⟩ = (flowB v && nodeB o && inB a 0 63)) := rfl
    generalize inB a 0 63 = b3 at *
    generalize nodeB o = b2 at *
    generalize flowB v = b1 at *
    cases b1
    · clear hn hw
      go_enter Tryd.func42, Tryd.ntmps42
      go_wp2_with (refine (hf _).mono ?_; rintro e w' ⟨rfl, rfl⟩)
      go_ret
      rw [HR.out]
      exact ⟨rfl, (Below.refl _ _).alloc (Nat.le_refl _) _⟩
    · cases b2
      · clear hw
        go_enter Tryd.func42, Tryd.ntmps42
        go_wp2_with (first | (go_at_call 41; refine (hf _).mono ?_; rintro e w' ⟨rfl, rfl⟩) | (refine (hn _).mono ?_; rintro e w' ⟨rfl, rfl⟩))
        go_ret
        rw [HR.out]
        exact ⟨rfl, (Below.refl _ _).alloc (Nat.le_refl _) _⟩
      · go_enter Tryd.func42, Tryd.ntmps42
        go_wp2_with (first | (go_at_call 41; refine (hf _).mono ?_; rintro e w' ⟨rfl, rfl⟩) | (go_at_call 30; refine (hn _).mono ?_; rintro e w' ⟨rfl, rfl⟩) | (refine (hw _).mono ?_; rintro e w' ⟨rfl, rfl⟩))
        go_ret
        rw [HR.out]
        exact ⟨by first | rfl | simp, (Below.refl _ _).alloc (Nat.le_refl _) _⟩


end Go.Proofs.YtgnpjenpehfjbaaDoor

namespace Go.Proofs.YtgnpjenpehfjbaaDoor
open Go.RowKit

def okC (c : UInt8) : Bool := (decide (97 ≤ (c.toNat : Int)) && decide ((c.toNat : Int) ≤ 122)) || (decide (48 ≤ (c.toNat : Int)) && decide ((c.toNat : Int) ≤ 57)) || decide ((c.toNat : Int) = 95)
def nameB (l : List UInt8) : Bool := decide (1 ≤ l.length) && decide (l.length ≤ 16) && l.all okC
theorem nameB_t {l : List UInt8} (h1 : 1 ≤ l.length) (h2 : l.length ≤ 16) (h : ∀ j, j < l.length → okC (l.getD j 0) = true) : nameB l = true := by
  have : l.all okC = true := by
    rw [List.all_eq_true]
    intro c hc
    obtain ⟨j, hj, rfl⟩ := List.getElem_of_mem hc
    have := h j hj
    rwa [List.getD_eq_getElem?_getD, List.getElem?_eq_getElem hj] at this
  simp [nameB, h1, h2, this]
theorem nameB_bad {l : List UInt8} (k : Nat) (hk : k < l.length) (h : okC (l.getD k 0) = false) : nameB l = false := by
  have : l.all okC = false := by
    rw [List.all_eq_false]
    refine ⟨l[k], List.getElem_mem hk, ?_⟩
    rw [List.getD_eq_getElem?_getD, List.getElem?_eq_getElem hk] at h
    simpa using h
  simp [nameB, this]

set_option maxRecDepth 100000 in
set_option maxHeartbeats 1000000 in
theorem name_any (l : List UInt8) (w : World) (hl : l.length ≤ 9223372036854775807) : Calls Tryd.prog 19 #[.string ⟨l.toArray⟩] w fun e w' => e = .returned (.bool (nameB l)) ∧ w = w' := by
  obtain ⟨s, hs⟩ : ∃ s : ByteArray, s = ⟨l.toArray⟩ := ⟨_, rfl⟩
  have HSZ : Hid (s.size = l.length) := by show _ = _; rw [hs]; simp [ByteArray.size]
  have HG : Hid (∀ k (h : k < s.size), s[k] = l.getD k 0) := by
    intro k h
    subst hs
    rw [List.getD_eq_getElem?_getD, List.getElem?_eq_getElem (by simpa [ByteArray.size] using h)]
    rfl
  rw [← hs]
  clear hs
  obtain ⟨n, hn⟩ : ∃ n, n = s.size := ⟨_, rfl⟩
  have hl' : s.size ≤ 9223372036854775807 := by have := HSZ.out; omega
  by_cases h0 : s.size < 1
  · have e1 : decide ((s.size : Int) < 1) = true := by simp; omega
    have HR : Hid (nameB l = false) := by have := HSZ.out; show _ = _; simp [nameB]; omega
    clear hn h0
    go_enter Tryd.func19, Tryd.ntmps19
    go_wp2
    go_ret
    rw [HR.out]
    exact ⟨rfl, rfl⟩
  by_cases h16 : 16 < s.size
  · have e1 : decide ((s.size : Int) < 1) = false := by simp; omega
    have e2 : decide (16 < (s.size : Int)) = true := by simp; omega
    have HR : Hid (nameB l = false) := by have := HSZ.out; show _ = _; simp [nameB]; omega
    clear hn h0 h16
    go_enter Tryd.func19, Tryd.ntmps19
    go_wp2
    go_ret
    rw [HR.out]
    exact ⟨rfl, rfl⟩
  have e1 : decide ((s.size : Int) < 1) = false := by simp; omega
  have e2 : decide (16 < (s.size : Int)) = false := by simp; omega
  clear hn
  go_enter Tryd.func19, Tryd.ntmps19
  go_wp2
  clear e1 e2
  go_loop [15] (fun i => ∃ k : Nat, k ≤ s.size ∧ i = .int .i64 (k : Int) ∧ Hid (∀ j, j < k → okC (l.getD j 0) = true)) (fun i => s.size - (intOf i).toNat)
  case atStart => exact ⟨0, Nat.zero_le _, rfl, fun j hj => absurd hj (by omega)⟩
  case round =>
  obtain ⟨k, hk, rfl, HALL⟩ := hrel
  by_cases hlt : k < s.size
  · have hk' : k < l.length := by have := HSZ.out; omega
    obtain ⟨c, hc⟩ : ∃ c, c = s[k] := ⟨_, rfl⟩
    have HC : Hid (c = l.getD k 0) := hc.trans (HG.out k hlt)
    have hidx : s[k] = c := hc.symm
    clear hc
    have hb : (c.toNat : Int) < 256 := by have := c.toNat_lt; omega
    rcases (show ((c.toNat : Int) < 48) ∨ (48 ≤ (c.toNat : Int) ∧ (c.toNat : Int) ≤ 57) ∨ (57 < (c.toNat : Int) ∧ (c.toNat : Int) < 95) ∨ ((c.toNat : Int) = 95) ∨ ((c.toNat : Int) = 96) ∨ (97 ≤ (c.toNat : Int) ∧ (c.toNat : Int) ≤ 122) ∨ (122 < (c.toNat : Int)) by omega) with hi | hi | hi | hi | hi | hi | hi
    · have HOK : Hid (okC c = false) := by
        show _ = _
        unfold okC
        simp
        omega
      have e1 : decide ((c.toNat : Int) < 97) = true := by simp; omega
      have e2 : decide (122 < (c.toNat : Int)) = false := by simp; omega
      have e3 : decide ((c.toNat : Int) < 48) = true := by simp; omega
      have e4 : decide (57 < (c.toNat : Int)) = false := by simp; omega
      have e5 : ((c.toNat : Int) == 95) = false := by simp; omega
      have e6 : ((c.toNat : Int) != 95) = true := by simp; omega
      clear hi
      go_wp2
      go_ret
      rw [nameB_bad k hk' (by rw [← HC.out]; exact HOK.out)]
      exact ⟨rfl, rfl⟩
    · have HOK : Hid (okC c = true) := by
        show _ = _
        unfold okC
        simp
        omega
      have e1 : decide ((c.toNat : Int) < 97) = true := by simp; omega
      have e2 : decide (122 < (c.toNat : Int)) = false := by simp; omega
      have e3 : decide ((c.toNat : Int) < 48) = false := by simp; omega
      have e4 : decide (57 < (c.toNat : Int)) = false := by simp; omega
      have e5 : ((c.toNat : Int) == 95) = false := by simp; omega
      have e6 : ((c.toNat : Int) != 95) = true := by simp; omega
      clear hi
      go_wp2
      clear e1 e2 e3 e4 e5 e6
      go_round
      case rel => exact ⟨k + 1, by omega, by go_num, fun j hj => by
        rcases Nat.lt_or_ge j k with h | h
        · exact HALL.out j h
        · obtain rfl : j = k := by omega
          rw [← HC.out]; exact HOK.out⟩
      case measure => simp [intOf]; omega
    · have HOK : Hid (okC c = false) := by
        show _ = _
        unfold okC
        simp
        omega
      have e1 : decide ((c.toNat : Int) < 97) = true := by simp; omega
      have e2 : decide (122 < (c.toNat : Int)) = false := by simp; omega
      have e3 : decide ((c.toNat : Int) < 48) = false := by simp; omega
      have e4 : decide (57 < (c.toNat : Int)) = true := by simp; omega
      have e5 : ((c.toNat : Int) == 95) = false := by simp; omega
      have e6 : ((c.toNat : Int) != 95) = true := by simp; omega
      clear hi
      go_wp2
      go_ret
      rw [nameB_bad k hk' (by rw [← HC.out]; exact HOK.out)]
      exact ⟨rfl, rfl⟩
    · have HOK : Hid (okC c = true) := by
        show _ = _
        unfold okC
        simp
        omega
      have e1 : decide ((c.toNat : Int) < 97) = true := by simp; omega
      have e2 : decide (122 < (c.toNat : Int)) = false := by simp; omega
      have e3 : decide ((c.toNat : Int) < 48) = false := by simp; omega
      have e4 : decide (57 < (c.toNat : Int)) = true := by simp; omega
      have e5 : ((c.toNat : Int) == 95) = true := by simp; omega
      have e6 : ((c.toNat : Int) != 95) = false := by simp; omega
      clear hi
      go_wp2
      clear e1 e2 e3 e4 e5 e6
      go_round
      case rel => exact ⟨k + 1, by omega, by go_num, fun j hj => by
        rcases Nat.lt_or_ge j k with h | h
        · exact HALL.out j h
        · obtain rfl : j = k := by omega
          rw [← HC.out]; exact HOK.out⟩
      case measure => simp [intOf]; omega
    · have HOK : Hid (okC c = false) := by
        show _ = _
        unfold okC
        simp
        omega
      have e1 : decide ((c.toNat : Int) < 97) = true := by simp; omega
      have e2 : decide (122 < (c.toNat : Int)) = false := by simp; omega
      have e3 : decide ((c.toNat : Int) < 48) = false := by simp; omega
      have e4 : decide (57 < (c.toNat : Int)) = true := by simp; omega
      have e5 : ((c.toNat : Int) == 95) = false := by simp; omega
      have e6 : ((c.toNat : Int) != 95) = true := by simp; omega
      clear hi
      go_wp2
      go_ret
      rw [nameB_bad k hk' (by rw [← HC.out]; exact HOK.out)]
      exact ⟨rfl, rfl⟩
    · have HOK : Hid (okC c = true) := by
        show _ = _
        unfold okC
        simp
        omega
      have e1 : decide ((c.toNat : Int) < 97) = false := by simp; omega
      have e2 : decide (122 < (c.toNat : Int)) = false := by simp; omega
      have e3 : decide ((c.toNat : Int) < 48) = false := by simp; omega
      have e4 : decide (57 < (c.toNat : Int)) = true := by simp; omega
      have e5 : ((c.toNat : Int) == 95) = false := by simp; omega
      have e6 : ((c.toNat : Int) != 95) = true := by simp; omega
      clear hi
      go_wp2
      clear e1 e2 e3 e4 e5 e6
      go_round
      case rel => exact ⟨k + 1, by omega, by go_num, fun j hj => by
        rcases Nat.lt_or_ge j k with h | h
        · exact HALL.out j h
        · obtain rfl : j = k := by omega
          rw [← HC.out]; exact HOK.out⟩
      case measure => simp [intOf]; omega
    · have HOK : Hid (okC c = false) := by
        show _ = _
        unfold okC
        simp
        omega
      have e1 : decide ((c.toNat : Int) < 97) = false := by simp; omega
      have e2 : decide (122 < (c.toNat : Int)) = true := by simp; omega
      have e3 : decide ((c.toNat : Int) < 48) = false := by simp; omega
      have e4 : decide (57 < (c.toNat : Int)) = true := by simp; omega
      have e5 : ((c.toNat : Int) == 95) = false := by simp; omega
      have e6 : ((c.toNat : Int) != 95) = true := by simp; omega
      clear hi
      go_wp2
      go_ret
      rw [nameB_bad k hk' (by rw [← HC.out]; exact HOK.out)]
      exact ⟨rfl, rfl⟩
  · have HR : Hid (nameB l = true) := nameB_t (by have := HSZ.out; omega) (by have := HSZ.out; omega) (fun j hj => HALL.out j (by have := HSZ.out; omega))
    go_wp2
    go_ret
    rw [HR.out]
    exact ⟨rfl, rfl⟩

set_option maxRecDepth 100000 in
set_option maxHeartbeats 1000000 in
theorem rname_any (l : List UInt8) (w : World) (hl : l.length ≤ 9223372036854775807) : Calls Tryd.prog 20 #[.string ⟨l.toArray⟩] w fun e w' => e = .returned (.bool (nameB l)) ∧ w = w' := by
  obtain ⟨s, hs⟩ : ∃ s : ByteArray, s = ⟨l.toArray⟩ := ⟨_, rfl⟩
  have HSZ : Hid (s.size = l.length) := by show _ = _; rw [hs]; simp [ByteArray.size]
  have HG : Hid (∀ k (h : k < s.size), s[k] = l.getD k 0) := by
    intro k h
    subst hs
    rw [List.getD_eq_getElem?_getD, List.getElem?_eq_getElem (by simpa [ByteArray.size] using h)]
    rfl
  rw [← hs]
  clear hs
  obtain ⟨n, hn⟩ : ∃ n, n = s.size := ⟨_, rfl⟩
  have hl' : s.size ≤ 9223372036854775807 := by have := HSZ.out; omega
  by_cases h0 : s.size < 1
  · have e1 : decide ((s.size : Int) < 1) = true := by simp; omega
    have HR : Hid (nameB l = false) := by have := HSZ.out; show _ = _; simp [nameB]; omega
    clear hn h0
    go_enter Tryd.func20, Tryd.ntmps20
    go_wp2
    go_ret
    rw [HR.out]
    exact ⟨rfl, rfl⟩
  by_cases h16 : 16 < s.size
  · have e1 : decide ((s.size : Int) < 1) = false := by simp; omega
    have e2 : decide (16 < (s.size : Int)) = true := by simp; omega
    have HR : Hid (nameB l = false) := by have := HSZ.out; show _ = _; simp [nameB]; omega
    clear hn h0 h16
    go_enter Tryd.func20, Tryd.ntmps20
    go_wp2
    go_ret
    rw [HR.out]
    exact ⟨rfl, rfl⟩
  have e1 : decide ((s.size : Int) < 1) = false := by simp; omega
  have e2 : decide (16 < (s.size : Int)) = false := by simp; omega
  clear hn
  go_enter Tryd.func20, Tryd.ntmps20
  go_wp2
  clear e1 e2
  go_loop [3] (fun i => ∃ k : Nat, k ≤ s.size ∧ i = .int .i64 (k : Int) ∧ Hid (∀ j, j < k → okC (l.getD j 0) = true)) (fun i => s.size - (intOf i).toNat)
  case atStart => exact ⟨0, Nat.zero_le _, rfl, fun j hj => absurd hj (by omega)⟩
  case round =>
  obtain ⟨k, hk, rfl, HALL⟩ := hrel
  by_cases hlt : k < s.size
  · have hk' : k < l.length := by have := HSZ.out; omega
    obtain ⟨c, hc⟩ : ∃ c, c = s[k] := ⟨_, rfl⟩
    have HC : Hid (c = l.getD k 0) := hc.trans (HG.out k hlt)
    have hidx : s[k] = c := hc.symm
    clear hc
    have hb : (c.toNat : Int) < 256 := by have := c.toNat_lt; omega
    rcases (show ((c.toNat : Int) < 48) ∨ (48 ≤ (c.toNat : Int) ∧ (c.toNat : Int) ≤ 57) ∨ (57 < (c.toNat : Int) ∧ (c.toNat : Int) < 95) ∨ ((c.toNat : Int) = 95) ∨ ((c.toNat : Int) = 96) ∨ (97 ≤ (c.toNat : Int) ∧ (c.toNat : Int) ≤ 122) ∨ (122 < (c.toNat : Int)) by omega) with hi | hi | hi | hi | hi | hi | hi
    · have HOK : Hid (okC c = false) := by
        show _ = _
        unfold okC
        simp
        omega
      have e1 : decide (97 ≤ (c.toNat : Int)) = false := by simp; omega
      have e2 : decide ((c.toNat : Int) ≤ 122) = true := by simp; omega
      have e3 : decide (48 ≤ (c.toNat : Int)) = false := by simp; omega
      have e4 : decide ((c.toNat : Int) ≤ 57) = true := by simp; omega
      have e5 : ((c.toNat : Int) == 95) = false := by simp; omega
      clear hi
      go_wp2
      go_ret
      rw [nameB_bad k hk' (by rw [← HC.out]; exact HOK.out)]
      exact ⟨rfl, rfl⟩
    · have HOK : Hid (okC c = true) := by
        show _ = _
        unfold okC
        simp
        omega
      have e1 : decide (97 ≤ (c.toNat : Int)) = false := by simp; omega
      have e2 : decide ((c.toNat : Int) ≤ 122) = true := by simp; omega
      have e3 : decide (48 ≤ (c.toNat : Int)) = true := by simp; omega
      have e4 : decide ((c.toNat : Int) ≤ 57) = true := by simp; omega
      have e5 : ((c.toNat : Int) == 95) = false := by simp; omega
      clear hi
      go_wp2
      clear e1 e2 e3 e4 e5
      go_round
      case rel => exact ⟨k + 1, by omega, by go_num, fun j hj => by
        rcases Nat.lt_or_ge j k with h | h
        · exact HALL.out j h
        · obtain rfl : j = k := by omega
          rw [← HC.out]; exact HOK.out⟩
      case measure => simp [intOf]; omega
    · have HOK : Hid (okC c = false) := by
        show _ = _
        unfold okC
        simp
        omega
      have e1 : decide (97 ≤ (c.toNat : Int)) = false := by simp; omega
      have e2 : decide ((c.toNat : Int) ≤ 122) = true := by simp; omega
      have e3 : decide (48 ≤ (c.toNat : Int)) = true := by simp; omega
      have e4 : decide ((c.toNat : Int) ≤ 57) = false := by simp; omega
      have e5 : ((c.toNat : Int) == 95) = false := by simp; omega
      clear hi
      go_wp2
      go_ret
      rw [nameB_bad k hk' (by rw [← HC.out]; exact HOK.out)]
      exact ⟨rfl, rfl⟩
    · have HOK : Hid (okC c = true) := by
        show _ = _
        unfold okC
        simp
        omega
      have e1 : decide (97 ≤ (c.toNat : Int)) = false := by simp; omega
      have e2 : decide ((c.toNat : Int) ≤ 122) = true := by simp; omega
      have e3 : decide (48 ≤ (c.toNat : Int)) = true := by simp; omega
      have e4 : decide ((c.toNat : Int) ≤ 57) = false := by simp; omega
      have e5 : ((c.toNat : Int) == 95) = true := by simp; omega
      clear hi
      go_wp2
      clear e1 e2 e3 e4 e5
      go_round
      case rel => exact ⟨k + 1, by omega, by go_num, fun j hj => by
        rcases Nat.lt_or_ge j k with h | h
        · exact HALL.out j h
        · obtain rfl : j = k := by omega
          rw [← HC.out]; exact HOK.out⟩
      case measure => simp [intOf]; omega
    · have HOK : Hid (okC c = false) := by
        show _ = _
        unfold okC
        simp
        omega
      have e1 : decide (97 ≤ (c.toNat : Int)) = false := by simp; omega
      have e2 : decide ((c.toNat : Int) ≤ 122) = true := by simp; omega
      have e3 : decide (48 ≤ (c.toNat : Int)) = true := by simp; omega
      have e4 : decide ((c.toNat : Int) ≤ 57) = false := by simp; omega
      have e5 : ((c.toNat : Int) == 95) = false := by simp; omega
      clear hi
      go_wp2
      go_ret
      rw [nameB_bad k hk' (by rw [← HC.out]; exact HOK.out)]
      exact ⟨rfl, rfl⟩
    · have HOK : Hid (okC c = true) := by
        show _ = _
        unfold okC
        simp
        omega
      have e1 : decide (97 ≤ (c.toNat : Int)) = true := by simp; omega
      have e2 : decide ((c.toNat : Int) ≤ 122) = true := by simp; omega
      have e3 : decide (48 ≤ (c.toNat : Int)) = true := by simp; omega
      have e4 : decide ((c.toNat : Int) ≤ 57) = false := by simp; omega
      have e5 : ((c.toNat : Int) == 95) = false := by simp; omega
      clear hi
      go_wp2
      clear e1 e2 e3 e4 e5
      go_round
      case rel => exact ⟨k + 1, by omega, by go_num, fun j hj => by
        rcases Nat.lt_or_ge j k with h | h
        · exact HALL.out j h
        · obtain rfl : j = k := by omega
          rw [← HC.out]; exact HOK.out⟩
      case measure => simp [intOf]; omega
    · have HOK : Hid (okC c = false) := by
        show _ = _
        unfold okC
        simp
        omega
      have e1 : decide (97 ≤ (c.toNat : Int)) = true := by simp; omega
      have e2 : decide ((c.toNat : Int) ≤ 122) = false := by simp; omega
      have e3 : decide (48 ≤ (c.toNat : Int)) = true := by simp; omega
      have e4 : decide ((c.toNat : Int) ≤ 57) = false := by simp; omega
      have e5 : ((c.toNat : Int) == 95) = false := by simp; omega
      clear hi
      go_wp2
      go_ret
      rw [nameB_bad k hk' (by rw [← HC.out]; exact HOK.out)]
      exact ⟨rfl, rfl⟩
  · have HR : Hid (nameB l = true) := nameB_t (by have := HSZ.out; omega) (by have := HSZ.out; omega) (fun j hj => HALL.out j (by have := HSZ.out; omega))
    go_wp2
    go_ret
    rw [HR.out]
    exact ⟨rfl, rfl⟩

end Go.Proofs.YtgnpjenpehfjbaaDoor

namespace Go.Proofs.YtgnpjenpehfjbaaDoor
open Go.RowKit

/-- what a packet says of one channel -/
structure Itm where
  name : List UInt8
  epoch : Int
  maker : Int
  alive : Bool
  kind : Int
  scale : Int
  ver : Int
  writer : Int
  flow : Int
  hasRest : Bool
  rest : Int
  mn : Xt
  mx : Xt
abbrev Itm.cells (x : Itm) : List Value := [.string ⟨x.name.toArray⟩, .int .i64 x.epoch, .int .i64 x.maker, .bool x.alive, .int .i64 x.kind, .int .i64 x.scale, .int .i64 x.ver, .int .i64 x.writer, .int .i64 x.flow, .bool x.hasRest, .int .i64 x.rest, .bool x.mn.has, .int .i64 x.mn.val, .int .i64 x.mn.org, .int .i64 x.mn.age, .bool x.mx.has, .int .i64 x.mx.val, .int .i64 x.mx.org, .int .i64 x.mx.age]
def preB (x : Itm) : Bool := nameB x.name && (inB x.epoch 1 1099511627776 && (nodeB x.maker && (decide (1 ≤ x.kind) && (decide (x.kind ≤ 4) && inB x.scale 1 1048576))))
def Itm.regZ (x : Itm) : Bool := x.ver == 0 && x.writer == 0 && x.flow == 0
def Itm.regB (x : Itm) : Bool := x.regZ || (inB x.ver 1 1099511627776 && nodeB x.writer && flowB x.flow)
def restB (x : Itm) : Bool :=
  if x.kind = 4 ∧ x.scale ≠ 1 then false
  else if x.alive then (if x.kind = 4 then x.regZ && !x.hasRest && x.rest == 0 && extB x.mn && extB x.mx else x.regB && flowB x.rest && (x.hasRest || x.rest == 0) && x.mn.zeroB && x.mx.zeroB)
  else x.regZ && !x.hasRest && x.rest == 0 && x.mn.zeroB && x.mx.zeroB
def fitI (x : Itm) : Bool := preB x && restB x

set_option maxRecDepth 100000 in
set_option maxHeartbeats 2000000 in
theorem item_pre (x : Itm) (w : World) (hl : x.name.length ≤ 9223372036854775807) (h : preB x = false) : Calls Tryd.prog 17 #[.agg x.cells.toArray] w fun e w' => e = .returned (.bool false) ∧ Below w.heap.size w w' := by
  obtain ⟨name, epoch, maker, alive, kind, scale, ver, writer, flow, hasRest, rest, ⟨m1, m2, m3, m4⟩, ⟨x1, x2, x3, x4⟩⟩ := x
  have hn := fun W => name_any name W hl
  have hd := fun W => node_any maker W
  have hw1 := fun W => within_any epoch 1 1099511627776 W
  have hw2 := fun W => within_any scale 1 1048576 W
  unfold preB at h
  simp only at h
  show Calls _ _ #[.agg #[.string ⟨name.toArray⟩, .int .i64 epoch, .int .i64 maker, .bool alive, .int .i64 kind, .int .i64 scale, .int .i64 ver, .int .i64 writer, .int .i64 flow, .bool hasRest, .int .i64 rest, .bool m1, .int .i64 m2, .int .i64 m3, .int .i64 m4, .bool x1, .int .i64 x2, .int .i64 x3, .int .i64 x4]] w _
  generalize nameB name = b1 at *
  generalize inB epoch 1 1099511627776 = b2 at *
  generalize nodeB maker = b3 at *
  generalize inB scale 1 1048576 = b6 at *
  generalize (⟨name.toArray⟩ : ByteArray) = nm at *
  clear hl
  cases b1
  · clear h hw1 hw2 hd
    go_enter Tryd.func17, Tryd.ntmps17
    go_wp2_with (first | (with_reducible refine (hn _).mono ?_; rintro e w' ⟨rfl, rfl⟩))
    go_ret
    exact ⟨rfl, ((Below.refl _ _).alloc (Nat.le_refl _) _).alloc (by simp) _⟩
  cases b2
  · clear h hw2 hd
    go_enter Tryd.func17, Tryd.ntmps17
    go_wp2_with (first | (with_reducible refine (hn _).mono ?_; rintro e w' ⟨rfl, rfl⟩) | (with_reducible refine (hw1 _).mono ?_; rintro e w' ⟨rfl, rfl⟩))
    go_ret
    exact ⟨rfl, ((Below.refl _ _).alloc (Nat.le_refl _) _).alloc (by simp) _⟩
  cases b3
  · clear h hw2
    go_enter Tryd.func17, Tryd.ntmps17
    go_wp2_with (first | (with_reducible refine (hn _).mono ?_; rintro e w' ⟨rfl, rfl⟩) | (with_reducible refine (hw1 _).mono ?_; rintro e w' ⟨rfl, rfl⟩) | (with_reducible refine (hd _).mono ?_; rintro e w' ⟨rfl, rfl⟩))
    go_ret
    exact ⟨rfl, ((Below.refl _ _).alloc (Nat.le_refl _) _).alloc (by simp) _⟩
  by_cases hk : 1 ≤ kind
  · have k1 : decide (kind < 1) = false := by simp; omega
    by_cases hk4 : kind ≤ 4
    · have k4 : decide (4 < kind) = false := by simp; omega
      simp [hk, hk4] at h
      subst h
      clear hk hk4
      go_enter Tryd.func17, Tryd.ntmps17
      go_wp2_with (first | (with_reducible refine (hn _).mono ?_; rintro e w' ⟨rfl, rfl⟩) | (with_reducible refine (hw1 _).mono ?_; rintro e w' ⟨rfl, rfl⟩) | (with_reducible refine (hd _).mono ?_; rintro e w' ⟨rfl, rfl⟩) | (with_reducible refine (hw2 _).mono ?_; rintro e w' ⟨rfl, rfl⟩))
      go_ret
      exact ⟨rfl, ((Below.refl _ _).alloc (Nat.le_refl _) _).alloc (by simp) _⟩
    · have k4 : decide (4 < kind) = true := by simp; omega
      clear h hw2 hk hk4
      go_enter Tryd.func17, Tryd.ntmps17
      go_wp2_with (first | (with_reducible refine (hn _).mono ?_; rintro e w' ⟨rfl, rfl⟩) | (with_reducible refine (hw1 _).mono ?_; rintro e w' ⟨rfl, rfl⟩) | (with_reducible refine (hd _).mono ?_; rintro e w' ⟨rfl, rfl⟩))
      go_ret
      exact ⟨rfl, ((Below.refl _ _).alloc (Nat.le_refl _) _).alloc (by simp) _⟩
  · have k1 : decide (kind < 1) = true := by simp; omega
    clear h hw2 hk
    go_enter Tryd.func17, Tryd.ntmps17
    go_wp2_with (first | (with_reducible refine (hn _).mono ?_; rintro e w' ⟨rfl, rfl⟩) | (with_reducible refine (hw1 _).mono ?_; rintro e w' ⟨rfl, rfl⟩) | (with_reducible refine (hd _).mono ?_; rintro e w' ⟨rfl, rfl⟩))
    go_ret
    exact ⟨rfl, ((Below.refl _ _).alloc (Nat.le_refl _) _).alloc (by simp) _⟩

set_option maxRecDepth 100000 in
set_option maxHeartbeats 2000000 in
theorem ritem_pre (x : Itm) (w : World) (hl : x.name.length ≤ 9223372036854775807) (h : preB x = false) : Calls Tryd.prog 18 #[.agg x.cells.toArray] w fun e w' => e = .returned (.bool false) ∧ Below w.heap.size w w' := by
  obtain ⟨name, epoch, maker, alive, kind, scale, ver, writer, flow, hasRest, rest, ⟨m1, m2, m3, m4⟩, ⟨x1, x2, x3, x4⟩⟩ := x
  have hn := fun W => rname_any name W hl
  have hd := fun W => rnode_any maker W
  have hw1 := fun W => rwithin_any epoch 1 1099511627776 W
  have hw2 := fun W => rwithin_any scale 1 1048576 W
  unfold preB at h
  simp only at h
  show Calls _ _ #[.agg #[.string ⟨name.toArray⟩, .int .i64 epoch, .int .i64 maker, .bool alive, .int .i64 kind, .int .i64 scale, .int .i64 ver, .int .i64 writer, .int .i64 flow, .bool hasRest, .int .i64 rest, .bool m1, .int .i64 m2, .int .i64 m3, .int .i64 m4, .bool x1, .int .i64 x2, .int .i64 x3, .int .i64 x4]] w _
  generalize nameB name = b1 at *
  generalize inB epoch 1 1099511627776 = b2 at *
  generalize nodeB maker = b3 at *
  generalize inB scale 1 1048576 = b6 at *
  generalize (⟨name.toArray⟩ : ByteArray) = nm at *
  clear hl
  cases b1
  · clear h hw1 hw2 hd
    go_enter Tryd.func18, Tryd.ntmps18
    go_wp2_with (first | (with_reducible refine (hn _).mono ?_; rintro e w' ⟨rfl, rfl⟩))
    go_ret
    exact ⟨rfl, ((Below.refl _ _).alloc (Nat.le_refl _) _).alloc (by simp) _⟩
  cases b2
  · clear h hw2 hd
    go_enter Tryd.func18, Tryd.ntmps18
    go_wp2_with (first | (with_reducible refine (hn _).mono ?_; rintro e w' ⟨rfl, rfl⟩) | (with_reducible refine (hw1 _).mono ?_; rintro e w' ⟨rfl, rfl⟩))
    go_ret
    exact ⟨rfl, ((Below.refl _ _).alloc (Nat.le_refl _) _).alloc (by simp) _⟩
  cases b3
  · clear h hw2
    go_enter Tryd.func18, Tryd.ntmps18
    go_wp2_with (first | (with_reducible refine (hn _).mono ?_; rintro e w' ⟨rfl, rfl⟩) | (with_reducible refine (hw1 _).mono ?_; rintro e w' ⟨rfl, rfl⟩) | (with_reducible refine (hd _).mono ?_; rintro e w' ⟨rfl, rfl⟩))
    go_ret
    exact ⟨rfl, ((Below.refl _ _).alloc (Nat.le_refl _) _).alloc (by simp) _⟩
  by_cases hk : 1 ≤ kind
  · have k1 : decide (kind < 1) = false := by simp; omega
    by_cases hk4 : kind ≤ 4
    · have k4 : decide (4 < kind) = false := by simp; omega
      simp [hk, hk4] at h
      subst h
      clear hk hk4
      go_enter Tryd.func18, Tryd.ntmps18
      go_wp2_with (first | (with_reducible refine (hn _).mono ?_; rintro e w' ⟨rfl, rfl⟩) | (with_reducible refine (hw1 _).mono ?_; rintro e w' ⟨rfl, rfl⟩) | (with_reducible refine (hd _).mono ?_; rintro e w' ⟨rfl, rfl⟩) | (with_reducible refine (hw2 _).mono ?_; rintro e w' ⟨rfl, rfl⟩))
      go_ret
      exact ⟨rfl, ((Below.refl _ _).alloc (Nat.le_refl _) _).alloc (by simp) _⟩
    · have k4 : decide (4 < kind) = true := by simp; omega
      clear h hw2 hk hk4
      go_enter Tryd.func18, Tryd.ntmps18
      go_wp2_with (first | (with_reducible refine (hn _).mono ?_; rintro e w' ⟨rfl, rfl⟩) | (with_reducible refine (hw1 _).mono ?_; rintro e w' ⟨rfl, rfl⟩) | (with_reducible refine (hd _).mono ?_; rintro e w' ⟨rfl, rfl⟩))
      go_ret
      exact ⟨rfl, ((Below.refl _ _).alloc (Nat.le_refl _) _).alloc (by simp) _⟩
  · have k1 : decide (kind < 1) = true := by simp; omega
    clear h hw2 hk
    go_enter Tryd.func18, Tryd.ntmps18
    go_wp2_with (first | (with_reducible refine (hn _).mono ?_; rintro e w' ⟨rfl, rfl⟩) | (with_reducible refine (hw1 _).mono ?_; rintro e w' ⟨rfl, rfl⟩) | (with_reducible refine (hd _).mono ?_; rintro e w' ⟨rfl, rfl⟩))
    go_ret
    exact ⟨rfl, ((Below.refl _ _).alloc (Nat.le_refl _) _).alloc (by simp) _⟩

end Go.Proofs.YtgnpjenpehfjbaaDoor

namespace Go.Proofs.YtgnpjenpehfjbaaDoor
open Go.RowKit

theorem bel_set {B b i : Nat} {v : Value} {w w' : World} (hb : B ≤ b) (h : Below B w w') : Below B w (w'.setCell ⟨b, i, none⟩ v) := h.setCell (p := ⟨b, i, none⟩) hb v
theorem bel_alloc {B : Nat} {o : Obj} {w w' : World} (h : Below B w w') (hb : B ≤ w'.heap.size) : Below B w (w'.alloc o) := h.alloc hb o
theorem stays {W W' : World} {k : Nat} {o : Obj} (h : W.heap[k]? = some o) (hb : Below W.heap.size W W') : W'.heap[k]? = some o := (hb.block _ (Array.getElem?_eq_some_iff.1 h).1).trans h
theorem new_block (w : World) (o : Obj) : Below w.heap.size w (w.alloc o) ∧ (w.alloc o).heap[w.heap.size]? = some o := ⟨bel_alloc (Below.refl _ _) (Nat.le_refl _), heap_alloc_last w o⟩
theorem set_block (W : World) (b i : Nat) (cs : Array Value) (t : TypeId) (v : Value) (h : W.heap[b]? = some (.cells cs t (0, 0))) : (W.setCell ⟨b, i, none⟩ v).heap[b]? = some (.cells (cs.setIfInBounds i v) t (0, 0)) := by
  have := heap_setCell_same W b i cs t v h
  exact this
theorem set_other (W : World) (b i k : Nat) (v : Value) (h : k ≠ b) : (W.setCell ⟨b, i, none⟩ v).heap[k]? = W.heap[k]? := Below.heap_setCell _ _ _ _ h
/-- a whole struct into a block that was made last, as one operation -/
theorem wpList_store_new {P : Program} {ops : Array Oper} {rest : List Oper} {o : Oper} {a : Act} {Q : Exit → Act → World → Prop} (hgd : o.guard = none) (hd : o.dst = none) (ty : TypeId) (x y : Operand) (ho : o.op = .store ty x y) (W : World) (c c' : Array Value)
    (hx : a.eval x = .pointer (some ⟨W.heap.size, 0, none⟩)) (hy : a.eval y = .agg c') (hi : (P.info? ty).map (·.size) = some c'.size) (hs : c.size = c'.size) (h1 : c'.all (·.oneCell') = true) (h : wpList P ops Q rest a (W.alloc (.cells c' ty))) :
    wpList P ops Q (o :: rest) a (W.alloc (.cells c ty)) := by
  refine wpList_skip hgd hd ?_ h
  unfold execOp
  simp only [ho, hx, hy, Sem.run_bind, run_storeAt_new W ty c c' hi hs h1, Result.andThen_ok]
  rfl

def eqBb (ver writer flow : Int) (hasRest : Bool) (rest : Int) (m1 : Bool) (m2 m3 m4 : Int) (x1 : Bool) (x2 x3 x4 : Int) : Bool := ver == 0 && (writer == 0 && (flow == 0 && (!hasRest && (rest == 0 && (!m1 && (m2 == 0 && (m3 == 0 && (m4 == 0 && (!x1 && (x2 == 0 && (x3 == 0 && x4 == 0)))))))))))
def eqCb (ver writer flow : Int) (hasRest : Bool) (rest : Int) : Bool := ver == 0 && (writer == 0 && (flow == 0 && (!hasRest && rest == 0)))
def eqDb (m1 : Bool) (m2 m3 m4 : Int) (x1 : Bool) (x2 x3 x4 : Int) : Bool := !m1 && (m2 == 0 && (m3 == 0 && (m4 == 0 && (!x1 && (x2 == 0 && (x3 == 0 && x4 == 0))))))
theorem bool_chain {c : Prop} [Decidable c] {r : Bool} {W : World} {b : Bool} {x : Result Value} (h1 : b = decide c) (h2 : c → x = .ok (.bool r) W) : (if c then x else .ok (.bool false) W) = .ok (.bool (b && r)) W := by
  subst h1
  by_cases h : c
  · rw [if_pos h, h2 h]; simp [h]
  · rw [if_neg h]; simp [h]
theorem bool_chain_not {c : Prop} [Decidable c] {r : Bool} {W : World} {b : Bool} {x : Result Value} (h1 : (!b) = decide c) (h2 : ¬ c → x = .ok (.bool r) W) : (if c then .ok (.bool false) W else x) = .ok (.bool (b && r)) W := by
  by_cases h : c
  · rw [if_pos h]; have : b = false := by simpa [h] using h1
    simp [this]
  · rw [if_neg h, h2 h]; have : b = true := by simpa [h] using h1
    simp [this]
theorem exec_store {P : Program} {o : Oper} {a : Act} {W W' : World} (ty : TypeId) (x y : Operand) (ho : o.op = .store ty x y) (p v : Value) (hx : a.eval x = p) (hy : a.eval y = v) (hr : (Instr.storeAt ty p v).run P W = .ok () W') : (execOp a.eval o).run P W = .ok .skip W' := by
  unfold execOp
  simp only [ho, hx, hy, Sem.run_bind, hr, Result.andThen_ok]
  rfl
theorem exec_load_row {P : Program} {o : Oper} {a : Act} {W : World} (ty : TypeId) (x : Operand) (ho : o.op = .load ty x) (b : Nat) (cs : Array Value) (t : TypeId) (d : TypeDesc) (hx : a.eval x = .pointer (some ⟨b, 0, none⟩)) (h : W.heap[b]? = some (.cells cs t (0, 0))) (hu : P.underlying ty = some d) (hd : (match d with | .struct _ | .array _ _ => true | _ => false) = true) (hi : (P.info? ty).map (·.size) = some cs.size) :
    (execOp a.eval o).run P W = .ok (.value (.agg cs)) W := by
  have hr : (Instr.loadAt ty (.pointer (some ⟨b, 0, none⟩))).run P W = .ok (.agg cs) W := by
    simp only [Instr.loadAt, Instr.sureAddr, Sem.run_bind, Sem.run_pure, Result.andThen]
    exact run_loadVar_row W b t ty cs (0, 0) d h hu hd hi
  unfold execOp
  simp only [ho, hx, Sem.run_bind, hr, Result.andThen_ok]
  rfl
theorem exec_eql_agg {P : Program} {o : Oper} {a : Act} {W : World} (ty : TypeId) (x y : Operand) (ty' : TypeId) (ho : o.op = .binOp .eql ty x y ty') (vx vy : Array Value) (b : Bool) (hx : a.eval x = .agg vx) (hy : a.eval y = .agg vy) (hm : P.eqGuardType P.depth ty = false) (hr : (binOp .eql ty (.agg vx) (.agg vy)).run P W = .ok (.bool b) W) :
    (execOp a.eval o).run P W = .ok (.value (.bool b)) W := by
  unfold execOp
  simp only [ho, hx, hy, Sem.run_bind, run_eqGuard_agg W .eql ty x y vx vy hm, hr, Result.andThen_ok]
  rfl
/-- cells that a run of values replaces -/
def splice (cs : Array Value) (o : Nat) : List Value → Array Value
  | [] => cs
  | v :: r => splice (cs.setIfInBounds o v) (o + 1) r
theorem setCells_block (t : TypeId) (b : Nat) : ∀ (vs : List Value) (o : Nat) (cs : Array Value) (W : World), W.heap[b]? = some (.cells cs t (0, 0)) → (W.setCells b o vs).heap[b]? = some (.cells (splice cs o vs) t (0, 0))
  | [], _, _, _, h => h
  | v :: r, o, cs, W, h => by rw [World.setCells]; exact setCells_block t b r (o + 1) _ _ (set_block W b o cs t v h)
theorem setCells_other (b : Nat) : ∀ (vs : List Value) (o : Nat) (W : World) (k : Nat), k ≠ b → (W.setCells b o vs).heap[k]? = W.heap[k]?
  | [], _, _, _, _ => rfl
  | v :: r, o, W, k, h => by rw [World.setCells, setCells_other b r (o + 1) _ k h, set_other W b o k v h]
theorem setCells_below {B b : Nat} (hb : B ≤ b) : ∀ (vs : List Value) (o : Nat) (w W : World), Below B w W → Below B w (W.setCells b o vs)
  | [], _, _, _, h => h
  | v :: r, o, w, W, h => by rw [World.setCells]; exact setCells_below hb r (o + 1) w _ (bel_set hb h)
/-- a struct into the midst of a block, as an operation's run -/
theorem run_store_row {P : Program} (W : World) (b o : Nat) (cs : Array Value) (t ty : TypeId) (vs : Array Value) (h : W.heap[b]? = some (.cells cs t (0, 0))) (ho : o + vs.size ≤ cs.size) (hi : (P.info? ty).map (·.size) = some vs.size) (h1 : vs.all (·.oneCell') = true) :
    (Instr.storeAt ty (.pointer (some ⟨b, o, none⟩)) (.agg vs)).run P W = .ok () (W.setCells b o vs.toList) :=
  run_storeAt_mid W b o ty vs (fun j hj => ⟨by rw [cell_of_row _ _ _ _ _ _ h]; simp; omega, frozen_of_row _ _ _ _ _ h⟩) hi h1
theorem beq0 (x : Int) : (x == 0) = decide (0 = x) := by rw [Bool.eq_iff_iff]; simp; exact eq_comm
theorem bool_last (x : Int) (W : World) : (if 0 = x then Result.ok (Value.bool true) W else Result.ok (Value.bool false) W) = .ok (.bool (x == 0)) W := by
  rw [beq0]
  by_cases h : 0 = x
  · rw [if_pos h]; simp [h]
  · rw [if_neg h]; simp [h]
theorem restB_bad (x : Itm) (h1 : x.kind = 4) (h2 : x.scale ≠ 1) : restB x = false := by unfold restB; rw [if_pos ⟨h1, h2⟩]
theorem restB_dead (x : Itm) (ha : x.alive = false) (hA : ¬ (x.kind = 4 ∧ x.scale ≠ 1)) : restB x = eqBb x.ver x.writer x.flow x.hasRest x.rest x.mn.has x.mn.val x.mn.org x.mn.age x.mx.has x.mx.val x.mx.org x.mx.age := by
  unfold restB eqBb
  rw [if_neg hA, ha]
  simp [Itm.regZ, Xt.zeroB, Bool.and_assoc]
theorem restB_ext (x : Itm) (ha : x.alive = true) (hk : x.kind = 4) (hs : x.scale = 1) : restB x = (eqCb x.ver x.writer x.flow x.hasRest x.rest && (extB x.mn && extB x.mx)) := by
  unfold restB eqCb
  rw [if_neg (fun h => h.2 hs), ha, if_pos rfl, if_pos hk]
  simp [Itm.regZ, Bool.and_assoc]
theorem restB_flow (x : Itm) (ha : x.alive = true) (hk : x.kind ≠ 4) : restB x = (((x.ver == 0 && x.writer == 0 && x.flow == 0) || (inB x.ver 1 1099511627776 && (nodeB x.writer && flowB x.flow))) && (flowB x.rest && ((x.hasRest || x.rest == 0) && eqDb x.mn.has x.mn.val x.mn.org x.mn.age x.mx.has x.mx.val x.mx.org x.mx.age))) := by
  unfold restB eqDb
  rw [if_neg (fun h => hk h.1), ha, if_pos rfl, if_neg hk]
  simp [Itm.regZ, Itm.regB, Xt.zeroB, Bool.and_assoc]
theorem eqBb_reg {ver writer flow : Int} {hasRest : Bool} {rest : Int} {m1 : Bool} {m2 m3 m4 : Int} {x1 : Bool} {x2 x3 x4 : Int} (h : false = (ver == 0 && writer == 0 && flow == 0)) : eqBb ver writer flow hasRest rest m1 m2 m3 m4 x1 x2 x3 x4 = false := by
  have : eqBb ver writer flow hasRest rest m1 m2 m3 m4 x1 x2 x3 x4 = ((ver == 0 && writer == 0 && flow == 0) && (!hasRest && (rest == 0 && (!m1 && (m2 == 0 && (m3 == 0 && (m4 == 0 && (!x1 && (x2 == 0 && (x3 == 0 && x4 == 0)))))))))) := by unfold eqBb; simp [Bool.and_assoc]
  rw [this, ← h]; rfl
theorem eqCb_reg {ver writer flow : Int} {hasRest : Bool} {rest : Int} (h : false = (ver == 0 && writer == 0 && flow == 0)) : eqCb ver writer flow hasRest rest = false := by
  have : eqCb ver writer flow hasRest rest = ((ver == 0 && writer == 0 && flow == 0) && (!hasRest && rest == 0)) := by unfold eqCb; simp [Bool.and_assoc]
  rw [this, ← h]; rfl
section
variable (nm : ByteArray) (epoch maker : Int) (alive : Bool) (kind scale ver writer flow : Int) (hasRest : Bool) (rest : Int) (m1 : Bool) (m2 m3 m4 : Int) (x1 : Bool) (x2 x3 x4 : Int) (W : World)
set_option maxHeartbeats 1000000 in
theorem eq_B : (binOp .eql 38 (.agg #[.string nm, .int .i64 epoch, .int .i64 maker, .bool alive, .int .i64 kind, .int .i64 scale, .int .i64 0, .int .i64 0, .int .i64 0, .bool false, .int .i64 0, .bool false, .int .i64 0, .int .i64 0, .int .i64 0, .bool false, .int .i64 0, .int .i64 0, .int .i64 0]) (.agg #[.string nm, .int .i64 epoch, .int .i64 maker, .bool alive, .int .i64 kind, .int .i64 scale, .int .i64 ver, .int .i64 writer, .int .i64 flow, .bool hasRest, .int .i64 rest, .bool m1, .int .i64 m2, .int .i64 m3, .int .i64 m4, .bool x1, .int .i64 x2, .int .i64 x3, .int .i64 x4])).run Tryd.prog W = .ok (.bool (eqBb ver writer flow hasRest rest m1 m2 m3 m4 x1 x2 x3 x4)) W := by
  rw [run_eql_struct]
  simp [go_sem]
  unfold eqBb
  repeat (first | exact bool_last _ _ | (refine bool_chain (beq0 _) fun _ => ?_) | (refine bool_chain_not (by simp) fun _ => ?_))
set_option maxHeartbeats 1000000 in
theorem eq_C : (binOp .eql 38 (.agg #[.string nm, .int .i64 epoch, .int .i64 maker, .bool alive, .int .i64 kind, .int .i64 scale, .int .i64 0, .int .i64 0, .int .i64 0, .bool false, .int .i64 0, .bool m1, .int .i64 m2, .int .i64 m3, .int .i64 m4, .bool x1, .int .i64 x2, .int .i64 x3, .int .i64 x4]) (.agg #[.string nm, .int .i64 epoch, .int .i64 maker, .bool alive, .int .i64 kind, .int .i64 scale, .int .i64 ver, .int .i64 writer, .int .i64 flow, .bool hasRest, .int .i64 rest, .bool m1, .int .i64 m2, .int .i64 m3, .int .i64 m4, .bool x1, .int .i64 x2, .int .i64 x3, .int .i64 x4])).run Tryd.prog W = .ok (.bool (eqCb ver writer flow hasRest rest)) W := by
  rw [run_eql_struct]
  simp [go_sem]
  unfold eqCb
  repeat (first | exact bool_last _ _ | (refine bool_chain (beq0 _) fun _ => ?_) | (refine bool_chain_not (by simp) fun _ => ?_))
set_option maxHeartbeats 1000000 in
theorem eq_D : (binOp .eql 38 (.agg #[.string nm, .int .i64 epoch, .int .i64 maker, .bool alive, .int .i64 kind, .int .i64 scale, .int .i64 ver, .int .i64 writer, .int .i64 flow, .bool hasRest, .int .i64 rest, .bool false, .int .i64 0, .int .i64 0, .int .i64 0, .bool false, .int .i64 0, .int .i64 0, .int .i64 0]) (.agg #[.string nm, .int .i64 epoch, .int .i64 maker, .bool alive, .int .i64 kind, .int .i64 scale, .int .i64 ver, .int .i64 writer, .int .i64 flow, .bool hasRest, .int .i64 rest, .bool m1, .int .i64 m2, .int .i64 m3, .int .i64 m4, .bool x1, .int .i64 x2, .int .i64 x3, .int .i64 x4])).run Tryd.prog W = .ok (.bool (eqDb m1 m2 m3 m4 x1 x2 x3 x4)) W := by
  rw [run_eql_struct]
  simp [go_sem]
  unfold eqDb
  repeat (first | exact bool_last _ _ | (refine bool_chain (beq0 _) fun _ => ?_) | (refine bool_chain_not (by simp) fun _ => ?_))
theorem ne_R : (binOp .neq 34 (.agg #[.int .i64 ver, .int .i64 writer, .int .i64 flow]) (.agg #[.int .i64 0, .int .i64 0, .int .i64 0])).run Tryd.prog W = .ok (.bool (!(ver == 0 && writer == 0 && flow == 0))) W := by
  rw [run_neq_struct]
  simp [go_sem]
  by_cases h1 : ver = 0 <;> by_cases h2 : writer = 0 <;> by_cases h3 : flow = 0 <;> simp [h1, h2, h3]
end

end Go.Proofs.YtgnpjenpehfjbaaDoor

