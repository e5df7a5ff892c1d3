/- A region that draws its order, whose operations only read or make memory: whatever the order, each operation yields what is said of it.
A region that draws its order, whose operations only read or make memory, some of them not wanted: whatever the order, each operation yields what is said of it.
A region that draws its order, by what holds of the world while it runs, with any number of stores: the operations ys 0, ys 1, .. yield values into slots, the others store; J says of the world what holds when the operations marked in d have run, with these values. And one operation of a plain region, by its run.
A region that draws its order, inside any fence that lets every function in: by what holds of the world while it runs; operations may yield, store, call, or not be wanted.
As FlowM; a slot that the region writes may be read ahead of the write.
Ranges over functions within a loop: the marks that they leave among the deferred calls, one behind the other.
The contracts of the library's functions at this seat's program, laid by the kit's shelf in plain words: each one application of a theorem of the kit.
Cuts: rows in memory: links, numbers, truths; rows that a call makes.
Cuts: the document's Reach, plain: rounds over all pairs. No program here.
Cuts: the document's node, but, Reach: walked.
Cuts: the document's Reach, walked.
Cuts: a node's neighbours, one behind the other, as the iterator comes to them. Plain.
Cuts: neighbours and its iterator, walked.
Cuts: a flow in memory; open, push, other: walked.
Cuts: slices.Repeat of one number (by program: wip/tools/gen_crep.py). -/
import Derived.Test.YtenilbofncfbdaaCA
import Derived.Shelf.Bits.Mul64
import Derived.Test.YtenilbofncfbdaaProg
import Derived.Deep.QuietTactic
import Derived.BigQuiet
import Derived.Laws.AppendOwnNone
import Derived.Deep.OwnRows
import Derived.Outline
import Derived.Laws.CopyOwn
import Derived.Deep.Cut
set_option linter.unusedSimpArgs false
set_option linter.unusedVariables false
namespace Go.Proofs.Ytenilbofncfbdaa
open Go.RowKit
variable {P : Program}

/-- what one operation does -/
def FlowOp (P : Program) (o : Oper) (a : Act) (W : World) (G : Value → World → Prop) : Prop :=
  (∃ v W', (execOp a.eval o).run P W = .ok (.value v) W' ∧ Below W.heap.size W W' ∧ G v W') ∨
  (∃ f args W1, (execOp a.eval o).run P W = .ok (.enter f args) W1 ∧ Below W.heap.size W W1 ∧ Calls P f args W1 fun e W' => ∃ v, e = .returned v ∧ Below W1.heap.size W1 W' ∧ G v W')
theorem FlowOp.call {o : Oper} {a : Act} {W : World} {G : Value → World → Prop} (f : FuncId) (args : Array Value) (h : (execOp a.eval o).run P W = .ok (.enter f args) W) (g : Calls P f args W fun e W' => ∃ v, e = .returned v ∧ Below W.heap.size W W' ∧ G v W') : FlowOp P o a W G :=
  .inr ⟨f, args, W, h, Below.refl _ _, g⟩

theorem op_at {x o y : Oper} (h : x = o) (e : x = y) : o = y := h ▸ e
theorem getD_puts {a : Act} {s t : Nat} {v : Value} (h : t ≠ s) : (a.put (some s) v).tmps.getD t undef = a.tmps.getD t undef := by
  simp only [Act.put, Array.getD_eq_getD_getElem?]
  rw [Array.getElem?_setIfInBounds_ne (Ne.symm h)]
theorem getD_puts_same {a : Act} {s : Nat} {v : Value} (h : s < a.tmps.size) : (a.put (some s) v).tmps.getD s undef = v := by
  simp [Act.put, Array.getD, h]
theorem size_puts (a : Act) (s : Nat) (v : Value) : (a.put (some s) v).tmps.size = a.tmps.size := by simp [Act.put]

/-- the frame behind the region: its operations' slots set, one behind the other -/
def puts (D : Nat → Nat) (vs : Nat → Value) : Nat → Act → Act
  | 0, a => a
  | n + 1, a => (puts D vs n a).put (some (D n)) (vs n)
theorem puts_size (D : Nat → Nat) (vs : Nat → Value) (n : Nat) (a : Act) : (puts D vs n a).tmps.size = a.tmps.size := by
  induction n with
  | zero => rfl
  | succ n ih => rw [puts, size_puts, ih]
theorem puts_defers (D : Nat → Nat) (vs : Nat → Value) (n : Nat) (a : Act) : (puts D vs n a).defers = a.defers := by
  induction n with
  | zero => rfl
  | succ n ih => exact ih
theorem puts_other (D : Nat → Nat) (vs : Nat → Value) (n : Nat) (a : Act) (s : Nat) (h : ∀ i, i < n → D i ≠ s) : (puts D vs n a).tmps.getD s undef = a.tmps.getD s undef := by
  induction n with
  | zero => rfl
  | succ n ih => rw [puts, getD_puts (Ne.symm (h n (by omega)))]; exact ih fun i hi => h i (by omega)
theorem puts_at (D : Nat → Nat) (vs : Nat → Value) (n : Nat) (a : Act) (hs : ∀ i, i < n → D i < a.tmps.size) (hi : ∀ i j, i < n → j < n → D i = D j → i = j) (k : Nat) (hk : k < n) : (puts D vs n a).tmps.getD (D k) undef = vs k := by
  induction n with
  | zero => omega
  | succ n ih =>
    rw [puts]
    by_cases h : k = n
    · subst h
      exact getD_puts_same (by rw [puts_size]; exact hs k (by omega))
    · rw [getD_puts (fun e => h (hi _ _ (by omega) (by omega) e))]
      exact ih (fun i h => hs i (by omega)) (fun i j h1 h2 => hi i j (by omega) (by omega)) (by omega)

theorem act_ext {a b : Act} (hs : a.tmps.size = b.tmps.size) (h : ∀ s, a.tmps.getD s undef = b.tmps.getD s undef) (hd : a.defers = b.defers) : a = b := by
  cases a; cases b
  simp only at hs h hd
  subst hd
  congr 1
  apply Array.ext hs
  intro i h1 h2
  have := h i
  simpa [Array.getD, h1, h2] using this

end Go.Proofs.Ytenilbofncfbdaa

namespace Go.Proofs.Ytenilbofncfbdaa
open Go.RowKit
variable {P : Program}

end Go.Proofs.Ytenilbofncfbdaa

namespace Go.Proofs.Ytenilbofncfbdaa
open Go.RowKit
variable {P : Program}

def updC (d : Nat → Bool) (i : Nat) : Nat → Bool := fun j => if j = i then true else d j
def updW (vs : Nat → Value) (i : Nat) (v : Value) : Nat → Value := fun j => if j = i then v else vs j

end Go.Proofs.Ytenilbofncfbdaa

namespace Go.Proofs.Ytenilbofncfbdaa
open Go.RowKit
variable {P : Program}

theorem wpIn_flowM {F0 : Fence} {n0 : Nat} (hfn : ∀ f, F0.fn f) (hdep0 : F0.depth.isSome = true → 1 ≤ n0) {ops : Array Oper} {Q : Exit → Act → World → Prop} {id : Nat} {a0 : Act} {w : World} (hm : P.follows .mixedOrders = true) (hline : lineUp ops = true) (m n : Nat) (hsz : ops.size = m) (ys : Nat → Nat)
    (D : Nat → Nat) (hD : ((List.range n).all fun j => (ops.getD (ys j) default).dst == some (D j)) = true)
    (hst : ((List.range m).all fun i => (List.range n).any (fun j => ys j == i) || (ops.getD i default).dst == none) = true)
    (hyi : ((List.range n).all fun i => (List.range i).all fun j => ys i != ys j) = true) (hyl : ((List.range n).all fun j => decide (ys j < m)) = true)
    (hDs : ((List.range n).all fun i => decide (D i < a0.tmps.size)) = true)
    (hDi : ((List.range n).all fun i => (List.range i).all fun j => D i != D j) = true)
    (hnd : ((List.range m).all fun i => match (ops.getD i default).op with | .defer _ => false | _ => true) = true)
    (F : Nat → Value → Prop) (J : (Nat → Bool) → (Nat → Value) → World → Prop)
    (h0 : ∀ vs, J (fun _ => false) vs w.drew)
    (hstep : ∀ (i : Nat) (o : Oper) (a : Act) (W : World) (d : Nat → Bool) (vs : Nat → Value), i < m → ops.getD i default = o → d i = false → J d vs W →
      (∀ s, ((List.range n).all fun j => D j != s) = true → a.tmps.getD s undef = a0.tmps.getD s undef) →
      (∀ k, (o.after.any fun e => Region.binds .any e && e.on == k) = true → d k = true) →
      (∀ j, j < n → d (ys j) = true → F j (vs j) ∧ a.tmps.getD (D j) undef = vs j) →
      ((∀ k b, o.guard = some (k, b) → ∃ j, j < n ∧ ys j = k ∧ a.tmps.getD (D j) undef = .bool b) ∧
        ((∃ j, j < n ∧ ys j = i ∧ ∃ v W', (execOp a.eval o).run P W = .ok (.value v) W' ∧ F j v ∧ J (updC d i) (updW vs j v) W') ∨
        (o.dst = none ∧ ∃ W', (execOp a.eval o).run P W = .ok .skip W' ∧ J (updC d i) vs W') ∨
        (∃ j, j < n ∧ ys j = i ∧ ∃ f args W1, (execOp a.eval o).run P W = .ok (.enter f args) W1 ∧ CallsIn F0 (n0 - 1) P f args W1 fun e W' => ∃ v, e = .returned v ∧ F j v ∧ J (updC d i) (updW vs j v) W'))) ∨
      (∃ k b j, o.guard = some (k, b) ∧ j < n ∧ ys j = k ∧ a.tmps.getD (D j) undef ≠ .bool b ∧
        ((∃ j, j < n ∧ ys j = i ∧ F j undef ∧ J (updC d i) (updW vs j undef) W) ∨ (o.dst = none ∧ J (updC d i) vs W))))
    (hend : ∀ (d : Nat → Bool) (vs : Nat → Value) (W : World), (∀ i, i < m → d i = true) → J d vs W → (∀ j, j < n → F j (vs j)) → Q .normal (puts D vs n a0) W) : (Code.region id ops true).wpIn F0 n0 P Q a0 w := by
  have hyl' : ∀ j, j < n → ys j < m := fun j hj => by simpa using List.all_eq_true.1 hyl j (List.mem_range.2 hj)
  have hD' : ∀ j o, j < n → ops[ys j]? = some o → o.dst = some (D j) := by
    intro j o hj ho
    have h1 := List.all_eq_true.1 hD j (List.mem_range.2 hj)
    have h2 : ops.getD (ys j) default = o := by
      have := (Array.getElem?_eq_some_iff.1 ho).2
      simp [Array.getD, hsz, hyl' j hj, this]
    rw [h2] at h1
    simpa using h1
  have hDs' : ∀ i, i < n → D i < a0.tmps.size := fun i hi => by simpa using List.all_eq_true.1 hDs i (List.mem_range.2 hi)
  have inj : ∀ (f : Nat → Nat), ((List.range n).all fun i => (List.range i).all fun j => f i != f j) = true → ∀ i j, i < n → j < n → f i = f j → i = j := by
    intro f hf
    have key : ∀ i j, i < n → j < i → f i ≠ f j := fun i j hi hj => by
      have h1 := List.all_eq_true.1 hf i (List.mem_range.2 hi)
      have h2 := List.all_eq_true.1 h1 j (List.mem_range.2 hj)
      simpa using h2
    intro i j hi hj he
    rcases Nat.lt_trichotomy i j with h | h | h
    · exact absurd he.symm (key j i hj h)
    · exact h
    · exact absurd he (key i j hi h)
  have hDi' := inj D hDi
  have hyi' := inj ys hyi
  refine wpIn_region_inv hm hline (fun d a W => a.tmps.size = a0.tmps.size ∧ a.defers = a0.defers ∧
    (∀ s, (∀ j, j < n → D j ≠ s) → a.tmps.getD s undef = a0.tmps.getD s undef) ∧ ∃ vs, (∀ j, j < n → d (ys j) = true → F j (vs j) ∧ a.tmps.getD (D j) undef = vs j) ∧ J d vs W) ?_ ?_ ?_
  · exact ⟨rfl, rfl, fun _ _ => rfl, fun _ => undef, fun _ _ h => (by cases h), h0 _⟩
  · rintro d d' i o a W hdep ⟨hasz, hdf, hfr, vs, hFd, hJ⟩ ho hdi hd'i hdne hready
    have hi : i < m := by rw [← hsz]; exact (Array.getElem?_eq_some_iff.1 ho).1
    have hgo : ops.getD i default = o := by
      have := (Array.getElem?_eq_some_iff.1 ho).2
      simp [Array.getD, hsz, hi, this]
    have hndf : ∀ c, o.op ≠ .defer c := by
      have h1 := List.all_eq_true.1 hnd i (List.mem_range.2 hi)
      rw [hgo] at h1
      intro c hc
      rw [hc] at h1
      cases h1
    have hdd : d' = updC d i := by
      funext j
      unfold updC
      by_cases hj : j = i
      · subst hj; rw [if_pos rfl]; exact hd'i
      · rw [if_neg hj]; exact hdne j hj
    have hfr' : ∀ s, ((List.range n).all fun j => D j != s) = true → a.tmps.getD s undef = a0.tmps.getD s undef := fun s hs => hfr s fun j hj => by
      have := List.all_eq_true.1 hs j (List.mem_range.2 hj)
      simpa using this
    have hst2 := hstep i o a W d vs hi hgo hdi hJ hfr' (fun k hk => by
      obtain ⟨u, hu, hbu⟩ := Array.any_eq_true.1 hk
      simp only [Bool.and_eq_true, beq_iff_eq] at hbu
      obtain ⟨hb, rfl⟩ := hbu
      exact hready _ (Array.getElem_mem hu) hb) hFd
    have hval : ∀ j, j < n → (ops[ys j]?).bind (·.dst) = some (D j) ∧ a.tmps[D j]? = some (a.tmps.getD (D j) undef) := by
      intro j hj
      have hlt : ys j < ops.size := by rw [hsz]; exact hyl' j hj
      have h3 : ops[ys j]? = some ops[ys j] := by simp [hlt]
      refine ⟨by rw [h3]; exact hD' j _ hj h3, ?_⟩
      have h5 : D j < a.tmps.size := by rw [hasz]; exact hDs' j hj
      simp [Array.getD, h5]
    have yld : ∀ j, j < n → ∀ v, F j v → ∀ W', J (updC d i) (updW vs j v) W' → ys j = i → ((a.put (some (D j)) v).tmps.size = a0.tmps.size ∧ (a.put (some (D j)) v).defers = a0.defers ∧
        (∀ s, (∀ k, k < n → D k ≠ s) → (a.put (some (D j)) v).tmps.getD s undef = a0.tmps.getD s undef) ∧ ∃ vs, (∀ k, k < n → d' (ys k) = true → F k (vs k) ∧ (a.put (some (D j)) v).tmps.getD (D k) undef = vs k) ∧ J d' vs W') := by
      intro j hjn v hv W' hJ' hyj
      subst hyj
      refine ⟨by rw [size_puts]; exact hasz, hdf, fun s hs => by rw [getD_puts (Ne.symm (hs j hjn))]; exact hfr s hs, updW vs j v, fun k hk hdk => ?_, by rw [hdd]; exact hJ'⟩
      by_cases hki : k = j
      · subst hki
        unfold updW
        rw [if_pos rfl]
        exact ⟨hv, getD_puts_same (by rw [hasz]; exact hDs' k hk)⟩
      · unfold updW
        rw [if_neg hki, getD_puts (fun e => hki (hDi' _ _ hk hjn e))]
        exact hFd k hk (by rw [← hdne (ys k) (fun e => hki (hyi' _ _ hk hjn e))]; exact hdk)
    have skp : o.dst = none → ∀ W', J (updC d i) vs W' → (a.tmps.size = a0.tmps.size ∧ a.defers = a0.defers ∧
        (∀ s, (∀ k, k < n → D k ≠ s) → a.tmps.getD s undef = a0.tmps.getD s undef) ∧ ∃ vs, (∀ k, k < n → d' (ys k) = true → F k (vs k) ∧ a.tmps.getD (D k) undef = vs k) ∧ J d' vs W') := by
      intro hdst W' hJ'
      have hno : ∀ k, k < n → ys k ≠ i := by
        intro k hk e
        subst e
        have := hD' k o hk ho
        rw [hdst] at this
        cases this
      exact ⟨hasz, hdf, hfr, vs, fun k hk hdk => hFd k hk (by rw [← hdne (ys k) (hno k hk)]; exact hdk), by rw [hdd]; exact hJ'⟩
    unfold wpOpIn
    rw [ho]
    simp only
    rcases hst2 with ⟨hgw, hst2⟩ | ⟨k, b, j, hgg, hjn, hjk, hne, hst2⟩
    · have hw : Region.wanted o (yielded ops a.tmps) = true := by
        unfold Region.wanted
        cases hgg : o.guard with
        | none => rfl
        | some p =>
          obtain ⟨k, b⟩ := p
          obtain ⟨j, hjn, rfl, hjb⟩ := hgw k b hgg
          obtain ⟨h1, h2⟩ := hval j hjn
          rw [hjb] at h2
          simp [yielded, h1, h2]
      rw [if_pos hw]
      refine ⟨fun f _ => hfn f, ?_⟩
      rw [Oper.semAt_eq _ _ _ hndf]
      rcases hst2 with ⟨j, hjn, hyj, v, W', hrun, hv, hJ'⟩ | ⟨hdst, W', hrun, hJ'⟩ | ⟨j, hjn, hyj, f, args, W1, hrun, hcall⟩
      · rw [hrun]
        show _ ∧ _
        rw [hD' j o hjn (by rw [hyj]; exact ho)]
        exact yld j hjn v hv W' hJ' hyj
      · rw [hrun]
        show _ ∧ _
        rw [hdst]
        exact skp hdst W' hJ'
      · rw [hrun]
        refine ⟨hdep0, hcall.mono ?_⟩
        rintro e W' ⟨v, rfl, hv, hJ'⟩
        show _ ∧ _
        rw [hD' j o hjn (by rw [hyj]; exact ho)]
        exact yld j hjn v hv W' hJ' hyj
    · have hw : ¬ Region.wanted o (yielded ops a.tmps) = true := by
        unfold Region.wanted
        subst hjk
        obtain ⟨h1, h2⟩ := hval j hjn
        rw [hgg]
        simp only [yielded, h1, Option.bind_some, h2]
        intro hc
        apply hne
        revert hc
        generalize a.tmps.getD (D j) undef = u
        cases u <;> simp
      rw [if_neg hw]
      refine ⟨fun f _ => hfn f, ?_⟩
      rcases hst2 with ⟨j, hjn, hyj, hv, hJ'⟩ | ⟨hdst, hJ'⟩
      · rw [hD' j o hjn (by rw [hyj]; exact ho)]
        exact yld j hjn undef hv W hJ' hyj
      · rw [hdst]
        exact skp hdst W hJ'
  · rintro d a W ⟨hasz, hdf, hfr, vs, hFd, hJ⟩ hall
    rw [hsz] at hall
    have he : a = puts D vs n a0 := by
      refine act_ext (by rw [puts_size]; exact hasz) (fun s => ?_) (by rw [puts_defers]; exact hdf)
      by_cases hs : ∃ j, j < n ∧ D j = s
      · obtain ⟨j, hj, rfl⟩ := hs
        rw [puts_at D _ n a0 hDs' hDi' j hj]
        exact (hFd j hj (hall _ (hyl' j hj))).2
      · rw [puts_other _ _ _ _ _ (fun i hi h => hs ⟨i, hi, h⟩)]
        exact hfr s fun j hj h => hs ⟨j, hj, h⟩
    rw [he]
    exact hend d vs W hall hJ fun j hj => (hFd j hj (hall _ (hyl' j hj))).1

end Go.Proofs.Ytenilbofncfbdaa

namespace Go.Proofs.Ytenilbofncfbdaa
open Go.RowKit
variable {P : Program}

theorem wpIn_flowM2 {F0 : Fence} {n0 : Nat} (hfn : ∀ f, F0.fn f) (hdep0 : F0.depth.isSome = true → 1 ≤ n0) {ops : Array Oper} {Q : Exit → Act → World → Prop} {id : Nat} {a0 : Act} {w : World} (hm : P.follows .mixedOrders = true) (hline : lineUp ops = true) (m n : Nat) (hsz : ops.size = m) (ys : Nat → Nat)
    (D : Nat → Nat) (hD : ((List.range n).all fun j => (ops.getD (ys j) default).dst == some (D j)) = true)
    (hst : ((List.range m).all fun i => (List.range n).any (fun j => ys j == i) || (ops.getD i default).dst == none) = true)
    (hyi : ((List.range n).all fun i => (List.range i).all fun j => ys i != ys j) = true) (hyl : ((List.range n).all fun j => decide (ys j < m)) = true)
    (hDs : ((List.range n).all fun i => decide (D i < a0.tmps.size)) = true)
    (hDi : ((List.range n).all fun i => (List.range i).all fun j => D i != D j) = true)
    (hnd : ((List.range m).all fun i => match (ops.getD i default).op with | .defer _ => false | _ => true) = true)
    (F : Nat → Value → Prop) (J : (Nat → Bool) → (Nat → Value) → World → Prop)
    (h0 : ∀ vs, J (fun _ => false) vs w.drew)
    (hstep : ∀ (i : Nat) (o : Oper) (a : Act) (W : World) (d : Nat → Bool) (vs : Nat → Value), i < m → ops.getD i default = o → d i = false → J d vs W →
      (∀ s, ((List.range n).all fun j => D j != s) = true → a.tmps.getD s undef = a0.tmps.getD s undef) →
      (∀ k, (o.after.any fun e => Region.binds .any e && e.on == k) = true → d k = true) →
      (∀ j, j < n → d (ys j) = true → F j (vs j) ∧ a.tmps.getD (D j) undef = vs j) →
      (∀ j, j < n → d (ys j) = false → a.tmps.getD (D j) undef = a0.tmps.getD (D j) undef) →
      ((∀ k b, o.guard = some (k, b) → ∃ j, j < n ∧ ys j = k ∧ a.tmps.getD (D j) undef = .bool b) ∧
        ((∃ j, j < n ∧ ys j = i ∧ ∃ v W', (execOp a.eval o).run P W = .ok (.value v) W' ∧ F j v ∧ J (updC d i) (updW vs j v) W') ∨
        (o.dst = none ∧ ∃ W', (execOp a.eval o).run P W = .ok .skip W' ∧ J (updC d i) vs W') ∨
        (∃ j, j < n ∧ ys j = i ∧ ∃ f args W1, (execOp a.eval o).run P W = .ok (.enter f args) W1 ∧ CallsIn F0 (n0 - 1) P f args W1 fun e W' => ∃ v, e = .returned v ∧ F j v ∧ J (updC d i) (updW vs j v) W'))) ∨
      (∃ k b j, o.guard = some (k, b) ∧ j < n ∧ ys j = k ∧ a.tmps.getD (D j) undef ≠ .bool b ∧
        ((∃ j, j < n ∧ ys j = i ∧ F j undef ∧ J (updC d i) (updW vs j undef) W) ∨ (o.dst = none ∧ J (updC d i) vs W))))
    (hend : ∀ (d : Nat → Bool) (vs : Nat → Value) (W : World), (∀ i, i < m → d i = true) → J d vs W → (∀ j, j < n → F j (vs j)) → Q .normal (puts D vs n a0) W) : (Code.region id ops true).wpIn F0 n0 P Q a0 w := by
  have hyl' : ∀ j, j < n → ys j < m := fun j hj => by simpa using List.all_eq_true.1 hyl j (List.mem_range.2 hj)
  have hD' : ∀ j o, j < n → ops[ys j]? = some o → o.dst = some (D j) := by
    intro j o hj ho
    have h1 := List.all_eq_true.1 hD j (List.mem_range.2 hj)
    have h2 : ops.getD (ys j) default = o := by
      have := (Array.getElem?_eq_some_iff.1 ho).2
      simp [Array.getD, hsz, hyl' j hj, this]
    rw [h2] at h1
    simpa using h1
  have hDs' : ∀ i, i < n → D i < a0.tmps.size := fun i hi => by simpa using List.all_eq_true.1 hDs i (List.mem_range.2 hi)
  have inj : ∀ (f : Nat → Nat), ((List.range n).all fun i => (List.range i).all fun j => f i != f j) = true → ∀ i j, i < n → j < n → f i = f j → i = j := by
    intro f hf
    have key : ∀ i j, i < n → j < i → f i ≠ f j := fun i j hi hj => by
      have h1 := List.all_eq_true.1 hf i (List.mem_range.2 hi)
      have h2 := List.all_eq_true.1 h1 j (List.mem_range.2 hj)
      simpa using h2
    intro i j hi hj he
    rcases Nat.lt_trichotomy i j with h | h | h
    · exact absurd he.symm (key j i hj h)
    · exact h
    · exact absurd he (key i j hi h)
  have hDi' := inj D hDi
  have hyi' := inj ys hyi
  refine wpIn_region_inv hm hline (fun d a W => a.tmps.size = a0.tmps.size ∧ a.defers = a0.defers ∧
    (∀ s, (∀ j, j < n → D j ≠ s) → a.tmps.getD s undef = a0.tmps.getD s undef) ∧ (∀ j, j < n → d (ys j) = false → a.tmps.getD (D j) undef = a0.tmps.getD (D j) undef) ∧ ∃ vs, (∀ j, j < n → d (ys j) = true → F j (vs j) ∧ a.tmps.getD (D j) undef = vs j) ∧ J d vs W) ?_ ?_ ?_
  · exact ⟨rfl, rfl, fun _ _ => rfl, fun _ _ _ => rfl, fun _ => undef, fun _ _ h => (by cases h), h0 _⟩
  · rintro d d' i o a W hdep ⟨hasz, hdf, hfr, hfz, vs, hFd, hJ⟩ ho hdi hd'i hdne hready
    have hi : i < m := by rw [← hsz]; exact (Array.getElem?_eq_some_iff.1 ho).1
    have hgo : ops.getD i default = o := by
      have := (Array.getElem?_eq_some_iff.1 ho).2
      simp [Array.getD, hsz, hi, this]
    have hndf : ∀ c, o.op ≠ .defer c := by
      have h1 := List.all_eq_true.1 hnd i (List.mem_range.2 hi)
      rw [hgo] at h1
      intro c hc
      rw [hc] at h1
      cases h1
    have hdd : d' = updC d i := by
      funext j
      unfold updC
      by_cases hj : j = i
      · subst hj; rw [if_pos rfl]; exact hd'i
      · rw [if_neg hj]; exact hdne j hj
    have hfr' : ∀ s, ((List.range n).all fun j => D j != s) = true → a.tmps.getD s undef = a0.tmps.getD s undef := fun s hs => hfr s fun j hj => by
      have := List.all_eq_true.1 hs j (List.mem_range.2 hj)
      simpa using this
    have hst2 := hstep i o a W d vs hi hgo hdi hJ hfr' (fun k hk => by
      obtain ⟨u, hu, hbu⟩ := Array.any_eq_true.1 hk
      simp only [Bool.and_eq_true, beq_iff_eq] at hbu
      obtain ⟨hb, rfl⟩ := hbu
      exact hready _ (Array.getElem_mem hu) hb) hFd hfz
    have hval : ∀ j, j < n → (ops[ys j]?).bind (·.dst) = some (D j) ∧ a.tmps[D j]? = some (a.tmps.getD (D j) undef) := by
      intro j hj
      have hlt : ys j < ops.size := by rw [hsz]; exact hyl' j hj
      have h3 : ops[ys j]? = some ops[ys j] := by simp [hlt]
      refine ⟨by rw [h3]; exact hD' j _ hj h3, ?_⟩
      have h5 : D j < a.tmps.size := by rw [hasz]; exact hDs' j hj
      simp [Array.getD, h5]
    have yld : ∀ j, j < n → ∀ v, F j v → ∀ W', J (updC d i) (updW vs j v) W' → ys j = i → ((a.put (some (D j)) v).tmps.size = a0.tmps.size ∧ (a.put (some (D j)) v).defers = a0.defers ∧
        (∀ s, (∀ k, k < n → D k ≠ s) → (a.put (some (D j)) v).tmps.getD s undef = a0.tmps.getD s undef) ∧ (∀ k, k < n → d' (ys k) = false → (a.put (some (D j)) v).tmps.getD (D k) undef = a0.tmps.getD (D k) undef) ∧ ∃ vs, (∀ k, k < n → d' (ys k) = true → F k (vs k) ∧ (a.put (some (D j)) v).tmps.getD (D k) undef = vs k) ∧ J d' vs W') := by
      intro j hjn v hv W' hJ' hyj
      subst hyj
      refine ⟨by rw [size_puts]; exact hasz, hdf, fun s hs => by rw [getD_puts (Ne.symm (hs j hjn))]; exact hfr s hs, fun k hk hdk => (by
        have hki : k ≠ j := by rintro rfl; rw [hd'i] at hdk; cases hdk
        rw [getD_puts (fun e => hki (hDi' _ _ hk hjn e))]
        exact hfz k hk (by rw [← hdne (ys k) (fun e => hki (hyi' _ _ hk hjn e))]; exact hdk)), updW vs j v, fun k hk hdk => ?_, by rw [hdd]; exact hJ'⟩
      by_cases hki : k = j
      · subst hki
        unfold updW
        rw [if_pos rfl]
        exact ⟨hv, getD_puts_same (by rw [hasz]; exact hDs' k hk)⟩
      · unfold updW
        rw [if_neg hki, getD_puts (fun e => hki (hDi' _ _ hk hjn e))]
        exact hFd k hk (by rw [← hdne (ys k) (fun e => hki (hyi' _ _ hk hjn e))]; exact hdk)
    have skp : o.dst = none → ∀ W', J (updC d i) vs W' → (a.tmps.size = a0.tmps.size ∧ a.defers = a0.defers ∧
        (∀ s, (∀ k, k < n → D k ≠ s) → a.tmps.getD s undef = a0.tmps.getD s undef) ∧ (∀ k, k < n → d' (ys k) = false → a.tmps.getD (D k) undef = a0.tmps.getD (D k) undef) ∧ ∃ vs, (∀ k, k < n → d' (ys k) = true → F k (vs k) ∧ a.tmps.getD (D k) undef = vs k) ∧ J d' vs W') := by
      intro hdst W' hJ'
      have hno : ∀ k, k < n → ys k ≠ i := by
        intro k hk e
        subst e
        have := hD' k o hk ho
        rw [hdst] at this
        cases this
      exact ⟨hasz, hdf, hfr, fun k hk hdk => hfz k hk (by rw [← hdne (ys k) (hno k hk)]; exact hdk), vs, fun k hk hdk => hFd k hk (by rw [← hdne (ys k) (hno k hk)]; exact hdk), by rw [hdd]; exact hJ'⟩
    unfold wpOpIn
    rw [ho]
    simp only
    rcases hst2 with ⟨hgw, hst2⟩ | ⟨k, b, j, hgg, hjn, hjk, hne, hst2⟩
    · have hw : Region.wanted o (yielded ops a.tmps) = true := by
        unfold Region.wanted
        cases hgg : o.guard with
        | none => rfl
        | some p =>
          obtain ⟨k, b⟩ := p
          obtain ⟨j, hjn, rfl, hjb⟩ := hgw k b hgg
          obtain ⟨h1, h2⟩ := hval j hjn
          rw [hjb] at h2
          simp [yielded, h1, h2]
      rw [if_pos hw]
      refine ⟨fun f _ => hfn f, ?_⟩
      rw [Oper.semAt_eq _ _ _ hndf]
      rcases hst2 with ⟨j, hjn, hyj, v, W', hrun, hv, hJ'⟩ | ⟨hdst, W', hrun, hJ'⟩ | ⟨j, hjn, hyj, f, args, W1, hrun, hcall⟩
      · rw [hrun]
        show _ ∧ _
        rw [hD' j o hjn (by rw [hyj]; exact ho)]
        exact yld j hjn v hv W' hJ' hyj
      · rw [hrun]
        show _ ∧ _
        rw [hdst]
        exact skp hdst W' hJ'
      · rw [hrun]
        refine ⟨hdep0, hcall.mono ?_⟩
        rintro e W' ⟨v, rfl, hv, hJ'⟩
        show _ ∧ _
        rw [hD' j o hjn (by rw [hyj]; exact ho)]
        exact yld j hjn v hv W' hJ' hyj
    · have hw : ¬ Region.wanted o (yielded ops a.tmps) = true := by
        unfold Region.wanted
        subst hjk
        obtain ⟨h1, h2⟩ := hval j hjn
        rw [hgg]
        simp only [yielded, h1, Option.bind_some, h2]
        intro hc
        apply hne
        revert hc
        generalize a.tmps.getD (D j) undef = u
        cases u <;> simp
      rw [if_neg hw]
      refine ⟨fun f _ => hfn f, ?_⟩
      rcases hst2 with ⟨j, hjn, hyj, hv, hJ'⟩ | ⟨hdst, hJ'⟩
      · rw [hD' j o hjn (by rw [hyj]; exact ho)]
        exact yld j hjn undef hv W hJ' hyj
      · rw [hdst]
        exact skp hdst W hJ'
  · rintro d a W ⟨hasz, hdf, hfr, -, vs, hFd, hJ⟩ hall
    rw [hsz] at hall
    have he : a = puts D vs n a0 := by
      refine act_ext (by rw [puts_size]; exact hasz) (fun s => ?_) (by rw [puts_defers]; exact hdf)
      by_cases hs : ∃ j, j < n ∧ D j = s
      · obtain ⟨j, hj, rfl⟩ := hs
        rw [puts_at D _ n a0 hDs' hDi' j hj]
        exact (hFd j hj (hall _ (hyl' j hj))).2
      · rw [puts_other _ _ _ _ _ (fun i hi h => hs ⟨i, hi, h⟩)]
        exact hfr s fun j hj h => hs ⟨j, hj, h⟩
    rw [he]
    exact hend d vs W hall hJ fun j hj => (hFd j hj (hall _ (hyl' j hj))).1

end Go.Proofs.Ytenilbofncfbdaa

namespace Go.Proofs.Ytenilbofncfbdaa
open Go.RowKit

/-- the marks that ranges have left: their blocks lie from B on below U -/
def Marks (B U : Nat) : List Deferred → World → Prop
  | [], _ => True
  | d :: ds, w => (∃ D, d = { target := .collected D, args := #[] } ∧ B ≤ D ∧ D < U ∧ w.heap[D]? = some (.deferred (some [])) ∧ ∀ d', d' ∈ ds → d' ≠ d) ∧ Marks B U ds w
theorem Marks.keep {B U : Nat} {W W' : World} (hk : ∀ D, B ≤ D → D < U → W.heap[D]? = some (.deferred (some [])) → W'.heap[D]? = some (.deferred (some []))) : ∀ {ds : List Deferred}, Marks B U ds W → Marks B U ds W' := by
  intro ds
  induction ds with
  | nil => intro _; trivial
  | cons d ds ih =>
    rintro ⟨⟨D, h1, h2, h3, h4, h5⟩, h6⟩
    exact ⟨⟨D, h1, h2, h3, hk D h2 h3 h4, h5⟩, ih h6⟩
theorem Marks.others {B U : Nat} {W W' : World} {ds : List Deferred} (h : Marks B U ds W) (hk : KeepsOthers W W') : Marks B U ds W' := h.keep fun D _ _ hD => hk.same D _ hD rfl
theorem Marks.below {B U : Nat} {W W' : World} {ds : List Deferred} (h : Marks B U ds W) (hb : Below W.heap.size W W') : Marks B U ds W' := h.keep fun D _ _ hD => (hb.block D (Array.getElem?_eq_some_iff.1 hD).1).trans hD
theorem Marks.put {B U l : Nat} {W : World} {o' : Obj} {ds : List Deferred} (h : Marks B U ds W) (hl : U ≤ l) : Marks B U ds (W.putObj l o') := h.keep fun D _ hU hD => (World.putObj_heap_other (by omega)).trans hD
theorem Marks.set {B U : Nat} {W : World} {b i : Nat} {v : Value} {ds : List Deferred} (h : Marks B U ds W) (hb : ∃ cs t fr, W.heap[b]? = some (.cells cs t fr)) : Marks B U ds (W.setCell ⟨b, i, none⟩ v) := h.keep fun D _ _ hD => by
  obtain ⟨cs, t, fr, hb⟩ := hb
  have : D ≠ b := by rintro rfl; rw [hb] at hD; cases hD
  exact (Below.heap_setCell W ⟨b, i, none⟩ v D this).trans hD
theorem Marks.more {B U U' : Nat} {W : World} (hU : U ≤ U') : ∀ {ds : List Deferred}, Marks B U ds W → Marks B U' ds W := by
  intro ds
  induction ds with
  | nil => intro _; trivial
  | cons d ds ih =>
    rintro ⟨⟨D, h1, h2, h3, h4, h5⟩, h6⟩
    exact ⟨⟨D, h1, h2, by omega, h4, h5⟩, ih h6⟩
theorem Marks.mem {B U : Nat} {W : World} : ∀ {ds : List Deferred}, Marks B U ds W → ∀ d ∈ ds, ∃ D, d = { target := .collected D, args := #[] } ∧ D < U := by
  intro ds
  induction ds with
  | nil => intro _ d hd; cases hd
  | cons e ds ih =>
    rintro ⟨⟨D, h1, h2, h3, h4, h5⟩, h6⟩ d hd
    rcases List.mem_cons.1 hd with rfl | hd
    · exact ⟨D, h1, h3⟩
    · exact ih h6 d hd
theorem Marks.push {B U D : Nat} {W : World} {ds : List Deferred} (h : Marks B U ds W) (hD : W.heap[D]? = some (.deferred (some []))) (hU : U ≤ D) (hB : B ≤ D) : Marks B (D + 1) ({ target := .collected D, args := #[] } :: ds) W := by
  refine ⟨⟨D, rfl, hB, by omega, hD, fun d' hd' e => ?_⟩, h.more (by omega)⟩
  obtain ⟨D', h1, h2⟩ := h.mem d' hd'
  rw [h1] at e
  injection e with e1 _
  injection e1 with e1
  omega
/-- what the marks' run turns: nothing that was there ahead of B, and no cells -/
structure Turned (B : Nat) (w w' : World) : Prop where
  low : Below B w w'
  cells : ∀ (k : Nat) (o : Obj), w.heap[k]? = some o → o.isCells = true → w'.heap[k]? = some o
  size : w'.heap.size = w.heap.size
theorem Turned.refl (B : Nat) (w : World) : Turned B w w := ⟨Below.refl _ _, fun _ _ h _ => h, rfl⟩
theorem Turned.trans {B : Nat} {w w' w'' : World} (h : Turned B w w') (k : Turned B w' w'') : Turned B w w'' := ⟨h.low.trans k.low, fun i o hi ho => k.cells i o (h.cells i o hi ho) ho, k.size.trans h.size⟩
theorem Turned.mark {B D : Nat} {w : World} (hD : w.heap[D]? = some (.deferred (some []))) (hB : B ≤ D) : Turned B w (w.putObj D (.deferred none)) := by
  have hlt := (Array.getElem?_eq_some_iff.1 hD).1
  refine ⟨(Below.refl B w).grown (grownBy_putObj' w D _) (by omega) (fun k e => by cases e; omega), fun k o hk ho => ?_, by simp [World.putObj]⟩
  have : k ≠ D := by rintro rfl; rw [hD] at hk; cases hk; simp [Obj.isCells] at ho
  exact (World.putObj_heap_other (by omega)).trans hk
theorem leaves_marks {F : Fence} {n : Nat} {P : Program} {fn : Func} {tmps : Array Value} {R : Ending → World → Prop} {B U : Nat} : ∀ (ds : List Deferred) (w : World), Marks B U ds w →
    (∀ w', Turned B w w' → ∃ v, (results fn tmps).run P w' = .ok v w' ∧ R (.returned v) w') → LeavesInM F n P fn tmps R ds .returning w := by
  intro ds
  induction ds with
  | nil =>
    intro w _ h
    obtain ⟨v, h1, h2⟩ := h w (Turned.refl _ _)
    exact ⟨v, h1, h2⟩
  | cons d ds ih =>
    rintro w ⟨⟨D, rfl, hB, hU, hD, hne⟩, hm⟩ h
    refine ⟨by simp, .inl ⟨D, _, rfl, run_takeDeferred hD, ?_⟩⟩
    refine ih _ ?_ fun w' hw' => h w' ((Turned.mark hD hB).trans hw')
    have key : ∀ {es : List Deferred}, (∀ d', d' ∈ es → d' ≠ { target := .collected D, args := #[] }) → Marks B U es w → Marks B U es (w.putObj D (.deferred none)) := by
      intro es
      induction es with
      | nil => intro _ _; trivial
      | cons e es ih2 =>
        rintro hn ⟨⟨D2, rfl, k1, k2, k3, k4⟩, k5⟩
        have hDD : D2 ≠ D := by rintro rfl; exact hn _ List.mem_cons_self rfl
        exact ⟨⟨D2, rfl, k1, k2, (World.putObj_heap_other (by omega)).trans k3, k4⟩, ih2 (fun d' hd' => hn d' (List.mem_cons_of_mem _ hd')) k5⟩
    exact key hne hm
theorem marks_retN {F : Fence} {n : Nat} {P : Program} {fn : Func} {R : Ending → World → Prop} {a : Act} {w : World} {B U : Nat} (hm : Marks B U a.defers w) (h : ∀ w', Turned B w w' → ∃ v, (results fn a.tmps).run P w' = .ok v w' ∧ R (.returned v) w') : bodyPostM F n P fn R .ret a w ∧ bodyPostM F n P fn R .normal a w :=
  ⟨leaves_marks _ _ hm h, leaves_marks _ _ hm h⟩

end Go.Proofs.Ytenilbofncfbdaa

namespace Go.Proofs
open Go.Shelf
def Try.lays212_ren : Go.Shelf.Ren := ⟨fun | 212 => 49 | 263 => 51 | 264 => 52 | n => n, fun | 46 => 56 | 51 => 75 | 146 => 76 | 53 => 42 | 148 => 78 | n => n, fun | n => n⟩
theorem Try.lays212 : Go.Proofs.Lays.n212 Try.prog Try.lays212_ren := {
  mixed := by kernel_rfl
  f212 := Try.func49.trans (congrArg some (by kernel_rfl))
  f263 := Try.func51.trans (congrArg some (by kernel_rfl))
  f264 := Try.func52.trans (congrArg some (by kernel_rfl))
  t46 := Try.underlying56
  a46 := Try.isAgg56
  z46 := Try.sizeOf56
  v46 := Try.zeroValue56
  t51 := Try.underlying75
  a51 := Try.isAgg75
  z51 := Try.sizeOf75
  v51 := Try.zeroValue75
  t53 := Try.underlying42
  a53 := Try.isAgg42
  z53 := Try.sizeOf42
  v53 := Try.zeroValue42
  t146 := Try.underlying76
  a146 := Try.isAgg76
  z146 := Try.sizeOf76
  v146 := Try.zeroValue76
  t148 := Try.underlying78
  a148 := Try.isAgg78
  z148 := Try.sizeOf78
  v148 := Try.zeroValue78 }
open Go.RowKit Go.Lib in
theorem Try.bits_Mul (x y : Nat) (hx : x < 18446744073709551616) (hy : y < 18446744073709551616) (w : World) :
    Calls Try.prog 49 #[.int .u64 x, .int .u64 y] w fun e w' => e = .returned (.tuple #[.int .u64 ((x * y / 18446744073709551616 : Nat) : Int), .int .u64 ((x * y % 18446744073709551616 : Nat) : Int)]) ∧ w' = w := Any.bits_Mul Try.lays212 x y hx hy w
end Go.Proofs

namespace Go.Proofs.Ytenilbofncfbdaa
open Go.RowKit
theorem nhB {x : Value} {c b : Bool} (d : x = .bool c) (h : c = !b) (hc : x = .bool b) : False := by
  subst h
  rw [d] at hc
  cases b <;> cases hc
theorem nhU {x : Value} {b : Bool} (d : x = undef) (hc : x = .bool b) : False := by
  rw [d] at hc
  simp [undef] at hc
theorem fdn {α : Type} {x y z : α} (h : y = z ∧ x = y) : x = z := h.2.trans h.1

theorem bel_set {B b i : Nat} {v : Value} {w w' : World} (hb : B ≤ b) (h : Below B w w') : Below B w (w'.setCell ⟨b, i, none⟩ v) := h.setCell (p := ⟨b, i, none⟩) hb v
theorem bel_alloc {B : Nat} {o : Obj} {w w' : World} (h : Below B w w') (hb : B ≤ w'.heap.size) : Below B w (w'.alloc o) := h.alloc hb o
theorem new_block (w : World) (o : Obj) : Below w.heap.size w (w.alloc o) ∧ (w.alloc o).heap[w.heap.size]? = some o := ⟨bel_alloc (Below.refl _ _) (Nat.le_refl _), heap_alloc_new w o⟩
/-- a block that is there stays -/
theorem stays {W W' : World} {k : Nat} {o : Obj} (h : W.heap[k]? = some o) (hb : Below W.heap.size W W') : W'.heap[k]? = some o := (hb.block _ (Array.getElem?_eq_some_iff.1 h).1).trans h

/-- links with whatever numbers -/
abbrev Ipr := List (Int × Int)
/-- a slice that reads as links, all of it below block B -/
def Lks (w : World) (B : Nat) (v : Value) (xs : Ipr) : Prop :=
  ∃ ao cap, v = .slice ao xs.length cap ∧ xs.length ≤ cap ∧ xs.length ≤ maxLen ∧ (ao = none → cap = 0) ∧ (xs ≠ [] → ∃ b off, ao = some ⟨b, off, none⟩ ∧ b < B ∧ ∀ i, i < xs.length → w.cell? ⟨b, off + i * 2, none⟩ = some (.int .i64 (xs.getD i (0, 0)).1) ∧ w.cell? ⟨b, off + i * 2 + 1, none⟩ = some (.int .i64 (xs.getD i (0, 0)).2))
theorem Lks.below {w w' : World} {B B' : Nat} {v : Value} {xs : Ipr} (h : Lks w B v xs) (hb : Below B w w') (hB : B ≤ B') : Lks w' B' v xs := by
  obtain ⟨ao, cap, h1, h2, h3, h4, h5⟩ := h
  refine ⟨ao, cap, h1, h2, h3, h4, fun hne => ?_⟩
  obtain ⟨b, off, h6, h7, h8⟩ := h5 hne
  exact ⟨b, off, h6, by omega, fun i hi => ⟨(hb.cell (p := ⟨b, off + i * 2, none⟩) h7).trans (h8 i hi).1, (hb.cell (p := ⟨b, off + i * 2 + 1, none⟩) h7).trans (h8 i hi).2⟩⟩
theorem Lks.kept {w w' : World} {v : Value} {xs : Ipr} (h : Lks w w.heap.size v xs) (hb : Below w.heap.size w w') : Lks w' w'.heap.size v xs := h.below hb hb.size
theorem Lks.nil (w : World) (B : Nat) : Lks w B (.slice none 0 0) [] := ⟨none, 0, rfl, by simp, by simp, fun _ => rfl, fun h => absurd rfl h⟩
theorem Lks.slice {w : World} {B : Nat} {v : Value} {xs : Ipr} (h : Lks w B v xs) : ∃ ao cap, v = .slice ao xs.length cap ∧ xs.length ≤ cap ∧ xs.length ≤ 9223372036854775807 := by
  obtain ⟨ao, cap, h1, h2, h3, -⟩ := h
  exact ⟨ao, cap, h1, h2, by unfold maxLen at h3; omega⟩
theorem Lks.at {w : World} {B n cap : Nat} {ao : Option Addr} {xs : Ipr} (h : Lks w B (.slice ao n cap) xs) (k : Nat) (hk : k < xs.length) : ∃ b off, ao = some ⟨b, off, none⟩ ∧ b < B ∧ w.cell? ⟨b, off + k * 2, none⟩ = some (.int .i64 (xs.getD k (0, 0)).1) ∧ w.cell? ⟨b, off + k * 2 + 1, none⟩ = some (.int .i64 (xs.getD k (0, 0)).2) := by
  obtain ⟨ao', cap', h1, -, -, -, h4⟩ := h
  cases h1
  obtain ⟨b, off, h5, h6, h7⟩ := h4 (by intro e; subst e; simp at hk)
  exact ⟨b, off, h5, h6, h7 k hk⟩
/-- pairs of nodes as links -/
def prI (L : Prs) : Ipr := L.map fun p => ((p.1 : Int), (p.2 : Int))
theorem prI_len (L : Prs) : (prI L).length = L.length := by simp [prI]
theorem prI_get (L : Prs) (k : Nat) : (prI L).getD k (0, 0) = ((endA L k : Int), (endB L k : Int)) := by
  unfold prI endA endB
  by_cases h : k < L.length <;> simp [List.getD, h]
/-- a slice that reads as pairs of nodes -/
abbrev Lis (w : World) (B : Nat) (v : Value) (L : Prs) : Prop := Lks w B v (prI L)
theorem Lis.at {w : World} {B n cap : Nat} {ao : Option Addr} {L : Prs} (h : Lis w B (.slice ao n cap) L) (k : Nat) (hk : k < L.length) : ∃ b off, ao = some ⟨b, off, none⟩ ∧ b < B ∧ w.cell? ⟨b, off + k * 2, none⟩ = some (.int .i64 (endA L k : Int)) ∧ w.cell? ⟨b, off + k * 2 + 1, none⟩ = some (.int .i64 (endB L k : Int)) := by
  have := Lks.at h k (by rw [prI_len]; exact hk)
  rw [prI_get] at this
  exact this
theorem Lis.slice {w : World} {B : Nat} {v : Value} {L : Prs} (h : Lis w B v L) : ∃ ao cap, v = .slice ao L.length cap ∧ L.length ≤ cap ∧ L.length ≤ 9223372036854775807 := by
  have := Lks.slice h
  rw [prI_len] at this
  exact this

/-- a slice that reads as values of one cell each -/
def Cel (w : World) (B : Nat) (v : Value) (xs : List Value) : Prop :=
  ∃ ao cap, v = .slice ao xs.length cap ∧ xs.length ≤ cap ∧ xs.length ≤ maxLen ∧ (ao = none → cap = 0) ∧ (xs ≠ [] → ∃ b off, ao = some ⟨b, off, none⟩ ∧ b < B ∧ ∀ i, i < xs.length → w.cell? ⟨b, off + i, none⟩ = some (xs.getD i undef))
theorem Cel.below {w w' : World} {B B' : Nat} {v : Value} {xs : List Value} (h : Cel w B v xs) (hb : Below B w w') (hB : B ≤ B') : Cel w' B' v xs := by
  obtain ⟨ao, cap, h1, h2, h3, h4, h5⟩ := h
  refine ⟨ao, cap, h1, h2, h3, h4, fun hne => ?_⟩
  obtain ⟨b, off, h6, h7, h8⟩ := h5 hne
  exact ⟨b, off, h6, by omega, fun i hi => (hb.cell (p := ⟨b, off + i, none⟩) h7).trans (h8 i hi)⟩
theorem Cel.kept {w w' : World} {v : Value} {xs : List Value} (h : Cel w w.heap.size v xs) (hb : Below w.heap.size w w') : Cel w' w'.heap.size v xs := h.below hb hb.size
theorem Cel.nil (w : World) (B : Nat) : Cel w B (.slice none 0 0) [] := ⟨none, 0, rfl, by simp, by simp, fun _ => rfl, fun h => absurd rfl h⟩
theorem Cel.slice {w : World} {B : Nat} {v : Value} {xs : List Value} (h : Cel w B v xs) : ∃ ao cap, v = .slice ao xs.length cap ∧ xs.length ≤ cap ∧ xs.length ≤ 9223372036854775807 := by
  obtain ⟨ao, cap, h1, h2, h3, -⟩ := h
  exact ⟨ao, cap, h1, h2, by unfold maxLen at h3; omega⟩
theorem Cel.at {w : World} {B n cap : Nat} {ao : Option Addr} {xs : List Value} (h : Cel w B (.slice ao n cap) xs) (k : Nat) (hk : k < xs.length) : ∃ b off, ao = some ⟨b, off, none⟩ ∧ b < B ∧ w.cell? ⟨b, off + k, none⟩ = some (xs.getD k undef) := by
  obtain ⟨ao', cap', h1, -, -, -, h4⟩ := h
  cases h1
  obtain ⟨b, off, h5, h6, h7⟩ := h4 (by intro e; subst e; simp at hk)
  exact ⟨b, off, h5, h6, h7 k hk⟩
abbrev intV (x : Int) : Value := .int .i64 x
abbrev Its (w : World) (B : Nat) (v : Value) (l : List Int) : Prop := Cel w B v (l.map intV)
abbrev Bls (w : World) (B : Nat) (v : Value) (l : List Bool) : Prop := Cel w B v (l.map Value.bool)
theorem getI {l : List Int} {k : Nat} (h : k < l.length) : (l.map intV).getD k undef = intV (l.getD k 0) := by simp [List.getD, h]
theorem getB {l : List Bool} {k : Nat} (h : k < l.length) : (l.map Value.bool).getD k undef = .bool (l.getD k false) := by simp [List.getD, h]
theorem Its.slice {w : World} {B : Nat} {v : Value} {l : List Int} (h : Its w B v l) : ∃ ao cap, v = .slice ao l.length cap ∧ l.length ≤ cap ∧ l.length ≤ 9223372036854775807 := by
  have := Cel.slice h
  rw [List.length_map] at this
  exact this
theorem Bls.slice {w : World} {B : Nat} {v : Value} {l : List Bool} (h : Bls w B v l) : ∃ ao cap, v = .slice ao l.length cap ∧ l.length ≤ cap ∧ l.length ≤ 9223372036854775807 := by
  have := Cel.slice h
  rw [List.length_map] at this
  exact this
theorem Its.at {w : World} {B n cap : Nat} {ao : Option Addr} {l : List Int} (h : Its w B (.slice ao n cap) l) (k : Nat) (hk : k < l.length) : ∃ b off, ao = some ⟨b, off, none⟩ ∧ b < B ∧ w.cell? ⟨b, off + k, none⟩ = some (.int .i64 (l.getD k 0)) := by
  have := Cel.at h k (by simpa using hk)
  rw [getI hk] at this
  exact this
theorem Bls.at {w : World} {B n cap : Nat} {ao : Option Addr} {l : List Bool} (h : Bls w B (.slice ao n cap) l) (k : Nat) (hk : k < l.length) : ∃ b off, ao = some ⟨b, off, none⟩ ∧ b < B ∧ w.cell? ⟨b, off + k, none⟩ = some (.bool (l.getD k false)) := by
  have := Cel.at h k (by simpa using hk)
  rw [getB hk] at this
  exact this

/-- block b is a row of one-cell values -/
def RowV (w : World) (b : Nat) (t : TypeId) (xs : List Value) : Prop := w.heap[b]? = some (.cells xs.toArray t (0, 0))
theorem RowV.lt {w : World} {b : Nat} {t : TypeId} {xs : List Value} (h : RowV w b t xs) : b < w.heap.size := (Array.getElem?_eq_some_iff.1 h).1
theorem RowV.keep {w w' : World} {b : Nat} {t : TypeId} {xs : List Value} (h : RowV w b t xs) (hb : Below w.heap.size w w') : RowV w' b t xs := stays h hb
theorem RowV.of {w w' : World} {b : Nat} {t : TypeId} {xs : List Value} (h : RowV w b t xs) (e : w'.heap[b]? = w.heap[b]?) : RowV w' b t xs := e.trans h
theorem RowV.set {w : World} {b : Nat} {t : TypeId} {xs : List Value} (h : RowV w b t xs) (i : Nat) (v : Value) : RowV (w.setCell ⟨b, i, none⟩ v) b t (xs.set i v) := by
  unfold RowV at h ⊢
  simp [World.setCell, Array.getElem?_modify, h]
theorem RowV.other {w : World} {b c i : Nat} {t : TypeId} {xs : List Value} (h : RowV w b t xs) (hc : b ≠ c) (v : Value) : RowV (w.setCell ⟨c, i, none⟩ v) b t xs := (Below.heap_setCell _ _ _ _ hc).trans h
theorem RowV.cell {w : World} {b : Nat} {t : TypeId} {xs : List Value} (h : RowV w b t xs) (k : Nat) (hk : k < xs.length) : w.cell? ⟨b, k, none⟩ = some (xs.getD k undef) := by
  unfold RowV at h
  simp [World.cell?, h, List.getD, hk]
theorem RowV.frozen {w : World} {b : Nat} {t : TypeId} {xs : List Value} (h : RowV w b t xs) (k : Nat) : w.frozen? ⟨b, k, none⟩ = false := by
  unfold RowV at h
  simp [World.frozen?, h]
theorem RowV.cel {w : World} {b : Nat} {t : TypeId} {xs : List Value} (h : RowV w b t xs) (hl : xs.length ≤ maxLen) : Cel w w.heap.size (.slice (some ⟨b, 0, none⟩) xs.length xs.length) xs :=
  ⟨some ⟨b, 0, none⟩, xs.length, rfl, Nat.le_refl _, hl, (fun h => by cases h), fun _ => ⟨b, 0, rfl, h.lt, fun i hi => by rw [Nat.zero_add]; exact h.cell i hi⟩⟩
abbrev RowI (w : World) (b : Nat) (l : List Int) : Prop := RowV w b 3 (l.map intV)
abbrev RowB (w : World) (b : Nat) (l : List Bool) : Prop := RowV w b 4 (l.map Value.bool)
theorem RowI.cell {w : World} {b : Nat} {l : List Int} (h : RowI w b l) (k : Nat) (hk : k < l.length) : w.cell? ⟨b, k, none⟩ = some (.int .i64 (l.getD k 0)) := by
  have := RowV.cell h k (by simpa using hk)
  rw [getI hk] at this
  exact this
theorem RowB.cell {w : World} {b : Nat} {l : List Bool} (h : RowB w b l) (k : Nat) (hk : k < l.length) : w.cell? ⟨b, k, none⟩ = some (.bool (l.getD k false)) := by
  have := RowV.cell h k (by simpa using hk)
  rw [getB hk] at this
  exact this
theorem RowI.set {w : World} {b : Nat} {l : List Int} (h : RowI w b l) (i : Nat) (x : Int) : RowI (w.setCell ⟨b, i, none⟩ (.int .i64 x)) b (l.set i x) := by
  have := RowV.set h i (intV x)
  rw [← List.map_set] at this
  exact this
theorem RowB.set {w : World} {b : Nat} {l : List Bool} (h : RowB w b l) (i : Nat) (x : Bool) : RowB (w.setCell ⟨b, i, none⟩ (.bool x)) b (l.set i x) := by
  have := RowV.set h i (.bool x)
  rw [← List.map_set] at this
  exact this
theorem RowI.its {w : World} {b : Nat} {l : List Int} (h : RowI w b l) (hl : l.length ≤ 1000000) : Its w w.heap.size (.slice (some ⟨b, 0, none⟩) l.length l.length) l := by
  have := RowV.cel h (by rw [List.length_map]; unfold maxLen; omega)
  rw [List.length_map] at this
  exact this
theorem RowB.bls {w : World} {b : Nat} {l : List Bool} (h : RowB w b l) (hl : l.length ≤ 1000000) : Bls w w.heap.size (.slice (some ⟨b, 0, none⟩) l.length l.length) l := by
  have := RowV.cel h (by rw [List.length_map]; unfold maxLen; omega)
  rw [List.length_map] at this
  exact this
theorem info_int : (Try.prog.info? 3).map (fun i => (i.zero, i.size, i.bytes)) = some (some (.int .i64 0), 1, 8) := by kernel_rfl
theorem info_bool : (Try.prog.info? 4).map (fun i => (i.zero, i.size, i.bytes)) = some (some (.bool false), 1, 1) := by kernel_rfl
theorem made_list (z : Value) (n : Nat) : (madeCells #[z] n).toList = List.replicate n z := toList_madeCells_one z n
/-- make([]int, n) -/
theorem run_make_int (n : Nat) (hn : n ≤ 1000000) (w : World) : (Instr.makeSlice 35 (.int .i64 (n : Int)) (.int .i64 (n : Int))).run Try.prog w = .ok (.slice (some ⟨w.heap.size, 0, none⟩) n n) (w.alloc (.cells (madeCells #[.int .i64 0] n) 3)) :=
  run_make_row' (P := Try.prog) 35 3 (.int .i64 0) 8 Try.underlying35 info_int rfl .i64 .i64 n (by omega) (by omega) w
/-- make([]bool, n) -/
theorem run_make_bool (n : Nat) (hn : n ≤ 1000000) (w : World) : (Instr.makeSlice 34 (.int .i64 (n : Int)) (.int .i64 (n : Int))).run Try.prog w = .ok (.slice (some ⟨w.heap.size, 0, none⟩) n n) (w.alloc (.cells (madeCells #[.bool false] n) 4)) :=
  run_make_row' (P := Try.prog) 34 4 (.bool false) 1 Try.underlying34 info_bool rfl .i64 .i64 n (by omega) (by omega) w
theorem made_int (w : World) (n : Nat) : RowI (w.alloc (.cells (madeCells #[.int .i64 0] n) 3)) w.heap.size (List.replicate n 0) := by
  unfold RowI RowV
  rw [heap_alloc_new]
  congr 2
  rw [List.map_replicate]
  apply Array.ext'
  simp [made_list]
theorem made_bool (w : World) (n : Nat) : RowB (w.alloc (.cells (madeCells #[.bool false] n) 4)) w.heap.size (List.replicate n false) := by
  unfold RowB RowV
  rw [heap_alloc_new]
  congr 2
  rw [List.map_replicate]
  apply Array.ext'
  simp [made_list]

theorem wpList_make_bool {w : World} {ops : Array Oper} {rest : List Oper} {o : Oper} {a : Act} {Q : Exit → Act → World → Prop} (hgd : o.guard = none) (l c : Operand) (ho : o.op = .makeSlice 34 l c) (n : Nat) (hl : a.eval l = .int .i64 (n : Int)) (hc : a.eval c = .int .i64 (n : Int)) (hn : n ≤ 1000000)
    (h : ∀ b W, RowB W b (List.replicate n false) → w.heap.size ≤ b → Below w.heap.size w W → wpList Try.prog ops Q rest (a.put o.dst (.slice (some ⟨b, 0, none⟩) n n)) W) : wpList Try.prog ops Q (o :: rest) a w := by
  obtain ⟨i0, hi, hz0, hz1, hz2⟩ := info_parts info_bool
  refine wpList_make_row w hgd l c _ ho 4 i0 (.bool false) Try.underlying34 hi hz0 hz1 rfl .i64 .i64 n hl hc (by rw [hz2]; omega) (by omega) ?_
  exact h _ _ (made_bool w n) (Nat.le_refl _) (new_block w _).1
theorem wpList_make_int {w : World} {ops : Array Oper} {rest : List Oper} {o : Oper} {a : Act} {Q : Exit → Act → World → Prop} (hgd : o.guard = none) (l c : Operand) (ho : o.op = .makeSlice 35 l c) (n : Nat) (hl : a.eval l = .int .i64 (n : Int)) (hc : a.eval c = .int .i64 (n : Int)) (hn : n ≤ 1000000)
    (h : ∀ b W, RowI W b (List.replicate n 0) → w.heap.size ≤ b → Below w.heap.size w W → wpList Try.prog ops Q rest (a.put o.dst (.slice (some ⟨b, 0, none⟩) n n)) W) : wpList Try.prog ops Q (o :: rest) a w := by
  obtain ⟨i0, hi, hz0, hz1, hz2⟩ := info_parts info_int
  refine wpList_make_row w hgd l c _ ho 3 i0 (.int .i64 0) Try.underlying35 hi hz0 hz1 rfl .i64 .i64 n hl hc (by rw [hz2]; omega) (by omega) ?_
  exact h _ _ (made_int w n) (Nat.le_refl _) (new_block w _).1

end Go.Proofs.Ytenilbofncfbdaa

namespace Go.Proofs.Ytenilbofncfbdaa

/-- one pair looked at -/
def rchS (L : Prs) (skip : List Bool) (wo : Int) (i : List Bool) (k : Nat) : List Bool :=
  if skip.getD k false = true ∨ (endA L k : Int) = wo ∨ (endB L k : Int) = wo then i
  else if (i.getD (endA L k) false || i.getD (endB L k) false) = true then (i.set (endA L k) true).set (endB L k) true else i
/-- the first m pairs -/
def rchR (L : Prs) (skip : List Bool) (wo : Int) (i : List Bool) : Nat → List Bool
  | 0 => i
  | m + 1 => rchS L skip wo (rchR L skip wo i m) m
/-- r rounds -/
def rchN (L : Prs) (skip : List Bool) (wo : Int) (i : List Bool) : Nat → List Bool
  | 0 => i
  | r + 1 => rchR L skip wo (rchN L skip wo i r) L.length
def reachF (L : Prs) (n a : Nat) (skip : List Bool) (wo : Int) : List Bool :=
  if (a : Int) = wo then List.replicate n false else rchN L skip wo ((List.replicate n false).set a true) n
theorem rchS_len {L : Prs} {skip : List Bool} {wo : Int} {i : List Bool} {k : Nat} : (rchS L skip wo i k).length = i.length := by
  unfold rchS; split
  · rfl
  · split <;> simp
theorem rchR_len {L : Prs} {skip : List Bool} {wo : Int} {i : List Bool} : ∀ m, (rchR L skip wo i m).length = i.length := by
  intro m
  induction m with
  | zero => rfl
  | succ m ih => unfold rchR; rw [rchS_len, ih]
theorem rchN_len {L : Prs} {skip : List Bool} {wo : Int} {i : List Bool} : ∀ r, (rchN L skip wo i r).length = i.length := by
  intro r
  induction r with
  | zero => rfl
  | succ r ih => unfold rchN; rw [rchR_len, ih]
theorem reachF_len {L : Prs} {n a : Nat} {skip : List Bool} {wo : Int} : (reachF L n a skip wo).length = n := by
  unfold reachF; split
  · simp
  · rw [rchN_len]; simp
/-- may this pair be gone over? -/
def okE (skip : List Bool) : Nat → Prop := fun k => skip.getD k false = false
def okN (wo : Int) : Nat → Prop := fun v => (v : Int) ≠ wo
theorem getD_set_mono {i : List Bool} {u v : Nat} (h : i.getD v false = true) : (i.set u true).getD v false = true := by
  by_cases e : u = v
  · subst e
    rw [List.getD_eq_getElem?_getD] at h ⊢
    rw [List.getElem?_set]
    by_cases hl : u < i.length
    · simp [hl]
    · simp [hl] at h
  · rw [getD_set_other _ _ _ _ _ e]; exact h
theorem rchS_mono {L : Prs} {skip : List Bool} {wo : Int} {i : List Bool} {k v : Nat} (h : i.getD v false = true) : (rchS L skip wo i k).getD v false = true := by
  unfold rchS
  split
  · exact h
  · split
    · exact getD_set_mono (getD_set_mono h)
    · exact h
theorem rchR_mono {L : Prs} {skip : List Bool} {wo : Int} {i : List Bool} {v : Nat} (h : i.getD v false = true) : ∀ m, (rchR L skip wo i m).getD v false = true := by
  intro m
  induction m with
  | zero => exact h
  | succ m ih => exact rchS_mono ih
theorem getD_set_inv {i : List Bool} {u v : Nat} (h : (i.set u true).getD v false = true) : v = u ∨ i.getD v false = true := by
  by_cases e : u = v
  · exact .inl e.symm
  · rw [getD_set_other _ _ _ _ _ e] at h; exact .inr h
/-- what is marked can be reached -/
theorem rchS_sound {L : Prs} {skip : List Bool} {wo : Int} {i : List Bool} {k a : Nat} (hk : k < L.length) (h : ∀ v, i.getD v false = true → Way L (okE skip) (okN wo) a v) : ∀ v, (rchS L skip wo i k).getD v false = true → Way L (okE skip) (okN wo) a v := by
  intro v hv
  unfold rchS at hv
  split at hv
  · exact h v hv
  · rename_i hc
    have h1 : okE skip k := by unfold okE; cases hh : skip.getD k false with | false => rfl | true => exact absurd (.inl hh) hc
    have h2 : okN wo (endA L k) := fun e => hc (.inr (.inl e))
    have h3 : okN wo (endB L k) := fun e => hc (.inr (.inr e))
    have he : Edge L k (endA L k) (endB L k) := ⟨hk, .inl ⟨rfl, rfl⟩⟩
    split at hv
    · rename_i hor
      have both : Way L (okE skip) (okN wo) a (endA L k) ∧ Way L (okE skip) (okN wo) a (endB L k) := by
        rcases Bool.or_eq_true_iff.1 hor with hA | hB
        · exact ⟨h _ hA, .step (h _ hA) he h1 h3⟩
        · exact ⟨.step (h _ hB) he.symm h1 h2, h _ hB⟩
      rcases getD_set_inv hv with rfl | hv
      · exact both.2
      · rcases getD_set_inv hv with rfl | hv
        · exact both.1
        · exact h v hv
    · exact h v hv
theorem rchR_sound {L : Prs} {skip : List Bool} {wo : Int} {i : List Bool} {a : Nat} (h : ∀ v, i.getD v false = true → Way L (okE skip) (okN wo) a v) : ∀ m, m ≤ L.length → ∀ v, (rchR L skip wo i m).getD v false = true → Way L (okE skip) (okN wo) a v := by
  intro m
  induction m with
  | zero => intro _; exact h
  | succ m ih => intro hm; exact rchS_sound (by omega) (ih (by omega))
theorem rchN_sound {L : Prs} {skip : List Bool} {wo : Int} {i : List Bool} {a : Nat} (h : ∀ v, i.getD v false = true → Way L (okE skip) (okN wo) a v) : ∀ r v, (rchN L skip wo i r).getD v false = true → Way L (okE skip) (okN wo) a v := by
  intro r
  induction r with
  | zero => exact h
  | succ r ih => exact rchR_sound ih _ (Nat.le_refl _)
/-- how many are marked -/
def cntB (i : List Bool) : Nat := i.count true
theorem cnt_set {i : List Bool} {u : Nat} (hu : u < i.length) (h : i.getD u false = false) : cntB (i.set u true) = cntB i + 1 := by
  unfold cntB
  have e : i[u] = false := by rw [List.getD_eq_getElem?_getD, List.getElem?_eq_getElem hu] at h; exact h
  rw [List.count_set hu, e]
  simp
theorem set_same {i : List Bool} {u : Nat} (h : i.getD u false = true) : i.set u true = i := by
  apply List.ext_getElem?
  intro k
  rw [List.getElem?_set]
  by_cases e : u = k
  · subst e
    rw [if_pos rfl]
    by_cases hl : u < i.length
    · rw [if_pos hl]
      rw [List.getD_eq_getElem?_getD, List.getElem?_eq_getElem hl] at h
      rw [List.getElem?_eq_getElem hl]
      simp at h
      rw [h]
    · rw [if_neg hl, List.getElem?_eq_none (by omega)]
  · rw [if_neg e]
theorem cnt_set_le {i : List Bool} {u : Nat} : cntB i ≤ cntB (i.set u true) := by
  by_cases hu : u < i.length
  · cases h : i.getD u false with
    | true => rw [set_same h]; exact Nat.le_refl _
    | false => rw [cnt_set hu h]; omega
  · rw [List.set_eq_of_length_le (by omega)]; exact Nat.le_refl _
theorem cnt_set_eq {i : List Bool} {u : Nat} (h : cntB (i.set u true) = cntB i) : i.set u true = i := by
  by_cases hu : u < i.length
  · cases h2 : i.getD u false with
    | true => exact set_same h2
    | false => rw [cnt_set hu h2] at h; omega
  · exact List.set_eq_of_length_le (by omega)
theorem no_mark (n v : Nat) : ¬ (List.replicate n false).getD v false = true := by
  rw [List.getD_eq_getElem?_getD, List.getElem?_replicate]
  split <;> simp
theorem rchS_cnt {L : Prs} {skip : List Bool} {wo : Int} {i : List Bool} {k : Nat} : cntB i ≤ cntB (rchS L skip wo i k) ∧ (cntB (rchS L skip wo i k) = cntB i → rchS L skip wo i k = i) := by
  unfold rchS
  split
  · exact ⟨Nat.le_refl _, fun _ => rfl⟩
  · split
    · have h1 := cnt_set_le (i := i) (u := endA L k)
      have h2 := cnt_set_le (i := i.set (endA L k) true) (u := endB L k)
      refine ⟨by omega, fun h => ?_⟩
      rw [cnt_set_eq (by omega), cnt_set_eq (by omega)]
    · exact ⟨Nat.le_refl _, fun _ => rfl⟩
theorem rchR_cnt {L : Prs} {skip : List Bool} {wo : Int} {i : List Bool} : ∀ m, cntB i ≤ cntB (rchR L skip wo i m) ∧ (cntB (rchR L skip wo i m) = cntB i → ∀ k, k ≤ m → rchR L skip wo i k = i) := by
  intro m
  induction m with
  | zero => exact ⟨Nat.le_refl _, fun _ k hk => by
    obtain rfl : k = 0 := by omega
    rfl⟩
  | succ m ih =>
    have h1 := rchS_cnt (L := L) (skip := skip) (wo := wo) (i := rchR L skip wo i m) (k := m)
    have h2 : rchR L skip wo i (m + 1) = rchS L skip wo (rchR L skip wo i m) m := rfl
    refine ⟨by rw [h2]; omega, fun h k hk => ?_⟩
    rw [h2] at h
    have h3 := ih.2 (by omega)
    by_cases e : k ≤ m
    · exact h3 k e
    · obtain rfl : k = m + 1 := by omega
      rw [h2, h1.2 (by omega)]
      exact h3 m (Nat.le_refl _)
theorem cnt_le {i : List Bool} : cntB i ≤ i.length := List.count_le_length
/-- a round that adds nothing: no pair leads on -/
theorem rch_fix {L : Prs} {skip : List Bool} {wo : Int} {i : List Bool} (hl : ∀ k, k < L.length → endA L k < i.length ∧ endB L k < i.length) (h : rchR L skip wo i L.length = i) {k u v : Nat} (he : Edge L k u v) (hk : okE skip k) (hu : okN wo u) (hv : okN wo v) (hi : i.getD u false = true) : i.getD v false = true := by
  have h1 := (rchR_cnt (L := L) (skip := skip) (wo := wo) (i := i) L.length).2 (by rw [h])
  have h2 := h1 k (by have := he.1; omega)
  have h3 : rchS L skip wo i k = i := by
    have := h1 (k + 1) (by have := he.1; omega)
    rw [show rchR L skip wo i (k + 1) = rchS L skip wo (rchR L skip wo i k) k from rfl, h2] at this
    exact this
  obtain ⟨hA, hB⟩ := hl k he.1
  rw [← h3]
  unfold rchS
  rw [if_neg (by
    rintro (h | h | h)
    · unfold okE at hk; rw [hk] at h; cases h
    · rcases he.2 with ⟨e1, e2⟩ | ⟨e1, e2⟩
      · rw [e1] at h; exact hu h
      · rw [e1] at h; exact hv h
    · rcases he.2 with ⟨e1, e2⟩ | ⟨e1, e2⟩
      · rw [e2] at h; exact hv h
      · rw [e2] at h; exact hu h)]
  rcases he.2 with ⟨e1, e2⟩ | ⟨e1, e2⟩
  · rw [if_pos (by rw [e1, hi]; rfl), e1, e2]
    rw [e2] at hB
    exact getD_set_same _ _ _ _ (by simpa using hB)
  · rw [if_pos (by rw [e2, hi]; simp), e1, e2]
    rw [e1] at hA
    exact getD_set_mono (getD_set_same _ _ _ _ hA)
/-- THE DOCUMENT'S REACH IS A WAY -/
theorem reach_way {L : Prs} {n a : Nat} (hf : FitL n L) (ha : a < n) (skip : List Bool) (wo : Int) {v : Nat} : (reachF L n a skip wo).getD v false = true ↔ Way L (okE skip) (okN wo) a v := by
  unfold reachF
  by_cases haw : (a : Int) = wo
  · rw [if_pos haw]
    constructor
    · intro h; exact absurd h (no_mark n v)
    · intro h; exact absurd haw h.fst
  · rw [if_neg haw]
    have h0 : ∀ v, ((List.replicate n false).set a true).getD v false = true → Way L (okE skip) (okN wo) a v := by
      intro v hv
      rcases getD_set_inv hv with rfl | hv
      · exact .nil haw
      · exact absurd hv (no_mark n v)
    refine ⟨rchN_sound h0 n v, fun hw => ?_⟩
    have hgrow : ∀ r, (∃ q, q < r ∧ rchR L skip wo (rchN L skip wo ((List.replicate n false).set a true) q) L.length = rchN L skip wo ((List.replicate n false).set a true) q) ∨ r + 1 ≤ cntB (rchN L skip wo ((List.replicate n false).set a true) r) := by
      intro r
      induction r with
      | zero =>
        right
        show 1 ≤ cntB ((List.replicate n false).set a true)
        rw [cnt_set (by simpa using ha) (by simp [List.getD_eq_getElem?_getD, ha])]
        omega
      | succ r ih =>
        rcases ih with ⟨q, hq, h⟩ | h
        · exact .inl ⟨q, by omega, h⟩
        · have h1 := rchR_cnt (L := L) (skip := skip) (wo := wo) (i := rchN L skip wo ((List.replicate n false).set a true) r) L.length
          by_cases e : cntB (rchR L skip wo (rchN L skip wo ((List.replicate n false).set a true) r) L.length) = cntB (rchN L skip wo ((List.replicate n false).set a true) r)
          · exact .inl ⟨r, by omega, h1.2 e _ (Nat.le_refl _)⟩
          · right
            show _ ≤ cntB (rchR L skip wo (rchN L skip wo ((List.replicate n false).set a true) r) L.length)
            omega
    have hlen : ∀ r, (rchN L skip wo ((List.replicate n false).set a true) r).length = n := fun r => by rw [rchN_len]; simp
    have hfix : ∃ q, q < n ∧ rchR L skip wo (rchN L skip wo ((List.replicate n false).set a true) q) L.length = rchN L skip wo ((List.replicate n false).set a true) q := by
      rcases hgrow n with h | h
      · exact h
      · have := cnt_le (i := rchN L skip wo ((List.replicate n false).set a true) n)
        rw [hlen] at this
        omega
    obtain ⟨q, hq, hfx⟩ := hfix
    have hstay : ∀ d, rchN L skip wo ((List.replicate n false).set a true) (q + d) = rchN L skip wo ((List.replicate n false).set a true) q := by
      intro d
      induction d with
      | zero => rfl
      | succ d ih => show rchR L skip wo (rchN L skip wo _ (q + d)) L.length = _; rw [ih, hfx]
    have hend : rchN L skip wo ((List.replicate n false).set a true) n = rchN L skip wo ((List.replicate n false).set a true) q := by
      have := hstay (n - q)
      rwa [show q + (n - q) = n by omega] at this
    rw [hend]
    have hain : ∀ r, (rchN L skip wo ((List.replicate n false).set a true) r).getD a false = true := by
      intro r
      induction r with
      | zero => exact getD_set_same _ _ _ _ (by simpa using ha)
      | succ r ih => exact rchR_mono ih _
    induction hw with
    | nil _ => exact hain q
    | step h1 h2 h3 h4 ih => exact rch_fix (fun k hk => by rw [hlen]; have := hf.lt k hk; omega) hfx h2 h3 h1.lst h4 ih

end Go.Proofs.Ytenilbofncfbdaa

namespace Go.Proofs.Ytenilbofncfbdaa
open Go.RowKit

/-- is it a node? -/
def nodeB (n v : Int) : Bool := decide (0 ≤ v ∧ v < n)
theorem node_any (n v : Int) (w : World) : Calls Try.prog 32 #[.int .i64 n, .int .i64 v] w fun e w' => e = .returned (.bool (nodeB n v)) ∧ w' = w := by
  by_cases h1 : 0 ≤ v
  · by_cases h2 : v < n
    · have e : nodeB n v = true := by unfold nodeB; simp [h1, h2]
      rw [e]
      go_enter Try.func32, Try.ntmps32
      go_wp2
      go_ret
      exact ⟨rfl, rfl⟩
    · have e : nodeB n v = false := by unfold nodeB; simp [h2]
      rw [e]
      go_enter Try.func32, Try.ntmps32
      go_wp2
      go_ret
      exact ⟨rfl, rfl⟩
  · have e : nodeB n v = false := by unfold nodeB; simp [h1]
    rw [e]
    go_enter Try.func32, Try.ntmps32
    go_wp2
    go_ret
    exact ⟨rfl, rfl⟩
/-- all pairs but one -/
def butF (m : Nat) (i : Int) : List Bool := if 0 ≤ i then (List.replicate m false).set i.toNat true else List.replicate m false
theorem butF_len (m : Nat) (i : Int) : (butF m i).length = m := by unfold butF; split <;> simp
set_option maxHeartbeats 1000000 in
theorem but_any (v : Value) (L : Prs) (i : Int) (w : World) (hv : Lis w w.heap.size v L) (hl : L.length ≤ 1000) (hi : i < L.length) :
    Calls Try.prog 39 #[v, .int .i64 i] w fun e w' => (∃ b, e = .returned (.slice (some ⟨b, 0, none⟩) L.length L.length) ∧ RowB w' b (butF L.length i) ∧ w.heap.size ≤ b) ∧ Below w.heap.size w w' := by
  obtain ⟨ao, cap, rfl, -, -⟩ := hv.slice
  clear hv
  generalize L.length = n at *
  by_cases h0 : 0 ≤ i
  · obtain ⟨k, rfl⟩ : ∃ k : Nat, i = (k : Int) := ⟨i.toNat, by omega⟩
    have hk : k < n := by omega
    have hbu : butF n (k : Int) = (List.replicate n false).set k true := by unfold butF; simp
    rw [hbu]
    clear hbu
    go_enter Try.func39, Try.ntmps39
    go_wp2_with (refine wpList_make_bool rfl _ _ rfl n rfl rfl (by omega) ?_)
    intro b W hr hb hB
    have c0 := hr.cell k (by simpa using hk)
    have f0 := hr.frozen k
    have R0 := Lib.hid hr
    have B0 := Lib.hid hB
    clear hr hB
    go_wp2
    go_ret
    exact ⟨⟨b, rfl, R0.out.set k true, hb⟩, bel_set hb B0.out⟩
  · have hbu : butF n i = List.replicate n false := by unfold butF; rw [if_neg h0]
    rw [hbu]
    clear hbu
    go_enter Try.func39, Try.ntmps39
    go_wp2_with (refine wpList_make_bool rfl _ _ rfl n rfl rfl (by omega) ?_)
    intro b W hr hb hB
    have R0 := Lib.hid hr
    have B0 := Lib.hid hB
    clear hr hB
    go_wp2
    go_ret
    exact ⟨⟨b, rfl, R0.out, hb⟩, B0.out⟩

end Go.Proofs.Ytenilbofncfbdaa

namespace Go.Proofs.Ytenilbofncfbdaa
open Go.RowKit

set_option maxRecDepth 100000 in
set_option maxHeartbeats 4000000 in
theorem rreach_any (v sv : Value) (L : Prs) (n a : Nat) (skip : List Bool) (wo : Int) (w : World) (hv : Lis w w.heap.size v L) (hs : Bls w w.heap.size sv skip) (hf : FitL n L) (hn : n ≤ 16) (hl : L.length ≤ 1000) (hsk : skip.length = L.length) (ha : a < n) :
    Calls Try.prog 20 #[.int .i64 (n : Int), v, .int .i64 (a : Int), sv, .int .i64 wo] w fun e w' => (∃ b, e = .returned (.slice (some ⟨b, 0, none⟩) n n) ∧ RowB w' b (reachF L n a skip wo) ∧ w.heap.size ≤ b) ∧ Below w.heap.size w w' := by
  obtain ⟨ao, cap, rfl, -, -⟩ := hv.slice
  obtain ⟨as_, caps, rfl, -, -⟩ := hs.slice
  have HV := Lib.hid hv
  have HS := Lib.hid hs
  have HF := Lib.hid hf
  obtain ⟨R, hR⟩ : ∃ R, R = reachF L n a skip wo := ⟨_, rfl⟩
  rw [← hR]
  rw [hsk] at HS ⊢
  obtain ⟨m, hm⟩ : ∃ m, m = L.length := ⟨_, rfl⟩
  rw [← hm] at HV HS hl hsk ⊢
  have HM := Lib.hid hm
  have HSK := Lib.hid hsk
  clear hv hs hf hm hsk
  unfold reachF at hR
  by_cases haw : (a : Int) = wo
  · rw [if_pos haw] at hR
    subst hR
    clear HM HSK HV HS HF
    go_enter Try.func20, Try.ntmps20
    go_wp2_with (refine wpList_make_bool rfl _ _ rfl n rfl rfl (by omega) ?_)
    intro b W hr hb hB
    have R0 := Lib.hid hr
    have B0 := Lib.hid hB
    clear hr hB
    go_wp2
    go_ret
    exact ⟨⟨b, rfl, R0.out, hb⟩, B0.out⟩
  · rw [if_neg haw] at hR
    have HR := Lib.hid hR
    have hab : ((a : Int) == wo) = false := by simpa using haw
    clear hR haw
    go_enter Try.func20, Try.ntmps20
    go_wp2_with (refine wpList_make_bool rfl _ _ rfl n rfl rfl (by omega) ?_)
    intro b W hr hb hB
    have c0 := hr.cell a (by simpa using ha)
    have f0 := hr.frozen a
    have R0 := Lib.hid (hr.set a true)
    have B0 := Lib.hid (bel_set (i := a) (v := .bool true) hb hB)
    clear hr hB
    go_wp2_with (fail)
    clear hab
    go_loopw [12] (fun rv wr => ∃ r : Nat, r ≤ n ∧ rv = .int .i64 (r : Int) ∧ Hid (RowB wr b (rchN L skip wo ((List.replicate n false).set a true) r)) ∧ Hid (Below w.heap.size w wr)) (fun rv _ => n - (intOf rv).toNat)
    case atStart => exact ⟨0, Nat.zero_le _, rfl, R0.out, B0.out⟩
    case round =>
      obtain ⟨r, hr, rfl, HB, HL⟩ := hrel
      by_cases hlt : r < n
      · go_wp2_with (fail)
        obtain ⟨i0, hi0⟩ : ∃ i, i = rchN L skip wo ((List.replicate n false).set a true) r := ⟨_, rfl⟩
        have hi0l : i0.length = n := by rw [hi0, rchN_len]; simp
        have HI0 := Lib.hid hi0
        rw [← hi0] at HB
        clear hi0
        go_loopw [13] (fun kv wr => ∃ k : Nat, k ≤ m ∧ kv = .int .i64 (k : Int) ∧ Hid (RowB wr b (rchR L skip wo i0 k)) ∧ Hid (Below w.heap.size w wr)) (fun kv _ => m - (intOf kv).toNat)
        case atStart => exact ⟨0, Nat.zero_le _, rfl, HB.out, HL.out⟩
        case round =>
          clear HB HL
          obtain ⟨k, hk, rfl, HB, HL⟩ := hrel
          by_cases hkt : k < m
          · obtain ⟨bl, ol, hbl, hbl2, cA, cB⟩ := Lis.at (HV.out.below HL.out (Nat.le_refl _)) k (by rw [← HM.out]; exact hkt)
            subst hbl
            obtain ⟨bs, os, hbs, hbs2, cS⟩ := Bls.at (HS.out.below HL.out (Nat.le_refl _)) k (by rw [HSK.out]; exact hkt)
            subst hbs
            have hbs3 : bs < wr.heap.size := by have := HL.out.size; omega
            obtain ⟨hA, hB⟩ := HF.out.lt k (by rw [← HM.out]; exact hkt)
            obtain ⟨i, hi⟩ : ∃ i, i = rchR L skip wo i0 k := ⟨_, rfl⟩
            have hil : i.length = n := by rw [hi, rchR_len]; exact hi0l
            rw [← hi] at HB
            have HN : Hid (rchR L skip wo i0 (k + 1) = rchS L skip wo i k) := by show _ = _; rw [hi]; rfl
            clear hi
            have cRA := HB.out.cell (endA L k) (by omega)
            have cRB := HB.out.cell (endB L k) (by omega)
            have fR := HB.out.frozen
            have hbw := HB.out.lt
            unfold rchS at HN
            obtain ⟨x, hx⟩ : ∃ x, x = endA L k := ⟨_, rfl⟩
            obtain ⟨y, hy⟩ : ∃ y, y = endB L k := ⟨_, rfl⟩
            obtain ⟨s, hs⟩ : ∃ s, s = skip.getD k false := ⟨_, rfl⟩
            obtain ⟨p, hp⟩ : ∃ p, p = i.getD (endA L k) false := ⟨_, rfl⟩
            obtain ⟨q, hq⟩ : ∃ q, q = i.getD (endB L k) false := ⟨_, rfl⟩
            rw [← hx] at HN cA cRA hA
            rw [← hy] at HN cB cRB hA hB
            rw [← hs] at HN cS
            rw [← hx] at hp
            rw [← hy] at hq
            rw [← hp] at HN cRA
            rw [← hq] at HN cRB
            clear hx hy hs hp hq
            have HBR : Hid (∀ o, Below wr.heap.size wr (wr.alloc o)) := fun o => (new_block wr o).1
            cases s with
            | true =>
              have HE : Hid (rchR L skip wo i0 (k + 1) = i) := by show _ = _; rw [HN.out, if_pos (.inl rfl)]
              clear HN
              go_wp2_with (fail)
              go_roundw
              case rel => exact ⟨k + 1, by omega, by go_num, (by rw [HE.out]; exact HB.out.keep (HBR.out _)), HL.out.trans ((HBR.out _).mono HL.out.size)⟩
              case measure => simp [intOf] <;> omega
            | false =>
              by_cases hxw : (x : Int) = wo
              · have HE : Hid (rchR L skip wo i0 (k + 1) = i) := by show _ = _; rw [HN.out, if_pos (.inr (.inl hxw))]
                clear HN
                subst hxw
                go_wp2_with (fail)
                go_roundw
                case rel => exact ⟨k + 1, by omega, by go_num, (by rw [HE.out]; exact HB.out.keep (HBR.out _)), HL.out.trans ((HBR.out _).mono HL.out.size)⟩
                case measure => simp [intOf] <;> omega
              · by_cases hyw : (y : Int) = wo
                · have HE : Hid (rchR L skip wo i0 (k + 1) = i) := by show _ = _; rw [HN.out, if_pos (.inr (.inr hyw))]
                  clear HN
                  subst hyw
                  go_wp2_with (fail)
                  go_roundw
                  case rel => exact ⟨k + 1, by omega, by go_num, (by rw [HE.out]; exact HB.out.keep (HBR.out _)), HL.out.trans ((HBR.out _).mono HL.out.size)⟩
                  case measure => simp [intOf] <;> omega
                · have HN2 : Hid (rchR L skip wo i0 (k + 1) = if (p || q) = true then (i.set x true).set y true else i) := by
                    show _ = _
                    rw [HN.out, if_neg]
                    rintro (h | h | h)
                    · cases h
                    · exact hxw h
                    · exact hyw h
                  have hxb : ((x : Int) == wo) = false := by simpa using hxw
                  have hyb : ((y : Int) == wo) = false := by simpa using hyw
                  clear HN hxw hyw
                  cases p with
                  | true =>
                    have HE : Hid (rchR L skip wo i0 (k + 1) = (i.set x true).set y true) := by show _ = _; rw [HN2.out]; rfl
                    clear HN2
                    go_wp2_with (fail)
                    go_roundw
                    case rel => exact ⟨k + 1, by omega, by go_num, (by rw [HE.out]; exact RowV.keep (RowB.set (RowB.set HB.out x true) y true) (new_block _ _).1), bel_alloc (bel_set hb (bel_set hb HL.out)) (by simpa using HL.out.size)⟩
                    case measure => simp [intOf] <;> omega
                  | false =>
                    cases q with
                    | true =>
                      have HE : Hid (rchR L skip wo i0 (k + 1) = (i.set x true).set y true) := by show _ = _; rw [HN2.out]; rfl
                      clear HN2
                      go_wp2_with (fail)
                      go_roundw
                      case rel => exact ⟨k + 1, by omega, by go_num, (by rw [HE.out]; exact RowV.keep (RowB.set (RowB.set HB.out x true) y true) (new_block _ _).1), bel_alloc (bel_set hb (bel_set hb HL.out)) (by simpa using HL.out.size)⟩
                      case measure => simp [intOf] <;> omega
                    | false =>
                      have HE : Hid (rchR L skip wo i0 (k + 1) = i) := by show _ = _; rw [HN2.out]; rfl
                      clear HN2
                      go_wp2_with (fail)
                      go_roundw
                      case rel => exact ⟨k + 1, by omega, by go_num, (by rw [HE.out]; exact HB.out.keep (HBR.out _)), HL.out.trans ((HBR.out _).mono HL.out.size)⟩
                      case measure => simp [intOf] <;> omega
          · obtain rfl : k = m := by omega
            have HE : Hid (rchR L skip wo i0 k = rchN L skip wo ((List.replicate n false).set a true) (r + 1)) := by show _ = _; rw [HI0.out, HM.out]; rfl
            go_wp2_with (fail)
            go_roundw
            case rel => exact ⟨r + 1, by omega, by go_num, (by rw [← HE.out]; exact HB.out), HL.out⟩
            case measure => simp [intOf] <;> omega
      · obtain rfl : r = n := by omega
        go_wp2_with (fail)
        go_ret
        exact ⟨⟨b, rfl, (by rw [HR.out]; exact HB.out), hb⟩, HL.out⟩

end Go.Proofs.Ytenilbofncfbdaa

namespace Go.Proofs.Ytenilbofncfbdaa

def nbLoT (L : Prs) (v : Nat) : Nat → List (Nat × Nat)
  | 0 => []
  | k + 1 => nbLoT L v k ++ (if endB L k = v then [(endA L k, k)] else [])
def nbHiT (L : Prs) (v : Nat) : Nat → List (Nat × Nat)
  | 0 => []
  | k + 1 => nbHiT L v k ++ (if endA L k = v then [(endB L k, k)] else [])
theorem zip_at {L : Prs} {k : Nat} (h : k < L.length) : L.zipIdx[k]? = some ((endA L k, endB L k), k) := by
  rw [List.getElem?_zipIdx, List.getElem?_eq_getElem h]
  simp [endA, endB, List.getD, h]
theorem nbLoT_succ (L : Prs) (v k : Nat) : nbLoT L v (k + 1) = nbLoT L v k ++ (if endB L k = v then [(endA L k, k)] else []) := rfl
theorem nbLo_take (L : Prs) (v : Nat) : ∀ k, k ≤ L.length → ((L.zipIdx.take k).filter fun x => x.1.2 == v).map (fun x => (x.1.1, x.2)) = nbLoT L v k := by
  intro k
  induction k with
  | zero => intro _; rfl
  | succ k ih =>
    intro hk
    rw [List.take_add_one, List.filter_append, List.map_append, ih (by omega), zip_at (by omega)]
    rw [nbLoT_succ]
    congr 1
    by_cases h : endB L k = v
    · rw [if_pos h]; simp [h]
    · rw [if_neg h]; simp [h]
theorem nbHiT_succ (L : Prs) (v k : Nat) : nbHiT L v (k + 1) = nbHiT L v k ++ (if endA L k = v then [(endB L k, k)] else []) := rfl
theorem nbHi_take (L : Prs) (v : Nat) : ∀ k, k ≤ L.length → ((L.zipIdx.take k).filter fun x => x.1.1 == v).map (fun x => (x.1.2, x.2)) = nbHiT L v k := by
  intro k
  induction k with
  | zero => intro _; rfl
  | succ k ih =>
    intro hk
    rw [List.take_add_one, List.filter_append, List.map_append, ih (by omega), zip_at (by omega)]
    rw [nbHiT_succ]
    congr 1
    by_cases h : endA L k = v
    · rw [if_pos h]; simp [h]
    · rw [if_neg h]; simp [h]
theorem nbLo_all (L : Prs) (v : Nat) : nbLoT L v L.length = nbLo L v := by
  rw [← nbLo_take L v L.length (Nat.le_refl _), List.take_of_length_le (by simp)]
  rfl
theorem nbHi_all (L : Prs) (v : Nat) : nbHiT L v L.length = nbHi L v := by
  rw [← nbHi_take L v L.length (Nat.le_refl _), List.take_of_length_le (by simp)]
  rfl
theorem nbLo_more (L : Prs) (v : Nat) (k : Nat) : ∀ m, k ≤ m → ∃ r, nbLoT L v m = nbLoT L v k ++ r := by
  intro m
  induction m with
  | zero => intro h; obtain rfl : k = 0 := by omega
            exact ⟨[], rfl⟩
  | succ m ih =>
    intro h
    by_cases e : k = m + 1
    · subst e; exact ⟨[], by simp⟩
    · obtain ⟨r, hr⟩ := ih (by omega)
      refine ⟨r ++ (if endB L m = v then [(endA L m, m)] else []), ?_⟩
      rw [nbLoT_succ, hr, List.append_assoc]
theorem nbHi_more (L : Prs) (v : Nat) (k : Nat) : ∀ m, k ≤ m → ∃ r, nbHiT L v m = nbHiT L v k ++ r := by
  intro m
  induction m with
  | zero => intro h; obtain rfl : k = 0 := by omega
            exact ⟨[], rfl⟩
  | succ m ih =>
    intro h
    by_cases e : k = m + 1
    · subst e; exact ⟨[], by simp⟩
    · obtain ⟨r, hr⟩ := ih (by omega)
      refine ⟨r ++ (if endA L m = v then [(endB L m, m)] else []), ?_⟩
      rw [nbHiT_succ, hr, List.append_assoc]
/-- an element that is handed over: what came, it, what will come -/
theorem nbLo_at {L : Prs} {v k : Nat} (hk : k < L.length) (h : endB L k = v) : ∃ r, nbF L v = nbLoT L v k ++ (endA L k, k) :: r := by
  obtain ⟨r, hr⟩ := nbLo_more L v (k + 1) L.length hk
  refine ⟨r ++ nbHi L v, ?_⟩
  unfold nbF
  rw [← nbLo_all, hr]
  rw [nbLoT_succ, if_pos h]
  simp
theorem nbHi_at {L : Prs} {v k : Nat} (hk : k < L.length) (h : endA L k = v) : ∃ r, nbF L v = (nbLo L v ++ nbHiT L v k) ++ (endB L k, k) :: r := by
  obtain ⟨r, hr⟩ := nbHi_more L v (k + 1) L.length hk
  refine ⟨r, ?_⟩
  unfold nbF
  rw [← nbHi_all, hr]
  rw [nbHiT_succ, if_pos h]
  simp

end Go.Proofs.Ytenilbofncfbdaa

namespace Go.Proofs.Ytenilbofncfbdaa
open Go.RowKit

attribute [local go_sem] Oper.semAt_some

abbrev encN : Nat × Nat → Array Value := fun x => #[.int .i64 (x.1 : Int), .int .i64 (x.2 : Int)]
/-- what the iterator reads -/
def InvN (q : Nat) (lv : Value) (L : Prs) (v : Nat) (W : World) : Prop := W.heap[q]? = some (.cells #[lv] 22 (0, 0)) ∧ W.heap[q + 1]? = some (.cells #[.int .i64 (v : Int)] 3 (0, 0)) ∧ Lis W W.heap.size lv L
/-- the iterator's value -/
abbrev nbV (q : Nat) : Value := .func (.func 50) #[] #[.pointer (some ⟨q, 0, none⟩), .pointer (some ⟨q + 1, 0, none⟩)]
theorem InvN.below {q : Nat} {lv : Value} {L : Prs} {v : Nat} {W W' : World} (h : InvN q lv L v W) (hb : Below W.heap.size W W') : InvN q lv L v W' := ⟨stays h.1 hb, stays h.2.1 hb, h.2.2.kept hb⟩

set_option maxRecDepth 100000 in
set_option maxHeartbeats 4000000 in
theorem neigh_any (lv : Value) (L : Prs) (v : Nat) (w : World) (hl : Lis w w.heap.size lv L) :
    Calls Try.prog 41 #[lv, .int .i64 (v : Int)] w fun e w' => ∃ q, e = .returned (nbV q) ∧ w.heap.size ≤ q ∧ InvN q lv L v w' ∧ Below w.heap.size w w' := by
  have hb1 := new_block w (.cells #[lv] 22)
  have hb2 := new_block (w.alloc (.cells #[lv] 22)) (.cells #[.int .i64 (v : Int)] 3)
  have hz : (w.alloc (.cells #[lv] 22)).heap.size = w.heap.size + 1 := by simp
  rw [hz] at hb2
  have hB : Below w.heap.size w ((w.alloc (.cells #[lv] 22)).alloc (.cells #[.int .i64 (v : Int)] 3)) := hb1.1.trans (hb2.1.mono (by omega))
  have key : InvN w.heap.size lv L v ((w.alloc (.cells #[lv] 22)).alloc (.cells #[.int .i64 (v : Int)] 3)) := ⟨stays hb1.2 (by rw [hz]; exact hb2.1), hb2.2, hl.kept hB⟩
  have K := Lib.hid key
  have HB := Lib.hid hB
  obtain ⟨ao, cap, rfl, -, -⟩ := hl.slice
  clear hl key hB hb1 hb2 hz
  go_enter Try.func41, Try.ntmps41
  go_wp2
  go_ret
  exact ⟨w.heap.size, rfl, Nat.le_refl _, K.out, HB.out⟩

set_option maxRecDepth 100000 in
set_option maxHeartbeats 8000000 in
theorem neigh_iter (q : Nat) (lv : Value) (L : Prs) (v : Nat) (fu : Nat) :
    Iterates Fence.wide fu Try.prog 50 #[.pointer (some ⟨q, 0, none⟩), .pointer (some ⟨q + 1, 0, none⟩)] encN (InvN q lv L v) (fun pre x _ => ∃ r, nbF L v = pre ++ x :: r) (fun xs => xs = nbF L v) (fun pre => ∃ r, nbF L v = pre ++ r) := by
  intro yl J Jx W hJ hInv hY h0
  have HJ := Lib.hid hJ
  have HY := Lib.hid hY
  have HV := Lib.hid hInv
  obtain ⟨ao, cap, rfl, -, hcl⟩ := Lis.slice (hInv _ _ h0).2.2
  clear hJ hY hInv
  have HLo := Lib.hid (nbLo_all L v)
  have HHi := Lib.hid (nbHi_all L v)
  obtain ⟨m, hm⟩ : ∃ m, m = L.length := ⟨_, rfl⟩
  rw [← hm] at HV HLo HHi hcl
  have HM := Lib.hid hm
  clear hm
  have p0 := HV.out _ _ h0
  have c1 : W.cell? ⟨q, 0, none⟩ = some (.slice ao m cap) := cell_of_row _ _ 0 _ _ _ p0.1
  clear p0
  refine callsIn_of_wp Try.func50 rfl trivial ?_ rfl
  simp only [Try.ntmps50, List.size_toArray, List.length_cons, List.length_nil, Nat.reduceAdd, Nat.reduceSub, Array.replicate_succ, Array.replicate_zero, List.push_toArray, List.append_toArray, List.nil_append, List.cons_append]
  gi_wp2
  gi_loopw [10] (fun kv wr => ∃ k : Nat, k ≤ m ∧ kv = .int .i64 (k : Int) ∧ Hid (J (nbLoT L v k) wr)) (fun kv _ => m - (intOf kv).toNat)
  case atStart => exact ⟨0, Nat.zero_le _, rfl, h0⟩
  case round =>
    clear h0 c1
    obtain ⟨k, hk, rfl, HI⟩ := hrel
    by_cases hkt : k < m
    · have p0 := HV.out _ _ HI.out
      have cv : wr.cell? ⟨q + 1, 0, none⟩ = some (.int .i64 (v : Int)) := cell_of_row _ _ 0 _ _ _ p0.2.1
      have hq : q + 1 < wr.heap.size := (Array.getElem?_eq_some_iff.1 p0.2.1).1
      obtain ⟨bl, ol, hbl, hbl2, cA, cB⟩ := Lis.at p0.2.2 k (by rw [← HM.out]; exact hkt)
      subst hbl
      have HN : Hid (nbLoT L v (k + 1) = nbLoT L v k ++ (if endB L k = v then [(endA L k, k)] else [])) := rfl
      have HAT : Hid (endB L k = v → ∃ r, nbF L v = nbLoT L v k ++ (endA L k, k) :: r) := nbLo_at (by rw [← HM.out]; exact hkt)
      have HI2 : Hid (∀ o, J (nbLoT L v k) (wr.alloc o)) := fun o => HJ.out _ _ _ HI.out (new_block wr o).1
      clear p0
      obtain ⟨x, hx⟩ : ∃ x, x = endA L k := ⟨_, rfl⟩
      obtain ⟨y, hy⟩ : ∃ y, y = endB L k := ⟨_, rfl⟩
      rw [← hx] at cA HN HAT
      rw [← hy] at cB HN HAT
      clear hx hy
      by_cases hyv : y = v
      · subst hyv
        rw [if_pos rfl] at HN
        obtain ⟨fn, tmps, assign, body, hyy, hR⟩ := HY.out (nbLoT L y k) (x, k) _ (HI2.out (.cells #[.int .i64 (x : Int), .int .i64 (y : Int)] 38)) (HAT.out rfl)
        gi_wp2_with (fail)
        refine ⟨wide_room _, ?_⟩
        refine hR.mono ?_
        rintro e w2 (⟨rfl, hJ2⟩ | ⟨rfl, hJ2⟩)
        · have HJ2 := Lib.hid hJ2
          clear hJ2 hR hyy
          gi_wp2
          go_roundw
          case rel => exact ⟨k + 1, by omega, by go_num, by rw [HN.out]; exact HJ2.out⟩
          case measure => simp [intOf] <;> omega
        · have HJ2 := Lib.hid hJ2
          have HPR := HAT.out trivial
          clear hJ2 hR hyy
          gi_wp2
          refine bodyPost_ret (results_none rfl _ _ _) rfl ⟨⟨.tuple #[], rfl⟩, .inr ⟨_, ?_, HJ2.out⟩⟩
          obtain ⟨r, hr⟩ := HPR
          exact ⟨r, by rw [hr]; simp⟩
      · rw [if_neg hyv] at HN
        have hyb : ((y : Int) == (v : Int)) = false := by rw [beq_eq_false_iff_ne]; omega
        gi_wp2_with (fail)
        refine ⟨(fun f h => by cases h), ?_⟩
        gi_wp2_with (fail)
        go_roundw
        case rel => exact ⟨k + 1, by omega, by go_num, by rw [HN.out, List.append_nil]; exact HI2.out _⟩
        case measure => simp [intOf] <;> omega
    · obtain rfl : k = m := by omega
      have HI0 : Hid (J (nbLo L v) wr) := by show J _ _; rw [← HLo.out]; exact HI.out
      clear HI
      have p0 := HV.out _ _ HI0.out
      have c1 : wr.cell? ⟨q, 0, none⟩ = some (.slice ao k cap) := cell_of_row _ _ 0 _ _ _ p0.1
      clear p0
      gi_wp2_with (fail)
      gi_loopw [30] (fun kv wr => ∃ j : Nat, j ≤ k ∧ kv = .int .i64 (j : Int) ∧ Hid (J (nbLo L v ++ nbHiT L v j) wr)) (fun kv _ => k - (intOf kv).toNat)
      case atStart => exact ⟨0, Nat.zero_le _, rfl, (by show J _ _; rw [show nbHiT L v 0 = [] from rfl, List.append_nil]; exact HI0.out)⟩
      case round =>
        clear HI0 c1
        obtain ⟨j, hj, rfl, HI⟩ := hrel
        by_cases hkt : j < k
        · have p0 := HV.out _ _ HI.out
          have cv : wr.cell? ⟨q + 1, 0, none⟩ = some (.int .i64 (v : Int)) := cell_of_row _ _ 0 _ _ _ p0.2.1
          have hq : q + 1 < wr.heap.size := (Array.getElem?_eq_some_iff.1 p0.2.1).1
          obtain ⟨bl, ol, hbl, hbl2, cA, cB⟩ := Lis.at p0.2.2 j (by rw [← HM.out]; exact hkt)
          subst hbl
          have HN : Hid (nbHiT L v (j + 1) = nbHiT L v j ++ (if endA L j = v then [(endB L j, j)] else [])) := rfl
          have HAT : Hid (endA L j = v → ∃ r, nbF L v = (nbLo L v ++ nbHiT L v j) ++ (endB L j, j) :: r) := nbHi_at (by rw [← HM.out]; exact hkt)
          have HI2 : Hid (∀ o, J (nbLo L v ++ nbHiT L v j) (wr.alloc o)) := fun o => HJ.out _ _ _ HI.out (new_block wr o).1
          clear p0
          obtain ⟨x, hx⟩ : ∃ x, x = endA L j := ⟨_, rfl⟩
          obtain ⟨y, hy⟩ : ∃ y, y = endB L j := ⟨_, rfl⟩
          rw [← hx] at cA HN HAT
          rw [← hy] at cB HN HAT
          clear hx hy
          by_cases hyv : x = v
          · subst hyv
            rw [if_pos rfl] at HN
            obtain ⟨fn, tmps, assign, body, hyy, hR⟩ := HY.out (nbLo L x ++ nbHiT L x j) (y, j) _ (HI2.out (.cells #[.int .i64 (x : Int), .int .i64 (y : Int)] 38)) (HAT.out rfl)
            gi_wp2_with (fail)
            refine ⟨wide_room _, ?_⟩
            refine hR.mono ?_
            rintro e w2 (⟨rfl, hJ2⟩ | ⟨rfl, hJ2⟩)
            · have HJ2 := Lib.hid hJ2
              clear hJ2 hR hyy
              gi_wp2
              go_roundw
              case rel => exact ⟨j + 1, by omega, by go_num, by rw [HN.out, ← List.append_assoc]; exact HJ2.out⟩
              case measure => simp [intOf] <;> omega
            · have HJ2 := Lib.hid hJ2
              have HPR := HAT.out trivial
              clear hJ2 hR hyy
              gi_wp2
              refine bodyPost_ret (results_none rfl _ _ _) rfl ⟨⟨.tuple #[], rfl⟩, .inr ⟨_, ?_, HJ2.out⟩⟩
              obtain ⟨r, hr⟩ := HPR
              exact ⟨r, by rw [hr]; simp⟩
          · rw [if_neg hyv] at HN
            have hyb : ((x : Int) == (v : Int)) = false := by rw [beq_eq_false_iff_ne]; omega
            gi_wp2_with (fail)
            refine ⟨(fun f h => by cases h), ?_⟩
            gi_wp2_with (fail)
            go_roundw
            case rel => exact ⟨j + 1, by omega, by go_num, by rw [HN.out, List.append_nil]; exact HI2.out _⟩
            case measure => simp [intOf] <;> omega
        · obtain rfl : j = k := by omega
          have HE : Hid (J (nbF L v) wr) := by show J _ _; rw [show nbF L v = nbLo L v ++ nbHi L v from rfl, ← HHi.out]; exact HI.out
          clear HI
          gi_wp2
          go_end0
          exact ⟨⟨_, rfl⟩, .inl ⟨_, rfl, HE.out⟩⟩

end Go.Proofs.Ytenilbofncfbdaa

namespace Go.Proofs.Ytenilbofncfbdaa
open Go.RowKit

/-- a flow in memory: its record fb, its row gb; the links lie below B -/
structure FlowW (W : World) (B fb gb : Nat) (lv : Value) (n : Nat) (L : Prs) (g : List Int) : Prop where
  f : W.heap[fb]? = some (.cells #[.int .i64 (n : Int), lv, .slice (some ⟨gb, 0, none⟩) L.length L.length] 69 (0, 0))
  row : RowI W gb g
  gl : g.length = L.length
  l : Lis W B lv L
  bf : B ≤ fb
  bg : B ≤ gb
theorem FlowW.below {W W' : World} {B fb gb : Nat} {lv : Value} {n : Nat} {L : Prs} {g : List Int} (h : FlowW W B fb gb lv n L g) (hb : Below W.heap.size W W') : FlowW W' B fb gb lv n L g :=
  ⟨stays h.f hb, h.row.keep hb, h.gl, h.l.below (hb.mono (by have := h.bf; have := (Array.getElem?_eq_some_iff.1 h.f).1; omega)) (Nat.le_refl _), h.bf, h.bg⟩
theorem FlowW.ne {W : World} {B fb gb : Nat} {lv : Value} {n : Nat} {L : Prs} {g : List Int} (h : FlowW W B fb gb lv n L g) : fb ≠ gb := by
  rintro rfl
  have h1 := h.f
  have h2 := h.row
  unfold RowI RowV at h2
  rw [h1] at h2
  simp at h2
theorem FlowW.set {W : World} {B fb gb : Nat} {lv : Value} {n : Nat} {L : Prs} {g : List Int} (h : FlowW W B fb gb lv n L g) (k : Nat) (x : Int) : FlowW (W.setCell ⟨gb, k, none⟩ (.int .i64 x)) B fb gb lv n L (g.set k x) :=
  ⟨(Below.heap_setCell _ _ _ _ h.ne).trans h.f, h.row.set k x, by simpa using h.gl, h.l.below (bel_set h.bg (Below.refl _ _)) (Nat.le_refl _), h.bf, h.bg⟩
theorem FlowW.lt {W : World} {B fb gb : Nat} {lv : Value} {n : Nat} {L : Prs} {g : List Int} (h : FlowW W B fb gb lv n L g) : fb < W.heap.size ∧ gb < W.heap.size := ⟨(Array.getElem?_eq_some_iff.1 h.f).1, h.row.lt⟩

set_option maxRecDepth 100000 in
set_option maxHeartbeats 2000000 in
theorem open_any (W : World) (B fb gb : Nat) (lv : Value) (n : Nat) (L : Prs) (g : List Int) (k v : Nat) (h : FlowW W B fb gb lv n L g) (hk : k < L.length) :
    Calls Try.prog 47 #[.pointer (some ⟨fb, 0, none⟩), .int .i64 (k : Int), .int .i64 (v : Int)] W fun e w' => e = .returned (.bool (openL L g k v)) ∧ w' = W := by
  obtain ⟨ao, cap, rfl, -, hcl⟩ := h.l.slice
  have f1 : W.cell? ⟨fb, 1, none⟩ = some (.slice ao L.length cap) := cell_of_row _ _ 1 _ _ _ h.f
  have f2 : W.cell? ⟨fb, 2, none⟩ = some (.slice (some ⟨gb, 0, none⟩) L.length L.length) := cell_of_row _ _ 2 _ _ _ h.f
  obtain ⟨bl, ol, hbl, -, cA, cB⟩ := Lis.at h.l k hk
  subst hbl
  have cG := h.row.cell k (by rw [h.gl]; exact hk)
  unfold openL
  obtain ⟨x, hx⟩ : ∃ x, x = endA L k := ⟨_, rfl⟩
  obtain ⟨z, hz⟩ : ∃ z, z = g.getD k 0 := ⟨_, rfl⟩
  rw [← hx] at cA ⊢
  rw [← hz] at cG ⊢
  obtain ⟨m, hm⟩ : ∃ m, m = L.length := ⟨_, rfl⟩
  rw [← hm] at f1 f2 hk hcl
  clear h hx hz hm cB
  by_cases hxv : x = v
  · rw [if_pos hxv]
    subst hxv
    go_enter Try.func47, Try.ntmps47
    go_wp2
    go_ret
    exact ⟨rfl, rfl⟩
  · rw [if_neg hxv]
    have hxb : ((x : Int) == (v : Int)) = false := by rw [beq_eq_false_iff_ne]; omega
    clear hxv
    go_enter Try.func47, Try.ntmps47
    go_wp2
    go_ret
    exact ⟨rfl, rfl⟩

set_option maxRecDepth 100000 in
set_option maxHeartbeats 2000000 in
theorem push_any (W : World) (B fb gb : Nat) (lv : Value) (n : Nat) (L : Prs) (g : List Int) (k v : Nat) (h : FlowW W B fb gb lv n L g) (hk : k < L.length) (hg : -1 ≤ g.getD k 0 ∧ g.getD k 0 ≤ 1) :
    Calls Try.prog 45 #[.pointer (some ⟨fb, 0, none⟩), .int .i64 (k : Int), .int .i64 (v : Int)] W fun e w' => e = .returned (.tuple #[]) ∧ FlowW w' B fb gb lv n L (pushL L g k v) ∧ Below B W w' ∧ w'.heap.size = W.heap.size ∧ ∀ c, c ≠ gb → w'.heap[c]? = W.heap[c]? := by
  have H := Lib.hid h
  obtain ⟨ao, cap, rfl, -, hcl⟩ := h.l.slice
  have f1 : W.cell? ⟨fb, 1, none⟩ = some (.slice ao L.length cap) := cell_of_row _ _ 1 _ _ _ h.f
  have f2 : W.cell? ⟨fb, 2, none⟩ = some (.slice (some ⟨gb, 0, none⟩) L.length L.length) := cell_of_row _ _ 2 _ _ _ h.f
  obtain ⟨bl, ol, hbl, -, cA, cB⟩ := Lis.at h.l k hk
  subst hbl
  have cG := h.row.cell k (by rw [h.gl]; exact hk)
  have fG := h.row.frozen k
  have hbg := h.bg
  have FIN : Hid (∀ x : Int, Below B W (W.setCell ⟨gb, k, none⟩ (.int .i64 x)) ∧ (W.setCell ⟨gb, k, none⟩ (.int .i64 x)).heap.size = W.heap.size ∧ ∀ c, c ≠ gb → (W.setCell ⟨gb, k, none⟩ (.int .i64 x)).heap[c]? = W.heap[c]?) := fun x => ⟨bel_set hbg (Below.refl _ _), by simp, fun c hc => Below.heap_setCell _ _ _ _ hc⟩
  unfold pushL
  obtain ⟨x, hx⟩ : ∃ x, x = endA L k := ⟨_, rfl⟩
  obtain ⟨z, hz⟩ : ∃ z, z = g.getD k 0 := ⟨_, rfl⟩
  rw [← hx] at cA ⊢
  rw [← hz] at cG hg ⊢
  obtain ⟨m, hm⟩ : ∃ m, m = L.length := ⟨_, rfl⟩
  rw [← hm] at f1 f2 hk hcl H
  rw [← hm]
  clear h hx hz hm cB
  by_cases hxv : x = v
  · rw [if_pos hxv]
    subst hxv
    have hw : IntKind.i64.wrap (z + 1) = z + 1 := by rw [IntKind.wrap_i64]; omega
    go_enter Try.func45, Try.ntmps45
    go_wp2
    refine bodyPost_ret (results_none rfl _ _ _) rfl ⟨rfl, H.out.set k _, FIN.out _⟩
  · rw [if_neg hxv]
    have hxb : ((x : Int) == (v : Int)) = false := by rw [beq_eq_false_iff_ne]; omega
    have hw : IntKind.i64.wrap (z - 1) = z - 1 := by rw [IntKind.wrap_i64]; omega
    clear hxv
    go_enter Try.func45, Try.ntmps45
    go_wp2
    go_end0
    exact ⟨rfl, H.out.set k _, FIN.out _⟩

set_option maxRecDepth 100000 in
set_option maxHeartbeats 2000000 in
theorem other_any (W : World) (B fb gb : Nat) (lv : Value) (n : Nat) (L : Prs) (g : List Int) (k v u : Nat) (h : FlowW W B fb gb lv n L g) (hk : k < L.length) (hs : endA L k + endB L k = v + u) (hsm : endA L k < 16 ∧ endB L k < 16) :
    Calls Try.prog 44 #[.pointer (some ⟨fb, 0, none⟩), .int .i64 (k : Int), .int .i64 (v : Int)] W fun e w' => e = .returned (.int .i64 (u : Int)) ∧ Below W.heap.size W w' := by
  obtain ⟨ao, cap, rfl, -, hcl⟩ := h.l.slice
  have f1 : W.cell? ⟨fb, 1, none⟩ = some (.slice ao L.length cap) := cell_of_row _ _ 1 _ _ _ h.f
  obtain ⟨bl, ol, hbl, -, cA, cB⟩ := Lis.at h.l k hk
  subst hbl
  obtain ⟨x, hx⟩ : ∃ x, x = endA L k := ⟨_, rfl⟩
  obtain ⟨y, hy⟩ : ∃ x, x = endB L k := ⟨_, rfl⟩
  rw [← hx] at cA hs hsm
  rw [← hy] at cB hs hsm
  obtain ⟨m, hm⟩ : ∃ m, m = L.length := ⟨_, rfl⟩
  rw [← hm] at f1 hk hcl
  clear h hx hy hm
  have hw1 : IntKind.i64.wrap ((x : Int) + (y : Int)) = (x : Int) + (y : Int) := by rw [IntKind.wrap_i64]; omega
  have hw2 : IntKind.i64.wrap ((x : Int) + (y : Int) - (v : Int)) = (u : Int) := by rw [IntKind.wrap_i64]; omega
  have hkn : 0 ≤ (k : Int) ∧ (k : Int) < (m : Int) := by omega
  go_enter Try.func44, Try.ntmps44
  go_wp2_with (fail)
  go_quiet (fail)
  go_wp2
  go_ret
  exact ⟨rfl, bdN _ _ _⟩

end Go.Proofs.Ytenilbofncfbdaa

namespace Go.Proofs.Ytenilbofncfbdaa
open Go.RowKit

/-- what has run has run behind what it waits for -/
def Clo (dp : Nat → Nat → Bool) (d : Nat → Bool) : Prop := ∀ u k, d u = true → dp u k = true → d k = true
theorem Clo.upd {dp : Nat → Nat → Bool} {d : Nat → Bool} {i : Nat} (h : Clo dp d) (hi : ∀ k, dp i k = true → d k = true) : Clo dp (updC d i) := by
 intro u k hu hk
 unfold updC at hu ⊢
 by_cases e : k = i
 ·rw [if_pos e]
 ·rw [if_neg e]
  by_cases e2 : u = i
  ·subst e2; exact hi k hk
  ·rw [if_neg e2] at hu; exact h u k hu hk
def dpR (u k : Nat) : Bool := (u == 8 && (k == 0 || k == 7)) || (u == 7 && (k == 3 || k == 6)) || (u == 3 && (k == 1 || k == 2)) || (u == 6 && (k == 4 || k == 5)) || (u == 9 && k == 8)
/-- the first k are z -/
def repF (n k : Nat) (z : Int) : List Int := List.replicate k z ++ List.replicate (n - k) 0
theorem repF_len {n k : Nat} {z : Int} (h : k ≤ n) : (repF n k z).length = n := by simp [repF]; omega
/-- copy within a row, or from another -/
theorem copy_rep {w : World} {b n i c s scap : Nat} {z : Int} {ad : Addr} (ty : TypeId) (dcap : Nat) (h : RowI w b (repF n i z)) (hc : c = Nat.min s (n - i)) (hs : ∀ j, j < c → w.cell? (ad.add j) = some (.int .i64 z)) (B : Nat) (w0 : World) (hb : Below B w0 w) (hB : B ≤ b) :
  ∃ W, (Builtin.copy_ #[35, 35] ty #[.slice (some ⟨b, i, none⟩) (n - i) dcap, .slice (some ad) s scap]).run Try.prog w = .ok (.int .i64 (c : Int)) W ∧ RowI W b (repF n (i + c) z) ∧ Below B w0 W := by
 have hlen : (List.replicate c (intV z)).length = c := by simp
 have hr := run_copy_row (P := Try.prog) w 35 35 ty 3 b i (n - i) dcap ad s scap ((repF n i z).map intV).toArray 3 (List.replicate c (intV z)) Try.underlying35 (by rw [show Try.prog.info? 3 = _ from rfl]; kernel_rfl) h (by rw [hlen]; exact hc) ?_ ?_ (by intro v hv; rw [List.eq_of_mem_replicate hv]; rfl)
 ·refine ⟨_, hr.trans (by rw [hlen]; rfl), ?_, below_setRow hb hB _⟩
  unfold RowI RowV
  rw [setRow_heap w b _ _ _ _ h]
  congr 3
  have hci : c ≤ n - i := by rw [hc]; exact Nat.min_le_right _ _
  unfold repF
  simp only [List.map_append, List.map_replicate]
  rw [List.take_left' (by simp), List.drop_append, List.drop_of_length_le (by simp), List.drop_replicate]
  rw [← List.replicate_append_replicate (n := i) (m := c)]
  simp
  omega
 ·intro j v hj
  have hjc : j < c := by have := (List.getElem?_eq_some_iff.1 hj).1; simpa using this
  rw [List.getElem?_replicate, if_pos hjc] at hj
  cases hj
  exact hs j hjc
 ·rw [hlen]
  have : c ≤ n - i := by rw [hc]; exact Nat.min_le_right _ _
  simp [repF]; omega

theorem wpList_copy_rep {w : World} {ops : Array Oper} {rest : List Oper} {o : Oper} {a : Act} {Q : Exit → Act → World → Prop} (hgd : o.guard = none) (d s : Operand) (ho : o.op = .call { callee := .builtin .copy, args := #[d, s], argTypes := #[35, 35] })
  {b n i c sl dl scap : Nat} {z : Int} {ad : Addr} (dcap : Nat) (h : RowI w b (repF n i z)) (hdl : dl = n - i) (hc : c = Nat.min sl (n - i)) (hs : ∀ j, j < c → w.cell? (ad.add j) = some (.int .i64 z)) (B : Nat) (w0 : World) (hb : Below B w0 w) (hB : B ≤ b)
  (hd : a.eval d = .slice (some ⟨b, i, none⟩) dl dcap) (hse : a.eval s = .slice (some ad) sl scap)
  (hk : ∀ W, RowI W b (repF n (i + c) z) → Below B w0 W → wpList Try.prog ops Q rest (a.put o.dst (.int .i64 (c : Int))) W) : wpList Try.prog ops Q (o :: rest) a w := by
 subst hdl
 obtain ⟨W, hrun, h1, h2⟩ := copy_rep (scap := scap) o.type dcap h hc hs B w0 hb hB
 refine wpList_plain hgd fun K hK => ?_
 unfold Oper.wp
 simp [execOp, ho, resolve, invoke, builtin, hd, hse, hrun, Result.andThen]
 exact hK _ _ (hk W h1 h2)
set_option maxRecDepth 100000 in
set_option maxHeartbeats 4000000 in
theorem repeat_any (v : Value) (z : Int) (n : Nat) (w : World) (hv : Its w w.heap.size v [z]) (hn : n ≤ 16) (hn0 : 1 ≤ n) :
  Calls Try.prog 40 #[v, .int .i64 (n : Int)] w fun e w' => (∃ b, e = .returned (.slice (some ⟨b, 0, none⟩) n n) ∧ RowI w' b (List.replicate n z) ∧ w.heap.size ≤ b) ∧ Below w.heap.size w w' := by
 obtain ⟨ao, cap, rfl, -, -⟩ := hv.slice
 obtain ⟨b0, o0, e0, hb0, c0⟩ := hv.at 0 (by simp)
 subst e0
 have C0 := Lib.hid c0
 have hmul := Try.bits_Mul 1 n (by decide) (by omega) w
 rw [show ((1 * n / 18446744073709551616 : Nat) : Int) = 0 by omega, show ((1 * n % 18446744073709551616 : Nat) : Int) = (n : Int) by omega] at hmul
 have HMUL := Lib.hid hmul
 clear hv c0 hmul
 go_enter Try.func40, Try.ntmps40
 go_wp2_with (fail)
 refine HMUL.out.mono ?_
 rintro e w1 ⟨rfl, rfl⟩
 clear HMUL
 go_wp2_with (refine wpList_make_int rfl _ _ rfl n rfl rfl (by omega) ?_)
 intro b W hr hb hB
 have HR := Lib.hid hr
 have HB := Lib.hid hB
 clear hr hB
 have h1 : decide ((9223372036854775807 : Int) < (n : Int)) = false := by simp; omega
 have h2 : decide ((n : Int) < 0) = false := by simp
 have HR0 : Hid (RowI W b (repF n 0 z)) := by show RowI _ _ _; unfold repF; simpa using HR.out
 clear HR
 go_wp2_with (refine wpList_copy_rep rfl _ _ rfl (i := 0) (c := 1) n HR0.out (by rfl) (by rw [Nat.sub_zero]; exact (Nat.min_eq_left hn0).symm) ?_ _ _ HB.out hb rfl rfl ?_)
 ·intro j hj
  obtain rfl : j = 0 := by omega
  rw [Addr.add_lit]
  exact (HB.out.cell (p := ⟨b0, o0 + 0, none⟩) hb0).trans C0.out
 intro W2 hr2 hB2
 have HROW := Lib.hid hr2
 have HB2 := Lib.hid hB2
 clear hr2 hB2 HR0 HB
 go_wp2_with (fail)
 go_loopw [8] (fun iv wr => ∃ i : Nat, 1 ≤ i ∧ i ≤ n ∧ iv = .int .i64 (i : Int) ∧ Hid (RowI wr b (repF n i z)) ∧ Hid (Below w1.heap.size w1 wr)) (fun iv _ => n - (intOf iv).toNat)
 case atStart => exact ⟨1, Nat.le_refl _, hn0, rfl, HROW.out, HB2.out⟩
 case round =>
  clear HROW HB2
  obtain ⟨ni, hi1, hin, rfl, HROW, HB⟩ := hrel
  by_cases hlt : ni < n
  ·obtain ⟨c, hc⟩ : ∃ c, c = Nat.min ni (n - ni) := ⟨_, rfl⟩
   have hci : c ≤ ni := by rw [hc]; exact Nat.min_le_left _ _
   have hcn : c ≤ n - ni := by rw [hc]; exact Nat.min_le_right _ _
   have hc1 : 1 ≤ c := by rw [hc]; exact Nat.le_min.2 ⟨hi1, by omega⟩
   obtain ⟨nj, hj⟩ : ∃ nj, nj = ni + c := ⟨_, rfl⟩
   have hij : (ni : Int) + (c : Int) = (nj : Int) := by omega
   have hwj : IntKind.i64.wrap (nj : Int) = (nj : Int) := by rw [IntKind.wrap_i64]; omega
   have hi0 : ¬ ni = 0 := by omega
   have HC1 : Hid (∀ W, (Instr.slice 35 (.slice (some ⟨b, 0, none⟩) n n) (some (.int .i64 (ni : Int))) none none).run Try.prog W = .ok (.slice (some ⟨b, ni, none⟩) (n - ni) (n - ni)) W) := by
    show ∀ W, _
    intro W
    rw [run_slice_l W 35 _ n n Try.underlying35 .i64 (ni : Int) (by omega) (by omega)]
    have e : (sizeOf (Try.prog.elem 35)).run Try.prog W = .ok 1 W := by kernel_rfl
    rw [e]
    have hne : ¬ n = ni := by omega
    simp [sliced, hne, hi0, Addr.add, Result.andThen]
   have HC2 : Hid (∀ W, (Instr.slice 35 (.slice (some ⟨b, 0, none⟩) n n) none (some (.int .i64 (ni : Int))) none).run Try.prog W = .ok (.slice (some ⟨b, 0, none⟩) ni n) W) := by
    show ∀ W, _
    intro W
    rw [run_slice_h W 35 _ n n Try.underlying35 .i64 (ni : Int) (by omega) (by omega)]
    have e : (sizeOf (Try.prog.elem 35)).run Try.prog W = .ok 1 W := by kernel_rfl
    rw [e]
    simp [sliced, Addr.add, Result.andThen]
   have HC3 : Hid (∀ W ty, RowI W b (repF n ni z) → Below w1.heap.size w1 W → ∃ W2, (Builtin.copy_ #[35, 35] ty #[.slice (some ⟨b, ni, none⟩) (n - ni) (n - ni), .slice (some ⟨b, 0, none⟩) ni n]).run Try.prog W = .ok (.int .i64 (c : Int)) W2 ∧ RowI W2 b (repF n nj z) ∧ Below w1.heap.size w1 W2) := fun W ty h1 h2 => by
    rw [hj]
    refine copy_rep ty (n - ni) h1 hc (fun k hk => ?_) _ _ h2 hb
    rw [Addr.add_lit, Nat.zero_add, h1.cell k (by rw [repF_len (by omega)]; omega)]
    unfold repF
    rw [List.getD_eq_getElem?_getD, List.getElem?_append_left (by simp; omega), List.getElem?_replicate, if_pos (by omega)]
    rfl
   obtain ⟨g0, hg0⟩ : ∃ g, g = repF n ni z := ⟨_, rfl⟩
   obtain ⟨g1, hg1⟩ : ∃ g, g = repF n nj z := ⟨_, rfl⟩
   rw [← hg0] at HROW
   simp only [← hg0, ← hg1] at HC3
   have HG1 := Lib.hid hg1
   clear hg0 hg1 hc
   go_upto_region 9 with (fail)
   refine wpIn_wide (n := 5).1 (wpIn_flowM2 (F0 := Fence.wide) (n0 := 5) (fun _ => trivial) (fun h => by cases h) (by kernel_rfl) (by kernel_rfl) 10 10 (by kernel_rfl) (fun j => ([0, 1, 2, 3, 4, 5, 6, 7, 8, 9] : List Nat).getD j 0) (fun j => ([38, 39, 40, 41, 42, 43, 44, 45, 46, 8] : List Nat).getD j 0) (by kernel_rfl) (by kernel_rfl) (by kernel_rfl) (by kernel_rfl) (by kernel_rfl) (by kernel_rfl) (by kernel_rfl) (fun j zv => ([(fun zv => zv = (.int .i64 (ni : Int))), (fun zv => zv = (.slice (some ⟨b, 0, none⟩) n n)), (fun zv => zv = (.int .i64 (ni : Int))), (fun zv => zv = (.slice (some ⟨b, ni, none⟩) (n - ni) (n - ni))), (fun zv => zv = (.slice (some ⟨b, 0, none⟩) n n)), (fun zv => zv = (.int .i64 (ni : Int))), (fun zv => zv = (.slice (some ⟨b, 0, none⟩) ni n)), (fun zv => zv = (.int .i64 (c : Int))), (fun zv => zv = (.int .i64 (nj : Int))), (fun zv => zv = (.int .i64 (nj : Int)))] : List (Value → Prop)).getD j (fun _ => True) zv) (fun d _ W => Clo dpR d ∧ (d 7 = false → RowI W b g0) ∧ (d 7 = true → RowI W b g1) ∧ Below w1.heap.size w1 W) ?h0z ?stepz ?finz)
   case h0z => exact fun _ => ⟨(fun u k h => by cases h), fun _ => HROW.out, (fun h => by cases h), HB.out.drew⟩
   case stepz =>
    intro i o a W d vs hi ho hdi hJ hf hr hF hz
    replace hi : i < 10 := hi
    rcases (show i = 0 ∨ i = 1 ∨ i = 2 ∨ i = 3 ∨ i = 4 ∨ i = 5 ∨ i = 6 ∨ i = 7 ∨ i = 8 ∨ i = 9 by omega) with rfl | rfl | rfl | rfl | rfl | rfl | rfl | rfl | rfl | rfl
    all_goals
     replace ho := op_at ho (by rfl)
     subst ho
    ·have f8 : a.tmps.getD 8 undef = (.int .i64 (ni : Int)) := hz 9 (by decide) (show d 9 = false from by cases h : d 9 with | false => rfl | true => have h1 := hJ.1 8 0 (hJ.1 9 8 h rfl) rfl; rw [hdi] at h1; cases h1)
     exact .inl ⟨(fun k b h => by cases h), .inl ⟨0, by decide, rfl, (.int .i64 (ni : Int)), W, (by simp [go_sem, Act.eval, f8]), rfl, ⟨hJ.1.upd (fun k hk => by simp [dpR] at hk), (fun h => hJ.2.1 (by simpa [updC] using h)), (fun h => hJ.2.2.1 (by simpa [updC] using h)), hJ.2.2.2⟩⟩⟩
    ·have f7 : a.tmps.getD 7 undef = (.slice (some ⟨b, 0, none⟩) n n) := hf 7 (by kernel_rfl)
     exact .inl ⟨(fun k b h => by cases h), .inl ⟨1, by decide, rfl, (.slice (some ⟨b, 0, none⟩) n n), W, (by simp [go_sem, Act.eval, f7]), rfl, ⟨hJ.1.upd (fun k hk => by simp [dpR] at hk), (fun h => hJ.2.1 (by simpa [updC] using h)), (fun h => hJ.2.2.1 (by simpa [updC] using h)), hJ.2.2.2⟩⟩⟩
    ·have f8 : a.tmps.getD 8 undef = (.int .i64 (ni : Int)) := hz 9 (by decide) (show d 9 = false from by cases h : d 9 with | false => rfl | true => have h1 := hJ.1 3 2 (hJ.1 7 3 (hJ.1 8 7 (hJ.1 9 8 h rfl) rfl) rfl) rfl; rw [hdi] at h1; cases h1)
     exact .inl ⟨(fun k b h => by cases h), .inl ⟨2, by decide, rfl, (.int .i64 (ni : Int)), W, (by simp [go_sem, Act.eval, f8]), rfl, ⟨hJ.1.upd (fun k hk => by simp [dpR] at hk), (fun h => hJ.2.1 (by simpa [updC] using h)), (fun h => hJ.2.2.1 (by simpa [updC] using h)), hJ.2.2.2⟩⟩⟩
    ·have d1 : a.tmps.getD 39 undef = (.slice (some ⟨b, 0, none⟩) n n) := fdn (hF 1 (by decide) (hr 1 (by kernel_rfl)))
     have d2 : a.tmps.getD 40 undef = (.int .i64 (ni : Int)) := fdn (hF 2 (by decide) (hr 2 (by kernel_rfl)))
     exact .inl ⟨(fun k b h => by cases h), .inl ⟨3, by decide, rfl, (.slice (some ⟨b, ni, none⟩) (n - ni) (n - ni)), W, (by simp [go_sem, Act.eval, d1, d2, HC1.out]), rfl, ⟨hJ.1.upd (fun k hk => by rcases (show k = 1 ∨ k = 2 by simpa [dpR] using hk) with rfl | rfl <;> exact hr _ (by kernel_rfl)), (fun h => hJ.2.1 (by simpa [updC] using h)), (fun h => hJ.2.2.1 (by simpa [updC] using h)), hJ.2.2.2⟩⟩⟩
    ·have f7 : a.tmps.getD 7 undef = (.slice (some ⟨b, 0, none⟩) n n) := hf 7 (by kernel_rfl)
     exact .inl ⟨(fun k b h => by cases h), .inl ⟨4, by decide, rfl, (.slice (some ⟨b, 0, none⟩) n n), W, (by simp [go_sem, Act.eval, f7]), rfl, ⟨hJ.1.upd (fun k hk => by simp [dpR] at hk), (fun h => hJ.2.1 (by simpa [updC] using h)), (fun h => hJ.2.2.1 (by simpa [updC] using h)), hJ.2.2.2⟩⟩⟩
    ·have f8 : a.tmps.getD 8 undef = (.int .i64 (ni : Int)) := hz 9 (by decide) (show d 9 = false from by cases h : d 9 with | false => rfl | true => have h1 := hJ.1 6 5 (hJ.1 7 6 (hJ.1 8 7 (hJ.1 9 8 h rfl) rfl) rfl) rfl; rw [hdi] at h1; cases h1)
     exact .inl ⟨(fun k b h => by cases h), .inl ⟨5, by decide, rfl, (.int .i64 (ni : Int)), W, (by simp [go_sem, Act.eval, f8]), rfl, ⟨hJ.1.upd (fun k hk => by simp [dpR] at hk), (fun h => hJ.2.1 (by simpa [updC] using h)), (fun h => hJ.2.2.1 (by simpa [updC] using h)), hJ.2.2.2⟩⟩⟩
    ·have d4 : a.tmps.getD 42 undef = (.slice (some ⟨b, 0, none⟩) n n) := fdn (hF 4 (by decide) (hr 4 (by kernel_rfl)))
     have d5 : a.tmps.getD 43 undef = (.int .i64 (ni : Int)) := fdn (hF 5 (by decide) (hr 5 (by kernel_rfl)))
     exact .inl ⟨(fun k b h => by cases h), .inl ⟨6, by decide, rfl, (.slice (some ⟨b, 0, none⟩) ni n), W, (by simp [go_sem, Act.eval, d4, d5, HC2.out]), rfl, ⟨hJ.1.upd (fun k hk => by rcases (show k = 4 ∨ k = 5 by simpa [dpR] using hk) with rfl | rfl <;> exact hr _ (by kernel_rfl)), (fun h => hJ.2.1 (by simpa [updC] using h)), (fun h => hJ.2.2.1 (by simpa [updC] using h)), hJ.2.2.2⟩⟩⟩
    ·have d3 : a.tmps.getD 41 undef = (.slice (some ⟨b, ni, none⟩) (n - ni) (n - ni)) := fdn (hF 3 (by decide) (hr 3 (by kernel_rfl)))
     have d6 : a.tmps.getD 44 undef = (.slice (some ⟨b, 0, none⟩) ni n) := fdn (hF 6 (by decide) (hr 6 (by kernel_rfl)))
     obtain ⟨W2, hrun, hrow, hbw⟩ := HC3.out W 3 (hJ.2.1 hdi) hJ.2.2.2
     exact .inl ⟨(fun k b h => by cases h), .inl ⟨7, by decide, rfl, (.int .i64 (c : Int)), W2, (by simp [execOp, resolve, invoke, builtin, Act.eval, d3, d6, hrun, Result.andThen]), rfl, ⟨hJ.1.upd (fun k hk => by rcases (show k = 3 ∨ k = 6 by simpa [dpR] using hk) with rfl | rfl <;> exact hr _ (by kernel_rfl)), (fun h => by simp [updC] at h), (fun _ => hrow), hbw⟩⟩⟩
    ·have d0 : a.tmps.getD 38 undef = (.int .i64 (ni : Int)) := fdn (hF 0 (by decide) (hr 0 (by kernel_rfl)))
     have d7 : a.tmps.getD 45 undef = (.int .i64 (c : Int)) := fdn (hF 7 (by decide) (hr 7 (by kernel_rfl)))
     exact .inl ⟨(fun k b h => by cases h), .inl ⟨8, by decide, rfl, (.int .i64 (nj : Int)), W, (by simp [go_sem, Act.eval, d0, d7, hij, hwj]), rfl, ⟨hJ.1.upd (fun k hk => by rcases (show k = 0 ∨ k = 7 by simpa [dpR] using hk) with rfl | rfl <;> exact hr _ (by kernel_rfl)), (fun h => hJ.2.1 (by simpa [updC] using h)), (fun h => hJ.2.2.1 (by simpa [updC] using h)), hJ.2.2.2⟩⟩⟩
    ·have d8 : a.tmps.getD 46 undef = (.int .i64 (nj : Int)) := fdn (hF 8 (by decide) (hr 8 (by kernel_rfl)))
     exact .inl ⟨(fun k b h => by cases h), .inl ⟨9, by decide, rfl, (.int .i64 (nj : Int)), W, (by simp [go_sem, Act.eval, d8]), rfl, ⟨hJ.1.upd (fun k hk => by rcases (show k = 8 by simpa [dpR] using hk) with rfl; exact hr _ (by kernel_rfl)), (fun h => hJ.2.1 (by simpa [updC] using h)), (fun h => hJ.2.2.1 (by simpa [updC] using h)), hJ.2.2.2⟩⟩⟩
   case finz =>
    intro d vs Wz hall hJ hF
    have h0 : vs 0 = (.int .i64 (ni : Int)) := hF 0 (by decide)
    have h1 : vs 1 = (.slice (some ⟨b, 0, none⟩) n n) := hF 1 (by decide)
    have h2 : vs 2 = (.int .i64 (ni : Int)) := hF 2 (by decide)
    have h3 : vs 3 = (.slice (some ⟨b, ni, none⟩) (n - ni) (n - ni)) := hF 3 (by decide)
    have h4 : vs 4 = (.slice (some ⟨b, 0, none⟩) n n) := hF 4 (by decide)
    have h5 : vs 5 = (.int .i64 (ni : Int)) := hF 5 (by decide)
    have h6 : vs 6 = (.slice (some ⟨b, 0, none⟩) ni n) := hF 6 (by decide)
    have h7 : vs 7 = (.int .i64 (c : Int)) := hF 7 (by decide)
    have h8 : vs 8 = (.int .i64 (nj : Int)) := hF 8 (by decide)
    have h9 : vs 9 = (.int .i64 (nj : Int)) := hF 9 (by decide)
    clear hF
    have HROW2 := Lib.hid (hJ.2.2.1 (hall 7 (by decide)))
    have HBW := Lib.hid hJ.2.2.2
    clear hJ hall
    show (_ : Exit → Act → World → Prop) Exit.normal (puts _ vs 10 _) Wz
    simp only [puts, h0, h1, h2, h3, h4, h5, h6, h7, h8, h9, List.getD_cons_zero, List.getD_cons_succ]
    clear h0 h1 h2 h3 h4 h5 h6 h7 h8 h9
    simp only [Act.put, List.setIfInBounds_toArray, List.set_cons_succ, List.set_cons_zero]
    go_wp2_with (fail)
    go_roundw
    case rel => exact ⟨nj, by omega, by omega, rfl, (by rw [← HG1.out]; exact HROW2.out), HBW.out⟩
    case measure => simp [intOf] <;> omega
  ·obtain rfl : ni = n := by omega
   go_wp2_with (fail)
   go_ret
   exact ⟨⟨b, rfl, by have h := HROW.out; unfold repF at h; simpa using h, hb⟩, HB.out⟩

end Go.Proofs.Ytenilbofncfbdaa

