/- A region that draws its order, whose operations only read or make memory: whatever the order, each operation yields what is said of it. -/
import Derived.Test.YtgnpjenpehfjbaaDoorRange
import Derived.Test.YtgnpjenpehfjbaaDoorBase
namespace Go.Proofs.YtgnpjenpehfjbaaDoor
open Go.RowKit
variable {P : Program}

/-- what is said of a value stays so while nothing that was there turns -/
def Stays (G : Value → World → Prop) : Prop := ∀ v W W', G v W → Below W.heap.size W W' → G v W'
theorem Stays.eq (x : Value) : Stays (fun v _ => v = x) := fun _ _ _ h _ => h
theorem Stays.tt : Stays (fun _ _ => True) := fun _ _ _ _ _ => trivial

/-- what one operation does -/
def FlowOp (P : Program) (o : Oper) (a : Act) (W : World) (G : Value → World → Prop) : Prop :=
  (∃ v W', (execOp a.eval o).run P W = .ok (.value v) W' ∧ Below W.heap.size W W' ∧ G v W') ∨
  (∃ f args W1, (execOp a.eval o).run P W = .ok (.enter f args) W1 ∧ Below W.heap.size W W1 ∧ Calls P f args W1 fun e W' => ∃ v, e = .returned v ∧ Below W1.heap.size W1 W' ∧ G v W')
theorem FlowOp.pure {o : Oper} {a : Act} {W : World} {G : Value → World → Prop} (v : Value) (h : (execOp a.eval o).run P W = .ok (.value v) W) (g : G v W) : FlowOp P o a W G := .inl ⟨v, W, h, Below.refl _ _, g⟩
theorem FlowOp.call {o : Oper} {a : Act} {W : World} {G : Value → World → Prop} (f : FuncId) (args : Array Value) (h : (execOp a.eval o).run P W = .ok (.enter f args) W) (g : Calls P f args W fun e W' => ∃ v, e = .returned v ∧ Below W.heap.size W W' ∧ G v W') : FlowOp P o a W G :=
  .inr ⟨f, args, W, h, Below.refl _ _, g⟩

theorem op_at {x o y : Oper} (h : x = o) (e : x = y) : o = y := h ▸ e
theorem getD_puts {a : Act} {s t : Nat} {v : Value} (h : t ≠ s) : (a.put (some s) v).tmps.getD t undef = a.tmps.getD t undef := by
  simp only [Act.put, Array.getD_eq_getD_getElem?]
  rw [Array.getElem?_setIfInBounds_ne (Ne.symm h)]
theorem getD_puts_same {a : Act} {s : Nat} {v : Value} (h : s < a.tmps.size) : (a.put (some s) v).tmps.getD s undef = v := by
  simp [Act.put, Array.getD, h]
theorem size_puts (a : Act) (s : Nat) (v : Value) : (a.put (some s) v).tmps.size = a.tmps.size := by simp [Act.put]

/-- the frame behind the region: its operations' slots set, one behind the other -/
def puts (D : Nat → Nat) (vs : Nat → Value) : Nat → Act → Act
  | 0, a => a
  | n + 1, a => (puts D vs n a).put (some (D n)) (vs n)
theorem puts_size (D : Nat → Nat) (vs : Nat → Value) (n : Nat) (a : Act) : (puts D vs n a).tmps.size = a.tmps.size := by
  induction n with
  | zero => rfl
  | succ n ih => rw [puts, size_puts, ih]
theorem puts_defers (D : Nat → Nat) (vs : Nat → Value) (n : Nat) (a : Act) : (puts D vs n a).defers = a.defers := by
  induction n with
  | zero => rfl
  | succ n ih => exact ih
theorem puts_other (D : Nat → Nat) (vs : Nat → Value) (n : Nat) (a : Act) (s : Nat) (h : ∀ i, i < n → D i ≠ s) : (puts D vs n a).tmps.getD s undef = a.tmps.getD s undef := by
  induction n with
  | zero => rfl
  | succ n ih => rw [puts, getD_puts (Ne.symm (h n (by omega)))]; exact ih fun i hi => h i (by omega)
theorem puts_at (D : Nat → Nat) (vs : Nat → Value) (n : Nat) (a : Act) (hs : ∀ i, i < n → D i < a.tmps.size) (hi : ∀ i j, i < n → j < n → D i = D j → i = j) (k : Nat) (hk : k < n) : (puts D vs n a).tmps.getD (D k) undef = vs k := by
  induction n with
  | zero => omega
  | succ n ih =>
    rw [puts]
    by_cases h : k = n
    · subst h
      exact getD_puts_same (by rw [puts_size]; exact hs k (by omega))
    · rw [getD_puts (fun e => h (hi _ _ (by omega) (by omega) e))]
      exact ih (fun i h => hs i (by omega)) (fun i j h1 h2 => hi i j (by omega) (by omega)) (by omega)

theorem act_ext {a b : Act} (hs : a.tmps.size = b.tmps.size) (h : ∀ s, a.tmps.getD s undef = b.tmps.getD s undef) (hd : a.defers = b.defers) : a = b := by
  cases a; cases b
  simp only at hs h hd
  subst hd
  congr 1
  apply Array.ext hs
  intro i h1 h2
  have := h i
  simpa [Array.getD, h1, h2] using this

theorem wp_flow {ops : Array Oper} {Q : Exit → Act → World → Prop} {id : Nat} {a0 : Act} {w : World} (hm : P.follows .mixedOrders = true) (hline : lineUp ops = true)
    (D : Nat → Nat) (hD : ((List.range ops.size).all fun i => (ops.getD i default).dst == some (D i)) = true)
    (hDs : ((List.range ops.size).all fun i => decide (D i < a0.tmps.size)) = true)
    (hDi : ((List.range ops.size).all fun i => (List.range i).all fun j => D i != D j) = true)
    (F : Nat → Value → World → Prop) (hF : ∀ i, i < ops.size → Stays (F i))
    (hstep : ∀ (i : Nat) (o : Oper) (a : Act) (W : World), i < ops.size → ops.getD i default = o → Below w.heap.size w W →
      (∀ s, ((List.range ops.size).all fun j => D j != s) = true → a.tmps.getD s undef = a0.tmps.getD s undef) →
      (∀ j, (o.after.any fun e => Region.binds .any e && e.on == j) = true → F j (a.tmps.getD (D j) undef) W) →
      ((∀ j b, o.guard = some (j, b) → a.tmps.getD (D j) undef = .bool b)) ∧ FlowOp P o a W (F i))
    (hg : ((List.range ops.size).all fun i => match (ops.getD i default).guard with | none => true | some (j, _) => decide (j < i)) = true)
    (hend : ∀ (vs : Nat → Value) (W : World), Below w.heap.size w W → (∀ i, i < ops.size → F i (vs i) W) → Q .normal (puts D vs ops.size a0) W) : (Code.region id ops true).wp P Q a0 w := by
  have hD' : ∀ i o, ops[i]? = some o → o.dst = some (D i) := by
    intro i o ho
    have hi : i < ops.size := (Array.getElem?_eq_some_iff.1 ho).1
    have h1 := List.all_eq_true.1 hD i (List.mem_range.2 hi)
    have h2 : ops.getD i default = o := by
      have := (Array.getElem?_eq_some_iff.1 ho).2
      simp [Array.getD, hi, this]
    rw [h2] at h1
    simpa using h1
  have hDs' : ∀ i, i < ops.size → D i < a0.tmps.size := fun i hi => by simpa using List.all_eq_true.1 hDs i (List.mem_range.2 hi)
  have hDi' : ∀ i j, i < ops.size → j < ops.size → D i = D j → i = j := by
    have key : ∀ i j, i < ops.size → j < i → D i ≠ D j := fun i j hi hj => by
      have h1 := List.all_eq_true.1 hDi i (List.mem_range.2 hi)
      have h2 := List.all_eq_true.1 h1 j (List.mem_range.2 hj)
      simpa using h2
    intro i j hi hj he
    rcases Nat.lt_trichotomy i j with h | h | h
    · exact absurd he.symm (key j i hj h)
    · exact h
    · exact absurd he (key i j hi h)
  refine wpIn_wide (n := 5).1 (wpIn_region_inv hm hline (fun d a W => Below w.heap.size w W ∧ a.tmps.size = a0.tmps.size ∧ a.defers = a0.defers ∧
    (∀ s, (∀ j, j < ops.size → D j ≠ s) → a.tmps.getD s undef = a0.tmps.getD s undef) ∧ (∀ i, i < ops.size → d i = true → F i (a.tmps.getD (D i) undef) W)) ?_ ?_ ?_)
  · exact ⟨⟨rfl, rfl, rfl, Nat.le_refl _, fun _ _ => rfl⟩, rfl, rfl, fun _ _ => rfl, fun _ _ h => (by cases h)⟩
  · rintro d d' i o a W hdep ⟨hB, hsz, hdf, hfr, hFd⟩ ho hdi hd'i hdne hready
    have hi : i < ops.size := (Array.getElem?_eq_some_iff.1 ho).1
    have hgo : ops.getD i default = o := by
      have := (Array.getElem?_eq_some_iff.1 ho).2
      simp [Array.getD, hi, this]
    have hfr' : ∀ s, ((List.range ops.size).all fun j => D j != s) = true → a.tmps.getD s undef = a0.tmps.getD s undef := fun s hs => hfr s fun j hj => by
      have := List.all_eq_true.1 hs j (List.mem_range.2 hj)
      simpa using this
    have hon : ∀ e, e ∈ o.after → Region.binds .any e = true → e.on < ops.size := fun e he hb => by
      have h1 := List.all_eq_true.1 hline i (List.mem_range.2 hi)
      rw [hgo] at h1
      have h3 := (Array.all_eq_true_iff_forall_mem.1 h1) e he
      rw [hb] at h3
      have h4 : e.on < i := by simpa using h3
      omega
    obtain ⟨hgd, hop⟩ := hstep i o a W hi hgo hB hfr' (fun j hj => by
      obtain ⟨k, hk, hbk⟩ := Array.any_eq_true.1 hj
      simp only [Bool.and_eq_true, beq_iff_eq] at hbk
      obtain ⟨hb, rfl⟩ := hbk
      exact hFd _ (hon _ (Array.getElem_mem hk) hb) (hready _ (Array.getElem_mem hk) hb))
    have hw : Region.wanted o (yielded ops a.tmps) = true := by
      unfold Region.wanted
      cases hgg : o.guard with
      | none => rfl
      | some p =>
        obtain ⟨j, b⟩ := p
        have h1 := List.all_eq_true.1 hg i (List.mem_range.2 hi)
        rw [hgo, hgg] at h1
        have hji : j < i := by simpa using h1
        have hj : j < ops.size := by omega
        have h2 := hgd j b hgg
        have h3 : ops[j]? = some ops[j] := by simp [hj]
        have h4 := hD' j _ h3
        have h5 : D j < a.tmps.size := by rw [hsz]; exact hDs' j hj
        have h6 : a.tmps[D j]? = some (.bool b) := by
          simp only [Array.getD_eq_getD_getElem?] at h2
          rw [Array.getElem?_eq_getElem h5] at h2 ⊢
          simpa using h2
        simp [yielded, h3, h4, h6]
    unfold wpOpIn
    rw [ho]
    simp only
    rw [if_pos hw]
    refine ⟨fun f _ => trivial, ?_⟩
    rw [show Fence.wide.round = none from rfl, Oper.semAt_none, hD' i o ho |> fun h => (by rfl : (execOp a.eval o) = execOp a.eval o)]
    have fin : ∀ v W', Below W.heap.size W W' → F i v W' → (Below w.heap.size w W' ∧ (a.put o.dst v).tmps.size = a0.tmps.size ∧ (a.put o.dst v).defers = a0.defers ∧
        (∀ s, (∀ j, j < ops.size → D j ≠ s) → (a.put o.dst v).tmps.getD s undef = a0.tmps.getD s undef) ∧ (∀ k, k < ops.size → d' k = true → F k ((a.put o.dst v).tmps.getD (D k) undef) W')) := by
      intro v W' hB' hv
      rw [hD' i o ho]
      refine ⟨hB.trans (hB'.mono hB.size), by rw [size_puts]; exact hsz, hdf, fun s hs => by rw [getD_puts (Ne.symm (hs i hi))]; exact hfr s hs, fun k hk hdk => ?_⟩
      by_cases hki : k = i
      · subst hki
        rw [getD_puts_same (by rw [hsz]; exact hDs' k hk)]
        exact hv
      · rw [getD_puts (fun e => hki (hDi' _ _ hk hi e))]
        exact hF k hk _ _ _ (hFd k hk (by rw [← hdne k hki]; exact hdk)) hB'
    rcases hop with ⟨v, W', hrun, hB', hv⟩ | ⟨f, args, W1, hrun, hB1, hcall⟩
    · rw [hrun]
      exact fin v W' hB' hv
    · rw [hrun]
      refine ⟨fun h => (by cases h), (callsIn_wide.2 hcall).mono ?_⟩
      rintro e W' ⟨v, rfl, hB', hv⟩
      exact fin v W' (hB1.trans (hB'.mono hB1.size)) hv
  · rintro d a W ⟨hB, hsz, hdf, hfr, hFd⟩ hall
    have he : a = puts D (fun i => a.tmps.getD (D i) undef) ops.size a0 := by
      refine act_ext (by rw [puts_size]; exact hsz) (fun s => ?_) (by rw [puts_defers]; exact hdf)
      by_cases hs : ∃ j, j < ops.size ∧ D j = s
      · obtain ⟨j, hj, rfl⟩ := hs
        rw [puts_at D _ ops.size a0 hDs' hDi' j hj]
      · rw [puts_other _ _ _ _ _ (fun i hi h => hs ⟨i, hi, h⟩)]
        exact hfr s fun j hj h => hs ⟨j, hj, h⟩
    rw [he]
    exact hend _ W hB fun i hi => hFd i hi (hall i hi)

end Go.Proofs.YtgnpjenpehfjbaaDoor
