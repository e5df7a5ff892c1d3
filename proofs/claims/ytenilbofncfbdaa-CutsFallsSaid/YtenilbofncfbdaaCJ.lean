/- Cuts: searched, Bridges, Joints: walked (by program: wip/tools/gen_cv2.py).
Cuts: Bridges, Joints, Blocks: walked (by program: wip/tools/gen_cv3.py). -/
import Derived.Test.YtenilbofncfbdaaCI
import Derived.Test.YtenilbofncfbdaaCD
import Derived.Laws.EntriesVeiled
import Derived.Test.YtenilbofncfbdaaCH
set_option linter.unusedSimpArgs false
set_option linter.unusedVariables false
namespace Go.Proofs.Ytenilbofncfbdaa
open Go.RowKit

def MadeI (w1 : World) (n : Nat) (v : Value) (W : World) : Prop := ∃ p, v = .slice (some ⟨p, 0, none⟩) n n ∧ RowI W p (List.replicate n 0) ∧ w1.heap.size ≤ p
def MadeB (w1 : World) (n : Nat) (v : Value) (W : World) : Prop := ∃ p, v = .slice (some ⟨p, 0, none⟩) n n ∧ RowB W p (List.replicate n false) ∧ w1.heap.size ≤ p
def Apart (v u : Value) : Prop := ∀ p q k l, v = .slice (some ⟨p, 0, none⟩) k k → u = .slice (some ⟨q, 0, none⟩) l l → p ≠ q
theorem MadeI.keep {w1 : World} {n : Nat} {v : Value} {W W' : World} (h : MadeI w1 n v W) (hb : Below W.heap.size W W') : MadeI w1 n v W' := by
 obtain ⟨p, h1, h2, h3⟩ := h; exact ⟨p, h1, h2.keep hb, h3⟩
theorem MadeB.keep {w1 : World} {n : Nat} {v : Value} {W W' : World} (h : MadeB w1 n v W) (hb : Below W.heap.size W W') : MadeB w1 n v W' := by
 obtain ⟨p, h1, h2, h3⟩ := h; exact ⟨p, h1, h2.keep hb, h3⟩
structure SJ (w1 : World) (lv : Value) (n m : Nat) (d : Nat → Bool) (vs : Nat → Value) (W : World) : Prop where
 low : Below w1.heap.size w1 W
 h2 : d 2 = true → MadeI w1 n (vs 2) W
 h4 : d 4 = true → MadeI w1 n (vs 4) W
 h7 : d 7 = true → MadeB w1 m (vs 7) W
 h9 : d 9 = true → MadeB w1 n (vs 9) W
 n1 : d 2 = true → d 4 = true → Apart (vs 2) (vs 4)
 n2 : d 7 = true → d 9 = true → Apart (vs 7) (vs 9)
 h10 : d 10 = true → d 2 = true ∧ d 4 = true ∧ d 7 = true ∧ d 9 = true ∧ vs 10 = .agg #[lv, vs 2, vs 4, .int .i64 0, vs 7, vs 9]
 h11 : d 11 = true → d 10 = true ∧ ∃ p, vs 11 = .pointer (some ⟨p, 0, none⟩) ∧ W.heap[p]? = some (.cells #[lv, vs 2, vs 4, .int .i64 0, vs 7, vs 9] 62 (0, 0)) ∧ w1.heap.size ≤ p
 h12 : d 12 = true → ∃ p x, vs 12 = .pointer (some ⟨p, 0, none⟩) ∧ W.heap[p]? = some (.cells #[x] 59 (0, 0)) ∧ w1.heap.size ≤ p ∧ (d 13 = true → x = vs 11)
 h13 : d 13 = true → d 11 = true ∧ d 12 = true
section
variable {w1 : World} {lv : Value} {n m : Nat} {d : Nat → Bool} {vs : Nat → Value} {W : World}
theorem SJ.start (w1 : World) (lv : Value) (n m : Nat) (vs : Nat → Value) : SJ w1 lv n m (fun _ => false) vs w1.drew :=
 ⟨(Below.refl _ _).drew, (fun h => by cases h), (fun h => by cases h), (fun h => by cases h), (fun h => by cases h), (fun h => by cases h), (fun h => by cases h), (fun h => by cases h), (fun h => by cases h), (fun h => by cases h), (fun h => by cases h)⟩
theorem SJ.grow {W' : World} (h : SJ w1 lv n m d vs W) (hb : Below W.heap.size W W') : SJ w1 lv n m d vs W' :=
 ⟨h.low.trans (hb.mono h.low.size), fun e => (h.h2 e).keep hb, fun e => (h.h4 e).keep hb, fun e => (h.h7 e).keep hb, fun e => (h.h9 e).keep hb, h.n1, h.n2, h.h10, fun e => by obtain ⟨a, p, b, c, f⟩ := h.h11 e; exact ⟨a, p, b, stays c hb, f⟩, fun e => by obtain ⟨p, x, b, c, f⟩ := h.h12 e; exact ⟨p, x, b, stays c hb, f⟩, h.h13⟩
/-- an operation i that is done: all that speaks of others stays -/
theorem SJ.upd (h : SJ w1 lv n m d vs W) (i : Nat) (v : Value) (hd : d i = false)
  (a2 : i = 2 → MadeI w1 n v W ∧ ∀ u, d 4 = true → vs 4 = u → Apart v u) (a4 : i = 4 → MadeI w1 n v W ∧ ∀ u, d 2 = true → vs 2 = u → Apart u v)
  (a7 : i = 7 → MadeB w1 m v W ∧ ∀ u, d 9 = true → vs 9 = u → Apart v u) (a9 : i = 9 → MadeB w1 n v W ∧ ∀ u, d 7 = true → vs 7 = u → Apart u v)
  (a10 : i = 10 → d 2 = true ∧ d 4 = true ∧ d 7 = true ∧ d 9 = true ∧ v = .agg #[lv, vs 2, vs 4, .int .i64 0, vs 7, vs 9])
  (a11 : i = 11 → d 10 = true ∧ ∃ p, v = .pointer (some ⟨p, 0, none⟩) ∧ W.heap[p]? = some (.cells #[lv, vs 2, vs 4, .int .i64 0, vs 7, vs 9] 62 (0, 0)) ∧ w1.heap.size ≤ p)
  (a12 : i = 12 → ∃ p x, v = .pointer (some ⟨p, 0, none⟩) ∧ W.heap[p]? = some (.cells #[x] 59 (0, 0)) ∧ w1.heap.size ≤ p) (h13 : i ≠ 13) : SJ w1 lv n m (updC d i) (updW vs i v) W := by
 have dC : ∀ j, updC d i j = true → j = i ∨ (j ≠ i ∧ d j = true) := fun j e => by
  by_cases c : j = i
  ·exact .inl c
  ·rw [updC_ne c] at e; exact .inr ⟨c, e⟩
 have key0 : ∀ j, d j = true → updC d i j = true := fun j e => by
  unfold updC
  by_cases c : j = i
  ·rw [if_pos c]
  ·rw [if_neg c]; exact e
 refine ⟨h.low, fun e => ?_, fun e => ?_, fun e => ?_, fun e => ?_, fun e e' => ?_, fun e e' => ?_, fun e => ?_, fun e => ?_, fun e => ?_, fun e => ?_⟩
 ·rcases dC _ e with c | ⟨c, e2⟩
  ·rw [← c, updW_eq]; exact (a2 c.symm).1
  ·rw [updW_ne c]; exact h.h2 e2
 ·rcases dC _ e with c | ⟨c, e2⟩
  ·rw [← c, updW_eq]; exact (a4 c.symm).1
  ·rw [updW_ne c]; exact h.h4 e2
 ·rcases dC _ e with c | ⟨c, e2⟩
  ·rw [← c, updW_eq]; exact (a7 c.symm).1
  ·rw [updW_ne c]; exact h.h7 e2
 ·rcases dC _ e with c | ⟨c, e2⟩
  ·rw [← c, updW_eq]; exact (a9 c.symm).1
  ·rw [updW_ne c]; exact h.h9 e2
 ·rcases dC _ e with c | ⟨c, e2⟩ <;> rcases dC _ e' with c' | ⟨c', e2'⟩
  ·omega
  ·rw [updW_ne c', ← c, updW_eq]; exact (a2 c.symm).2 _ e2' rfl
  ·rw [updW_ne c, ← c', updW_eq]; exact (a4 c'.symm).2 _ e2 rfl
  ·rw [updW_ne c, updW_ne c']; exact h.n1 e2 e2'
 ·rcases dC _ e with c | ⟨c, e2⟩ <;> rcases dC _ e' with c' | ⟨c', e2'⟩
  ·omega
  ·rw [updW_ne c', ← c, updW_eq]; exact (a7 c.symm).2 _ e2' rfl
  ·rw [updW_ne c, ← c', updW_eq]; exact (a9 c'.symm).2 _ e2 rfl
  ·rw [updW_ne c, updW_ne c']; exact h.n2 e2 e2'
 ·have key := key0
  rcases dC _ e with c | ⟨c, e2⟩
  ·obtain ⟨b2, b4, b7, b9, bv⟩ := a10 c.symm
   rw [← c, updW_eq, updW_ne (by omega), updW_ne (by omega), updW_ne (by omega), updW_ne (by omega)]
   rw [← c] at key
   exact ⟨key _ b2, key _ b4, key _ b7, key _ b9, bv⟩
  ·obtain ⟨b2, b4, b7, b9, bv⟩ := h.h10 e2
   have ne : ∀ j, d j = true → j ≠ i := fun j e c => by rw [c, hd] at e; cases e
   rw [updW_ne c, updW_ne (ne 2 b2), updW_ne (ne 4 b4), updW_ne (ne 7 b7), updW_ne (ne 9 b9)]
   exact ⟨key _ b2, key _ b4, key _ b7, key _ b9, bv⟩
 ·have key := key0
  have ne : ∀ j, d j = true → j ≠ i := fun j e c => by rw [c, hd] at e; cases e
  rcases dC _ e with c | ⟨c, e2⟩
  ·obtain ⟨b, p, c1, c2, c3⟩ := a11 c.symm
   obtain ⟨b2, b4, b7, b9, bv⟩ := h.h10 b
   rw [updW_ne (ne 2 b2), updW_ne (ne 4 b4), updW_ne (ne 7 b7), updW_ne (ne 9 b9)]
   refine ⟨key _ b, p, ?_, c2, c3⟩
   rw [← c, updW_eq]; exact c1
  ·obtain ⟨b, p, c1, c2, c3⟩ := h.h11 e2
   obtain ⟨b2, b4, b7, b9, bv⟩ := h.h10 b
   rw [updW_ne c, updW_ne (ne 2 b2), updW_ne (ne 4 b4), updW_ne (ne 7 b7), updW_ne (ne 9 b9)]
   exact ⟨key _ b, p, c1, c2, c3⟩
 ·rcases dC _ e with c | ⟨c, e2⟩
  ·obtain ⟨p, x, c1, c2, c3⟩ := a12 c.symm
   refine ⟨p, x, by rw [← c, updW_eq]; exact c1, c2, c3, fun e3 => ?_⟩
   rw [updC_ne (Ne.symm h13)] at e3
   have := (h.h13 e3).2
   rw [c, hd] at this
   cases this
  ·obtain ⟨p, x, c1, c2, c3, c4⟩ := h.h12 e2
   refine ⟨p, x, by rw [updW_ne c]; exact c1, c2, c3, fun e3 => ?_⟩
   rw [updC_ne (Ne.symm h13)] at e3
   have h11 := (h.h13 e3).1
   rw [updW_ne (fun c5 => by rw [c5, hd] at h11; cases h11)]
   exact c4 e3
 ·rw [updC_ne (Ne.symm h13)] at e
  obtain ⟨a, b⟩ := h.h13 e
  have key := key0
  exact ⟨key _ a, key _ b⟩
theorem SJ.quiet (h : SJ w1 lv n m d vs W) (i : Nat) (v : Value) (hd : d i = false) (hi : i = 0 ∨ i = 1 ∨ i = 3 ∨ i = 5 ∨ i = 6 ∨ i = 8) : SJ w1 lv n m (updC d i) (updW vs i v) W :=
 h.upd i v hd (fun e => by omega) (fun e => by omega) (fun e => by omega) (fun e => by omega) (fun e => by omega) (fun e => by omega) (fun e => by omega) (by omega)
theorem apart_new {w1 W : World} {k : Nat} {u : Value} {b : Nat} (h : ∃ p l, u = .slice (some ⟨p, 0, none⟩) l l ∧ p < W.heap.size) (hb : W.heap.size ≤ b) : Apart (.slice (some ⟨b, 0, none⟩) k k) u ∧ Apart u (.slice (some ⟨b, 0, none⟩) k k) := by
 obtain ⟨p, l, rfl, hp⟩ := h
 refine ⟨fun p' q' _ _ e1 e2 => ?_, fun p' q' _ _ e1 e2 => ?_⟩
 ·injection e1 with e1; injection e1 with e1; injection e1 with e1
  injection e2 with e2; injection e2 with e2; injection e2 with e2
  omega
 ·injection e1 with e1; injection e1 with e1; injection e1 with e1
  injection e2 with e2; injection e2 with e2; injection e2 with e2
  omega
theorem MadeI.lt {v : Value} (h : MadeI w1 n v W) : ∃ p l, v = .slice (some ⟨p, 0, none⟩) l l ∧ p < W.heap.size := by obtain ⟨p, h1, h2, -⟩ := h; exact ⟨p, _, h1, h2.lt⟩
theorem MadeB.lt {v : Value} (h : MadeB w1 n v W) : ∃ p l, v = .slice (some ⟨p, 0, none⟩) l l ∧ p < W.heap.size := by obtain ⟨p, h1, h2, -⟩ := h; exact ⟨p, _, h1, h2.lt⟩
theorem SJ.at24 (h : SJ w1 lv n m d vs W) (i : Nat) (hi : i = 2 ∨ i = 4) (hd : d i = false) : SJ w1 lv n m (updC d i) (updW vs i (.slice (some ⟨W.heap.size, 0, none⟩) n n)) (W.alloc (.cells (madeCells #[.int .i64 0] n) 3)) := by
 have m1 := new_block W (.cells (madeCells #[.int .i64 0] n) 3)
 have hg := h.grow m1.1
 have hm : MadeI w1 n (.slice (some ⟨W.heap.size, 0, none⟩) n n) (W.alloc (.cells (madeCells #[.int .i64 0] n) 3)) := ⟨_, rfl, made_int W n, h.low.size⟩
 exact hg.upd i _ hd (fun _ => ⟨hm, fun u e hu => (apart_new (w1 := w1) (by rw [← hu]; exact (h.h4 e).lt) (Nat.le_refl _)).1⟩) (fun _ => ⟨hm, fun u e hu => (apart_new (w1 := w1) (by rw [← hu]; exact (h.h2 e).lt) (Nat.le_refl _)).2⟩) (fun e => by omega) (fun e => by omega) (fun e => by omega) (fun e => by omega) (fun e => by omega) (by omega)
theorem SJ.at7 (h : SJ w1 lv n m d vs W) (hd : d 7 = false) : SJ w1 lv n m (updC d 7) (updW vs 7 (.slice (some ⟨W.heap.size, 0, none⟩) m m)) (W.alloc (.cells (madeCells #[.bool false] m) 4)) := by
 have m1 := new_block W (.cells (madeCells #[.bool false] m) 4)
 have hg := h.grow m1.1
 have hm : MadeB w1 m (.slice (some ⟨W.heap.size, 0, none⟩) m m) (W.alloc (.cells (madeCells #[.bool false] m) 4)) := ⟨_, rfl, made_bool W m, h.low.size⟩
 exact hg.upd 7 _ hd (fun e => by omega) (fun e => by omega) (fun _ => ⟨hm, fun u e hu => (apart_new (w1 := w1) (by rw [← hu]; exact (h.h9 e).lt) (Nat.le_refl _)).1⟩) (fun e => by omega) (fun e => by omega) (fun e => by omega) (fun e => by omega) (by omega)
theorem SJ.at9 (h : SJ w1 lv n m d vs W) (hd : d 9 = false) : SJ w1 lv n m (updC d 9) (updW vs 9 (.slice (some ⟨W.heap.size, 0, none⟩) n n)) (W.alloc (.cells (madeCells #[.bool false] n) 4)) := by
 have m1 := new_block W (.cells (madeCells #[.bool false] n) 4)
 have hg := h.grow m1.1
 have hm : MadeB w1 n (.slice (some ⟨W.heap.size, 0, none⟩) n n) (W.alloc (.cells (madeCells #[.bool false] n) 4)) := ⟨_, rfl, made_bool W n, h.low.size⟩
 exact hg.upd 9 _ hd (fun e => by omega) (fun e => by omega) (fun e => by omega) (fun _ => ⟨hm, fun u e hu => (apart_new (w1 := w1) (by rw [← hu]; exact (h.h7 e).lt) (Nat.le_refl _)).2⟩) (fun e => by omega) (fun e => by omega) (fun e => by omega) (by omega)
theorem SJ.at10 (h : SJ w1 lv n m d vs W) (hd : d 10 = false) (b : d 2 = true ∧ d 4 = true ∧ d 7 = true ∧ d 9 = true) : SJ w1 lv n m (updC d 10) (updW vs 10 (.agg #[lv, vs 2, vs 4, .int .i64 0, vs 7, vs 9])) W :=
 h.upd 10 _ hd (fun e => by omega) (fun e => by omega) (fun e => by omega) (fun e => by omega) (fun _ => ⟨b.1, b.2.1, b.2.2.1, b.2.2.2, rfl⟩) (fun e => by omega) (fun e => by omega) (by omega)
theorem SJ.at11 (h : SJ w1 lv n m d vs W) (hd : d 11 = false) (b : d 10 = true) : SJ w1 lv n m (updC d 11) (updW vs 11 (.pointer (some ⟨W.heap.size, 0, none⟩))) (W.alloc (.cells #[lv, vs 2, vs 4, .int .i64 0, vs 7, vs 9] 62)) := by
 have m1 := new_block W (.cells #[lv, vs 2, vs 4, .int .i64 0, vs 7, vs 9] 62)
 exact (h.grow m1.1).upd 11 _ hd (fun e => by omega) (fun e => by omega) (fun e => by omega) (fun e => by omega) (fun e => by omega) (fun _ => ⟨b, _, rfl, m1.2, h.low.size⟩) (fun e => by omega) (by omega)
theorem SJ.at12 (h : SJ w1 lv n m d vs W) (hd : d 12 = false) (x : Value) : SJ w1 lv n m (updC d 12) (updW vs 12 (.pointer (some ⟨W.heap.size, 0, none⟩))) (W.alloc (.cells #[x] 59)) := by
 have m1 := new_block W (.cells #[x] 59)
 exact (h.grow m1.1).upd 12 _ hd (fun e => by omega) (fun e => by omega) (fun e => by omega) (fun e => by omega) (fun e => by omega) (fun e => by omega) (fun _ => ⟨_, x, rfl, m1.2, h.low.size⟩) (by omega)
theorem SJ.at13 (h : SJ w1 lv n m d vs W) (b11 : d 11 = true) (b12 : d 12 = true) {p : Nat} (hp : vs 12 = .pointer (some ⟨p, 0, none⟩)) : SJ w1 lv n m (updC d 13) vs (W.setCell ⟨p, 0, none⟩ (vs 11)) := by
 obtain ⟨p', x, c1, c2, c3, -⟩ := h.h12 b12
 rw [hp] at c1
 injection c1 with c1; injection c1 with c1; injection c1 with c1
 subst c1
 have e : ∀ c, c ≠ p → (W.setCell ⟨p, 0, none⟩ (vs 11)).heap[c]? = W.heap[c]? := fun c h1 => Below.heap_setCell _ _ _ _ h1
 refine ⟨bel_set c3 h.low, ?_, ?_, ?_, ?_, ?_, ?_, ?_, ?_, ?_, fun _ => ?_⟩
 ·rw [updC_ne (by omega)]; intro e1; obtain ⟨q, a, b, c⟩ := h.h2 e1; exact ⟨q, a, b.of (e q (blk_ne b c2 (by decide))), c⟩
 ·rw [updC_ne (by omega)]; intro e1; obtain ⟨q, a, b, c⟩ := h.h4 e1; exact ⟨q, a, b.of (e q (blk_ne b c2 (by decide))), c⟩
 ·rw [updC_ne (by omega)]; intro e1; obtain ⟨q, a, b, c⟩ := h.h7 e1; exact ⟨q, a, b.of (e q (blk_ne b c2 (by decide))), c⟩
 ·rw [updC_ne (by omega)]; intro e1; obtain ⟨q, a, b, c⟩ := h.h9 e1; exact ⟨q, a, b.of (e q (blk_ne b c2 (by decide))), c⟩
 ·rw [updC_ne (by omega), updC_ne (by omega)]; exact h.n1
 ·rw [updC_ne (by omega), updC_ne (by omega)]; exact h.n2
 ·rw [updC_ne (by omega), updC_ne (by omega), updC_ne (by omega), updC_ne (by omega), updC_ne (by omega)]; exact h.h10
 ·rw [updC_ne (by omega), updC_ne (by omega)]
  intro e1
  obtain ⟨a, q, b, c, f⟩ := h.h11 e1
  exact ⟨a, q, b, (e q (blk_ne c c2 (by decide))).trans c, f⟩
 ·rw [updC_ne (by omega)]
  intro _
  refine ⟨p, vs 11, hp, ?_, c3, fun _ => rfl⟩
  simp [World.setCell, Array.getElem?_modify, c2]
 ·rw [updC_ne (by omega), updC_ne (by omega)]; exact ⟨b11, b12⟩
end

theorem exec_build {P : Program} {o : Oper} {a : Act} {W : World} (t : TypeId) (parts : Array (Nat × Operand)) (ho : o.op = .build t parts) (ps : Array (Nat × Value)) (hp : (parts.map fun (i, x) => (i, a.eval x)) = ps) (v : Value) (W' : World) (hr : (Instr.build t ps).run P W = .ok v W') : (execOp a.eval o).run P W = .ok (.value v) W' := by
 subst hp
 unfold execOp
 simp only [ho, Sem.run_bind, hr, Result.andThen_ok]
 rfl
theorem build_search (W : World) (ao : Option Addr) (m cap n p2 p4 p7 p9 : Nat) : (Instr.build 62 #[(0, .slice ao m cap), (1, .slice (some ⟨p2, 0, none⟩) n n), (2, .slice (some ⟨p4, 0, none⟩) n n), (4, .slice (some ⟨p7, 0, none⟩) m m), (5, .slice (some ⟨p9, 0, none⟩) n n)]).run Try.prog W = .ok (.agg #[.slice ao m cap, .slice (some ⟨p2, 0, none⟩) n n, .slice (some ⟨p4, 0, none⟩) n n, .int .i64 0, .slice (some ⟨p7, 0, none⟩) m m, .slice (some ⟨p9, 0, none⟩) n n]) W := by kernel_rfl
/-- the search's answer in memory -/
def SA (L : Prs) (n : Nat) (lv : Value) (sb eb jb : Nat) (W : World) : Prop :=
 (∃ x1 x2 x3, W.heap[sb]? = some (.cells #[lv, x1, x2, x3, .slice (some ⟨eb, 0, none⟩) L.length L.length, .slice (some ⟨jb, 0, none⟩) n n] 62 (0, 0))) ∧ RowB W eb (searchD L n).br ∧ RowB W jb (searchD L n).jo
/-- in the loop over the roots -/
def RL (w : World) (lv : Value) (n : Nat) (L : Prs) (sb mb qb eb jb b2 b3 b4 v : Nat) (W : World) : Prop :=
 ∃ s, s = (List.range v).foldl (rootD L n) ⟨List.replicate n 0, List.replicate n 0, 0, List.replicate L.length false, List.replicate n false⟩ ∧ SW w.heap.size lv n L sb mb qb eb jb b2 b3 b4 s W ∧ DW n L.length s ∧ Below w.heap.size w W

set_option maxRecDepth 100000 in
set_option maxHeartbeats 8000000 in
theorem searched_any (w : World) (lv : Value) (n : Nat) (L : Prs) (hl : Lis w w.heap.size lv L) (hf : FitL n L) (hL : L.length ≤ 1000) (hn : n ≤ 16) :
  Calls Try.prog 37 #[.int .i64 (n : Int), lv] w fun e w' => (∃ sb eb jb, e = .returned (.pointer (some ⟨sb, 0, none⟩)) ∧ SA L n lv sb eb jb w') ∧ Below w.heap.size w w' := by
 obtain ⟨ao, cap, hlv, hcap, hcl⟩ := hl.slice
 have HLS := Lib.hid hl
 have HF := Lib.hid hf
 have HL1 := Lib.hid hL
 obtain ⟨m, hm⟩ : ∃ m, m = L.length := ⟨_, rfl⟩
 have HM := Lib.hid hm
 rw [← hm] at hlv hcap hcl hL
 have g1 := new_block w (.cells #[lv] 22)
 have z1 : (w.alloc (.cells #[lv] 22)).heap.size = w.heap.size + 1 := by simp
 have HG1 := Lib.hid g1
 have HZ1 := Lib.hid z1
 subst hlv
 clear hl hf hm g1 z1
 go_enter Try.func37, Try.ntmps37
 go_wp2_with (fail)
 obtain ⟨b3, hb3⟩ : ∃ q, q = w.heap.size := ⟨_, rfl⟩
 obtain ⟨w1, hw1⟩ : ∃ W, W = w.alloc (.cells #[.slice ao m cap] 22) := ⟨_, rfl⟩
 rw [← hw1] at HG1 HZ1 ⊢
 have HB3 := Lib.hid hb3
 rw [← hb3]
 have HC3 : Hid (∀ W, Below w1.heap.size w1 W → W.cell? ⟨b3, 0, none⟩ = some (.slice ao m cap)) := fun W hW => by
  have h0 := HG1.out.2
  rw [← HB3.out] at h0
  exact cell_of_row _ _ 0 _ _ _ (stays h0 hW)
 clear hw1 hb3
 refine wpIn_wide (n := 5).1 (wpIn_flowM (F0 := Fence.wide) (n0 := 5) (fun _ => trivial) (fun h => by cases h) (by kernel_rfl) (by kernel_rfl) 14 13 (by kernel_rfl) (fun j => ([0, 1, 2, 3, 4, 5, 6, 7, 8, 9, 10, 11, 12] : List Nat).getD j 0) (fun j => ([8, 9, 10, 11, 12, 13, 14, 15, 16, 17, 18, 19, 5] : List Nat).getD j 0) (by kernel_rfl) (by kernel_rfl) (by kernel_rfl) (by kernel_rfl) (by kernel_rfl) (by kernel_rfl) (by kernel_rfl) (fun j zv => ([(fun zv => zv = (.slice ao m cap)), (fun zv => zv = (.int .i64 (n : Int))), (fun zv => ∃ p, zv = .slice (some ⟨p, 0, none⟩) n n), (fun zv => zv = (.int .i64 (n : Int))), (fun zv => ∃ p, zv = .slice (some ⟨p, 0, none⟩) n n), (fun zv => zv = (.slice ao m cap)), (fun zv => zv = (.int .i64 (m : Int))), (fun zv => ∃ p, zv = .slice (some ⟨p, 0, none⟩) m m), (fun zv => zv = (.int .i64 (n : Int))), (fun zv => ∃ p, zv = .slice (some ⟨p, 0, none⟩) n n), (fun zv => ∃ p2 p4 p7 p9, zv = .agg #[.slice ao m cap, .slice (some ⟨p2, 0, none⟩) n n, .slice (some ⟨p4, 0, none⟩) n n, .int .i64 0, .slice (some ⟨p7, 0, none⟩) m m, .slice (some ⟨p9, 0, none⟩) n n]), (fun zv => ∃ p, zv = .pointer (some ⟨p, 0, none⟩)), (fun zv => ∃ p, zv = .pointer (some ⟨p, 0, none⟩))] : List (Value → Prop)).getD j (fun _ => True) zv) (fun d vs W => SJ w1 (.slice ao m cap) n m d vs W) ?h0z ?stepz ?finz)
 case h0z => exact fun vs => SJ.start _ _ _ _ vs
 case stepz =>
  intro i o a W d vs hi ho hdi hJ hf hr hF
  replace hi : i < 14 := hi
  rcases (show i = 0 ∨ i = 1 ∨ i = 2 ∨ i = 3 ∨ i = 4 ∨ i = 5 ∨ i = 6 ∨ i = 7 ∨ i = 8 ∨ i = 9 ∨ i = 10 ∨ i = 11 ∨ i = 12 ∨ i = 13 by omega) with rfl | rfl | rfl | rfl | rfl | rfl | rfl | rfl | rfl | rfl | rfl | rfl | rfl | rfl
  all_goals
   replace ho := op_at ho (by rfl)
   subst ho
  ·have f3 : a.tmps.getD 3 undef = (.pointer (some ⟨b3, 0, none⟩)) := hf 3 (by kernel_rfl)
   have c3 := HC3.out W hJ.low
   exact .inl ⟨(fun k b h => by cases h), .inl ⟨0, by decide, rfl, (.slice ao m cap), W, (by simp [go_sem, Act.eval, f3, c3]), rfl, hJ.quiet 0 _ hdi (by omega)⟩⟩
  ·have f0 : a.tmps.getD 0 undef = (.int .i64 (n : Int)) := hf 0 (by kernel_rfl)
   exact .inl ⟨(fun k b h => by cases h), .inl ⟨1, by decide, rfl, (.int .i64 (n : Int)), W, (by simp [go_sem, Act.eval, f0]), rfl, hJ.quiet 1 _ hdi (by omega)⟩⟩
  ·have d1 : a.tmps.getD 9 undef = (.int .i64 (n : Int)) := fdn (hF 1 (by decide) (hr 1 (by kernel_rfl)))
   exact .inl ⟨(fun k b h => by cases h), .inl ⟨2, by decide, rfl, _, _, (by simp [go_sem, Act.eval, d1, run_make_int n (by omega) W]), ⟨_, rfl⟩, hJ.at24 2 (by omega) hdi⟩⟩
  ·have f0 : a.tmps.getD 0 undef = (.int .i64 (n : Int)) := hf 0 (by kernel_rfl)
   exact .inl ⟨(fun k b h => by cases h), .inl ⟨3, by decide, rfl, (.int .i64 (n : Int)), W, (by simp [go_sem, Act.eval, f0]), rfl, hJ.quiet 3 _ hdi (by omega)⟩⟩
  ·have d3 : a.tmps.getD 11 undef = (.int .i64 (n : Int)) := fdn (hF 3 (by decide) (hr 3 (by kernel_rfl)))
   exact .inl ⟨(fun k b h => by cases h), .inl ⟨4, by decide, rfl, _, _, (by simp [go_sem, Act.eval, d3, run_make_int n (by omega) W]), ⟨_, rfl⟩, hJ.at24 4 (by omega) hdi⟩⟩
  ·have f3 : a.tmps.getD 3 undef = (.pointer (some ⟨b3, 0, none⟩)) := hf 3 (by kernel_rfl)
   have c3 := HC3.out W hJ.low
   exact .inl ⟨(fun k b h => by cases h), .inl ⟨5, by decide, rfl, (.slice ao m cap), W, (by simp [go_sem, Act.eval, f3, c3]), rfl, hJ.quiet 5 _ hdi (by omega)⟩⟩
  ·have d5 : a.tmps.getD 13 undef = (.slice ao m cap) := fdn (hF 5 (by decide) (hr 5 (by kernel_rfl)))
   exact .inl ⟨(fun k b h => by cases h), .inl ⟨6, by decide, rfl, (.int .i64 (m : Int)), W, (by simp [go_sem, Act.eval, d5]), rfl, hJ.quiet 6 _ hdi (by omega)⟩⟩
  ·have d6 : a.tmps.getD 14 undef = (.int .i64 (m : Int)) := fdn (hF 6 (by decide) (hr 6 (by kernel_rfl)))
   exact .inl ⟨(fun k b h => by cases h), .inl ⟨7, by decide, rfl, _, _, (by simp [go_sem, Act.eval, d6, run_make_bool m (by omega) W]), ⟨_, rfl⟩, hJ.at7 hdi⟩⟩
  ·have f0 : a.tmps.getD 0 undef = (.int .i64 (n : Int)) := hf 0 (by kernel_rfl)
   exact .inl ⟨(fun k b h => by cases h), .inl ⟨8, by decide, rfl, (.int .i64 (n : Int)), W, (by simp [go_sem, Act.eval, f0]), rfl, hJ.quiet 8 _ hdi (by omega)⟩⟩
  ·have d8 : a.tmps.getD 16 undef = (.int .i64 (n : Int)) := fdn (hF 8 (by decide) (hr 8 (by kernel_rfl)))
   exact .inl ⟨(fun k b h => by cases h), .inl ⟨9, by decide, rfl, _, _, (by simp [go_sem, Act.eval, d8, run_make_bool n (by omega) W]), ⟨_, rfl⟩, hJ.at9 hdi⟩⟩
  ·have d0 : a.tmps.getD 8 undef = (.slice ao m cap) := fdn (hF 0 (by decide) (hr 0 (by kernel_rfl)))
   obtain ⟨g2, e2⟩ := hF 2 (by decide) (hr 2 (by kernel_rfl))
   replace e2 : a.tmps.getD 10 undef = vs 2 := e2
   replace g2 : (fun zv => ∃ p, zv = .slice (some ⟨p, 0, none⟩) n n) (vs 2) := g2
   obtain ⟨g4, e4⟩ := hF 4 (by decide) (hr 4 (by kernel_rfl))
   replace e4 : a.tmps.getD 12 undef = vs 4 := e4
   replace g4 : (fun zv => ∃ p, zv = .slice (some ⟨p, 0, none⟩) n n) (vs 4) := g4
   obtain ⟨g7, e7⟩ := hF 7 (by decide) (hr 7 (by kernel_rfl))
   replace e7 : a.tmps.getD 15 undef = vs 7 := e7
   replace g7 : (fun zv => ∃ p, zv = .slice (some ⟨p, 0, none⟩) m m) (vs 7) := g7
   obtain ⟨g9, e9⟩ := hF 9 (by decide) (hr 9 (by kernel_rfl))
   replace e9 : a.tmps.getD 17 undef = vs 9 := e9
   replace g9 : (fun zv => ∃ p, zv = .slice (some ⟨p, 0, none⟩) n n) (vs 9) := g9
   obtain ⟨p2, k2⟩ := g2
   obtain ⟨p4, k4⟩ := g4
   obtain ⟨p7, k7⟩ := g7
   obtain ⟨p9, k9⟩ := g9
   have h10 := hJ.at10 hdi ⟨hr 2 (by kernel_rfl), hr 4 (by kernel_rfl), hr 7 (by kernel_rfl), hr 9 (by kernel_rfl)⟩
   rw [k2] at e2 h10
   rw [k4] at e4 h10
   rw [k7] at e7 h10
   rw [k9] at e9 h10
   exact .inl ⟨(fun k b h => by cases h), .inl ⟨10, by decide, rfl, _, _, (exec_build _ _ rfl _ (by simp only [List.map_toArray, List.map_cons, List.map_nil, Act.eval, d0, e2, e4, e7, e9]) _ _ (build_search W ao m cap n p2 p4 p7 p9)), ⟨_, _, _, _, rfl⟩, h10⟩⟩
  ·obtain ⟨g10, e10⟩ := hF 10 (by decide) (hr 10 (by kernel_rfl))
   replace e10 : a.tmps.getD 18 undef = vs 10 := e10
   replace g10 : (fun zv => ∃ p2 p4 p7 p9, zv = .agg #[.slice ao m cap, .slice (some ⟨p2, 0, none⟩) n n, .slice (some ⟨p4, 0, none⟩) n n, .int .i64 0, .slice (some ⟨p7, 0, none⟩) m m, .slice (some ⟨p9, 0, none⟩) n n]) (vs 10) := g10
   obtain ⟨p2, p4, p7, p9, k10⟩ := g10
   obtain ⟨b2, b4, b7, b9, bv⟩ := hJ.h10 (hr 10 (by kernel_rfl))
   have h11 := hJ.at11 hdi (hr 10 (by kernel_rfl))
   rw [k10] at bv e10
   injection bv with bv
   injection bv with bv
   injection bv with bv1 bv
   injection bv with bv2 bv
   injection bv with bv3 bv
   injection bv with bv4 bv
   injection bv with bv5 bv
   injection bv with bv6 bv
   rw [← bv2, ← bv3, ← bv5, ← bv6] at h11
   clear bv1 bv2 bv3 bv4 bv5 bv6 bv
   exact .inl ⟨(fun k b h => by cases h), .inl ⟨11, by decide, rfl, _, _, (by simp [go_sem, Act.eval, e10]), ⟨_, rfl⟩, h11⟩⟩
  ·exact .inl ⟨(fun k b h => by cases h), .inl ⟨12, by decide, rfl, _, _, (by simp [go_sem, Act.eval]), ⟨_, rfl⟩, hJ.at12 hdi (.pointer none)⟩⟩
  ·obtain ⟨g12, e12⟩ := hF 12 (by decide) (hr 12 (by kernel_rfl))
   replace e12 : a.tmps.getD 5 undef = vs 12 := e12
   replace g12 : (fun zv => ∃ p, zv = .pointer (some ⟨p, 0, none⟩)) (vs 12) := g12
   obtain ⟨g11, e11⟩ := hF 11 (by decide) (hr 11 (by kernel_rfl))
   replace e11 : a.tmps.getD 19 undef = vs 11 := e11
   replace g11 : (fun zv => ∃ p, zv = .pointer (some ⟨p, 0, none⟩)) (vs 11) := g11
   obtain ⟨pb, hb1, x, hb2, hb3⟩ : ∃ p, vs 12 = .pointer (some ⟨p, 0, none⟩) ∧ ∃ x, W.heap[p]? = some (.cells #[x] 59 (0, 0)) ∧ True := by obtain ⟨p, x, c1, c2, -, -⟩ := hJ.h12 (hr 12 (by kernel_rfl)); exact ⟨p, c1, x, c2, trivial⟩
   obtain ⟨ps, hs1⟩ := g11
   rw [hb1] at e12
   rw [hs1] at e11
   have cx := cell_of_row _ _ 0 _ _ _ hb2
   have fx := frozen_of_row _ _ 0 _ _ hb2
   have h13 := hJ.at13 (hr 11 (by kernel_rfl)) (hr 12 (by kernel_rfl)) hb1
   rw [hs1] at h13
   exact .inl ⟨(fun k b h => by cases h), .inr (.inl ⟨rfl, _, (by simp [go_sem, Act.eval, e12, e11, cx, fx]), h13⟩)⟩
 case finz =>
  intro d vs Wz hall hJ hF
  have h0 : vs 0 = (.slice ao m cap) := hF 0 (by decide)
  have h1 : vs 1 = (.int .i64 (n : Int)) := hF 1 (by decide)
  have h2 : (fun zv => ∃ p, zv = .slice (some ⟨p, 0, none⟩) n n) (vs 2) := hF 2 (by decide)
  have h3 : vs 3 = (.int .i64 (n : Int)) := hF 3 (by decide)
  have h4 : (fun zv => ∃ p, zv = .slice (some ⟨p, 0, none⟩) n n) (vs 4) := hF 4 (by decide)
  have h5 : vs 5 = (.slice ao m cap) := hF 5 (by decide)
  have h6 : vs 6 = (.int .i64 (m : Int)) := hF 6 (by decide)
  have h7 : (fun zv => ∃ p, zv = .slice (some ⟨p, 0, none⟩) m m) (vs 7) := hF 7 (by decide)
  have h8 : vs 8 = (.int .i64 (n : Int)) := hF 8 (by decide)
  have h9 : (fun zv => ∃ p, zv = .slice (some ⟨p, 0, none⟩) n n) (vs 9) := hF 9 (by decide)
  have h10 : (fun zv => ∃ p2 p4 p7 p9, zv = .agg #[.slice ao m cap, .slice (some ⟨p2, 0, none⟩) n n, .slice (some ⟨p4, 0, none⟩) n n, .int .i64 0, .slice (some ⟨p7, 0, none⟩) m m, .slice (some ⟨p9, 0, none⟩) n n]) (vs 10) := hF 10 (by decide)
  have h11 : (fun zv => ∃ p, zv = .pointer (some ⟨p, 0, none⟩)) (vs 11) := hF 11 (by decide)
  have h12 : (fun zv => ∃ p, zv = .pointer (some ⟨p, 0, none⟩)) (vs 12) := hF 12 (by decide)
  clear hF
  show (_ : Exit → Act → World → Prop) Exit.normal (puts _ vs 13 _) Wz
  simp only [puts, h0, h1, h3, h5, h6, h8, List.getD_cons_zero, List.getD_cons_succ]
  clear h0 h1 h3 h5 h6 h8
  obtain ⟨-, sb, hsb, hrec, hsbg⟩ := hJ.h11 (hall 11 (by decide))
  obtain ⟨b2, x2, hb2, hx2, hb2g, hx22⟩ := hJ.h12 (hall 12 (by decide))
  obtain ⟨mb, hmb, hmr, hmg⟩ := hJ.h2 (hall 2 (by decide))
  obtain ⟨qb, hqb, hqr, hqg⟩ := hJ.h4 (hall 4 (by decide))
  obtain ⟨eb, heb, her, heg⟩ := hJ.h7 (hall 7 (by decide))
  obtain ⟨jb, hjb, hjr, hjg⟩ := hJ.h9 (hall 9 (by decide))
  have hn1 := hJ.n1 (hall 2 (by decide)) (hall 4 (by decide)) _ _ _ _ hmb hqb
  have hn2 := hJ.n2 (hall 7 (by decide)) (hall 9 (by decide)) _ _ _ _ heb hjb
  have hx2' := hx22 (hall 13 (by decide))
  subst hx2'
  rw [hsb] at hx2
  rw [hmb, hqb, heb, hjb] at hrec
  have hlow := hJ.low
  simp only [hsb, hb2, hmb, hqb, heb, hjb]
  obtain ⟨ag, hag⟩ : ∃ ag, ag = vs 10 := ⟨_, rfl⟩
  rw [← hag]
  clear hJ hall hx22 hag h2 h4 h7 h9 h10 h11 h12 hsb hb2 hmb hqb heb hjb
  simp only [Act.put, List.setIfInBounds_toArray, List.set_cons_succ, List.set_cons_zero]
  have HREC := Lib.hid hrec
  have HX2 := Lib.hid hx2
  have HMR := Lib.hid hmr
  have HQR := Lib.hid hqr
  have HER := Lib.hid her
  have HJR := Lib.hid hjr
  have HN12 : Hid (mb ≠ qb ∧ eb ≠ jb) := ⟨hn1, hn2⟩
  have HLOW := Lib.hid hlow
  have HGE : Hid (w1.heap.size ≤ sb ∧ w1.heap.size ≤ mb ∧ w1.heap.size ≤ qb ∧ w1.heap.size ≤ eb ∧ w1.heap.size ≤ jb) := ⟨hsbg, hmg, hqg, heg, hjg⟩
  clear hrec hx2 hmr hqr her hjr hn1 hn2 hlow hsbg hmg hqg heg hjg hb2g
  go_wp2_with (fail)
  obtain ⟨b4, hb4⟩ : ∃ q, q = Wz.heap.size := ⟨_, rfl⟩
  have m4 := new_block Wz (.cells #[.func (.func 48) #[] #[.pointer (some ⟨b2, 0, none⟩), .pointer (some ⟨b3, 0, none⟩), .pointer (some ⟨b4, 0, none⟩)]] 70)
  rw [← hb4] at m4 ⊢
  have HRL : Hid (RL w (.slice ao m cap) n L sb mb qb eb jb b2 b3 b4 0 (Wz.alloc (.cells #[.func (.func 48) #[] #[.pointer (some ⟨b2, 0, none⟩), .pointer (some ⟨b3, 0, none⟩), .pointer (some ⟨b4, 0, none⟩)]] 70))) := by
   have hz := HZ1.out
   have hlow := HLOW.out
   have hs := hlow.size
   have hg := HGE.out
   have hml := HM.out
   have hbw : Below w.heap.size w (Wz.alloc (.cells #[.func (.func 48) #[] #[.pointer (some ⟨b2, 0, none⟩), .pointer (some ⟨b3, 0, none⟩), .pointer (some ⟨b4, 0, none⟩)]] 70)) := (HG1.out.1.trans (hlow.mono (by omega))).trans (m4.1.mono (by omega))
   have m4b : Below Wz.heap.size Wz (Wz.alloc (.cells #[.func (.func 48) #[] #[.pointer (some ⟨b2, 0, none⟩), .pointer (some ⟨b3, 0, none⟩), .pointer (some ⟨b4, 0, none⟩)]] 70)) := by rw [← hb4]; exact m4.1
   have hb3s : w1.heap[b3]? = some (.cells #[.slice ao m cap] 22 (0, 0)) := by rw [HB3.out]; exact HG1.out.2
   refine ⟨_, rfl, ⟨?_, ?_, ?_, ?_, ?_, stays HX2.out m4b, stays (stays hb3s hlow) m4b, m4.2, HLS.out.below hbw (Nat.le_refl _), ⟨by omega, by omega, by omega, by omega, by omega⟩, HN12.out.1, HN12.out.2, by simp, by simp, by simp, by simp⟩, start_dw n L.length, hbw⟩
   ·have h0 := stays HREC.out m4b
    rw [← hml]
    exact h0
   ·have h0 := HMR.out.keep m4b
    have e : nI (List.replicate n 0) = List.replicate n (0 : Int) := by simp [nI]
    show RowI _ _ (nI (List.replicate n 0))
    rw [e]
    exact h0
   ·have h0 := HQR.out.keep m4b
    have e : nI (List.replicate n 0) = List.replicate n (0 : Int) := by simp [nI]
    show RowI _ _ (nI (List.replicate n 0))
    rw [e]
    exact h0
   ·have h0 := HER.out.keep m4b
    rw [hml] at h0
    exact h0
   ·exact HJR.out.keep m4b
  clear HREC HX2 HMR HQR HER HJR HN12 HLOW HGE m4 hb4 HC3 HB3 HG1 HZ1
  go_loopw [22] (fun vv wx => ∃ v : Nat, vv = .int .i64 (v : Int) ∧ v ≤ n ∧ Hid (RL w (.slice ao m cap) n L sb mb qb eb jb b2 b3 b4 v wx)) (fun vv _ => n - (intOf vv).toNat)
  case atStart => exact ⟨0, rfl, Nat.zero_le _, HRL.out⟩
  case round =>
   clear HRL
   obtain ⟨v, rfl, hv, HRL⟩ := hrel
   obtain ⟨s, hs, hsw, hdw, hbw⟩ := HRL.out
   have cx2 := cell_of_row _ _ 0 _ _ _ hsw.x2
   by_cases hlt : v < n
   ·have cr1 := cell_of_row _ _ 1 _ _ _ hsw.rc
    have cr5 := cell_of_row _ _ 5 _ _ _ hsw.rc
    have cx4 : wr.cell? ⟨b4, 0, none⟩ = some (.func (.func 48) #[] #[.pointer (some ⟨b2, 0, none⟩), .pointer (some ⟨b3, 0, none⟩), .pointer (some ⟨b4, 0, none⟩)]) := cell_of_row _ _ 0 _ _ _ hsw.x4
    have cmv := hsw.met.cell v (by simpa using (show v < _ by rw [hsw.ml]; exact hlt))
    rw [getN] at cmv
    obtain ⟨mv, hmv⟩ : ∃ x, x = s.met.getD v 0 := ⟨_, rfl⟩
    rw [← hmv] at cmv
    have hvn : 0 ≤ (v : Int) ∧ (v : Int) < (n : Int) := by omega
    have HSW := Lib.hid hsw
    have HDW := Lib.hid hdw
    have HBW := Lib.hid hbw
    have HS := Lib.hid hs
    have HSTEP : Hid (∀ W', SW w.heap.size (.slice ao m cap) n L sb mb qb eb jb b2 b3 b4 (rootD L n s v) W' → Below w.heap.size w W' → RL w (.slice ao m cap) n L sb mb qb eb jb b2 b3 b4 (v + 1) W') := by
     intro W' a b
     refine ⟨rootD L n s v, ?_, a, root_dw HF.out hlt HDW.out, b⟩
     rw [List.range_succ, List.foldl_append, ← HS.out]
     rfl
    have HMV := Lib.hid hmv
    clear HRL hs hsw hdw hbw hmv
    by_cases hm0 : mv = 0
    ·subst hm0
     have hno : ¬ vis s v := by unfold vis; rw [← HMV.out]; omega
     have HV := Lib.hid (visit_any w.heap.size (.slice ao m cap) n L sb mb qb eb jb b2 b3 b4 HF.out hn HL1.out (n + 1) wr s v (-1) HSW.out HDW.out hlt hno (by have := HDW.out.ck; omega) (by omega) (by omega))
     obtain ⟨r, hr⟩ : ∃ r, r = visitD L (n + 1) v (-1) s := ⟨_, rfl⟩
     rw [← hr] at HV
     have HRT : Hid (rootD L n s v = if 1 < r.2 then { r.1 with jo := r.1.jo.set v true } else r.1) := by show _ = _; unfold rootD; rw [if_pos HMV.out.symm, ← hr]
     clear hno hr
     go_wp2_with (fail)
     refine HV.out.mono ?_
     rintro e W2 ⟨rfl, hsw2, hb2, hk2⟩
     have HSW2 := Lib.hid hsw2
     have HBW2 := Lib.hid (HBW.out.trans hb2)
     clear hb2 hk2 HV cx2 cr1 cr5 cx4 cmv hsw2
     have cx2 := cell_of_row _ _ 0 _ _ _ HSW2.out.x2
     have cr5 := cell_of_row _ _ 5 _ _ _ HSW2.out.rc
     have cjv := HSW2.out.jo.cell v (by rw [HSW2.out.jl]; exact hlt)
     have fjv := HSW2.out.jo.frozen v
     by_cases hc : 1 < r.2
     ·have HRL2 : Hid (RL w (.slice ao m cap) n L sb mb qb eb jb b2 b3 b4 (v + 1) (W2.setCell ⟨jb, v, none⟩ (.bool true))) := HSTEP.out _ (by rw [HRT.out, if_pos hc]; exact HSW2.out.setJo) (bel_set HSW2.out.ge.2.2.2.2 HBW2.out)
      have hci : (1 : Int) < (r.2 : Int) := by omega
      go_wp2_with (fail)
      go_roundw
      case rel => exact ⟨v + 1, by go_num, by omega, HRL2.out⟩
      case measure => simp [intOf] <;> omega
     ·have HRL2 : Hid (RL w (.slice ao m cap) n L sb mb qb eb jb b2 b3 b4 (v + 1) W2) := HSTEP.out _ (by rw [HRT.out, if_neg hc]; exact HSW2.out) HBW2.out
      have hci : ¬ (1 : Int) < (r.2 : Int) := by omega
      go_wp2_with (fail)
      go_roundw
      case rel => exact ⟨v + 1, by go_num, by omega, HRL2.out⟩
      case measure => simp [intOf] <;> omega
    ·have HRL2 : Hid (RL w (.slice ao m cap) n L sb mb qb eb jb b2 b3 b4 (v + 1) wr) := HSTEP.out _ (by unfold rootD; rw [if_neg (by rw [← HMV.out]; exact hm0)]; exact HSW.out) HBW.out
     have hmb : ((mv : Int) == 0) = false := by rw [beq_eq_false_iff_ne]; omega
     go_wp2_with (fail)
     go_roundw
     case rel => exact ⟨v + 1, by go_num, by omega, HRL2.out⟩
     case measure => simp [intOf] <;> omega
   ·obtain rfl : v = n := by omega
    have HFIN : Hid (SA L v (.slice ao m cap) sb eb jb wr ∧ Below w.heap.size w wr) := by
     have e : s = searchD L v := hs
     refine ⟨⟨⟨_, _, _, hsw.rc⟩, ?_, ?_⟩, hbw⟩
     ·rw [← e]; exact hsw.br
     ·rw [← e]; exact hsw.jo
    clear HRL hs hsw hdw hbw
    go_wp2_with (fail)
    go_ret
    exact ⟨⟨sb, eb, jb, rfl, HFIN.out.1⟩, HFIN.out.2⟩

end Go.Proofs.Ytenilbofncfbdaa

namespace Go.Proofs.Ytenilbofncfbdaa
open Go.RowKit

/-- the pairs at the places that P tells -/
def pickN (L : Prs) (P : Nat → Bool) : Nat → Prs
 | 0 => []
 | k + 1 => pickN L P k ++ (if P k then [(endA L k, endB L k)] else [])
theorem pickN_len {L : Prs} {P : Nat → Bool} : ∀ k, (pickN L P k).length ≤ k := by
 intro k
 induction k with
 | zero => exact Nat.le_refl _
 | succ k ih => unfold pickN; rw [List.length_append]; split <;> simp <;> omega
theorem pickN_sub {L : Prs} {P : Nat → Bool} : ∀ k, k ≤ L.length → (pickN L P k).Sublist (L.take k) := by
 intro k
 induction k with
 | zero => intro _; simp [pickN]
 | succ k ih =>
  intro hk
  have e : L[k]? = some (endA L k, endB L k) := get_ends.2 ⟨by omega, rfl, rfl⟩
  rw [List.take_add_one, e]
  unfold pickN
  refine List.Sublist.append (ih (by omega)) ?_
  split
  ·exact List.Sublist.refl _
  ·exact List.nil_sublist _
/-- fit as a row -/
theorem fit_row {n : Nat} {L : Prs} : FitL n L ↔ (∀ p ∈ L, p.1 < p.2 ∧ p.2 < n) ∧ L.Pairwise fun p q => p.1 < q.1 ∨ p.1 = q.1 ∧ p.2 < q.2 := by
 have get : ∀ k (h : k < L.length), L[k] = (endA L k, endB L k) := fun k h => by
  have := (List.getElem?_eq_some_iff.1 (get_ends.2 ⟨h, rfl, rfl⟩)).2
  exact this
 constructor
 ·intro h
  refine ⟨fun p hp => ?_, ?_⟩
  ·obtain ⟨k, hk, rfl⟩ := List.getElem_of_mem hp
   rw [get k hk]
   exact h.lt k hk
  ·rw [List.pairwise_iff_getElem]
   intro i j hi hj hij
   rw [get i hi, get j hj]
   exact h.sorted i j hij hj
 ·rintro ⟨h1, h2⟩
  refine ⟨fun k hk => ?_, fun i j hij hj => ?_⟩
  ·have := h1 _ (List.getElem_mem hk)
   rw [get k hk] at this
   exact this
  ·have := List.pairwise_iff_getElem.1 h2 i j (by omega) hj hij
   rw [get i (by omega), get j hj] at this
   exact this
theorem FitL.sub {n : Nat} {L L' : Prs} (h : FitL n L) (hs : L'.Sublist L) : FitL n L' := by
 rw [fit_row] at h ⊢
 exact ⟨fun p hp => h.1 p (hs.subset hp), h.2.sublist hs⟩
theorem pickN_fit {n : Nat} {L : Prs} {P : Nat → Bool} (h : FitL n L) : FitL n (pickN L P L.length) := h.sub (by have := pickN_sub (L := L) (P := P) L.length (Nat.le_refl _); rwa [List.take_length] at this)
def brI (L : Prs) (n k : Nat) : Bool := (searchD L n).br.getD k false
def joI (L : Prs) (n v : Nat) : Bool := (searchD L n).jo.getD v false
def bridgesI (L : Prs) (n : Nat) : Prs := pickN L (brI L n) L.length
def jointsI (L : Prs) (n : Nat) : List Nat := (List.range n).filter (joI L n)
def restI (L : Prs) (n : Nat) : Prs := pickN L (fun k => !brI L n k) L.length
def rowD (d : List Int) (k : Nat) : List Nat := (List.range k).filter fun u => decide (0 ≤ d.getD u 0)
def setD (done : List Bool) (d : List Int) : Nat → List Bool
 | 0 => done
 | k + 1 => if 0 ≤ d.getD k 0 then (setD done d k).set k true else setD done d k
def blkN (R : Prs) (n : Nat) : Nat → List Bool × List (List Nat)
 | 0 => (List.replicate n false, [])
 | v + 1 => if (blkN R n v).1.getD v false then blkN R n v else (setD (blkN R n v).1 (farI R n (v : Int)) n, (blkN R n v).2 ++ [rowD (farI R n (v : Int)) n])
def blocksI (L : Prs) (n : Nat) : List (List Nat) := (blkN (restI L n) n n).2
theorem setD_len {done : List Bool} {d : List Int} : ∀ k, (setD done d k).length = done.length := by
 intro k
 induction k with
 | zero => rfl
 | succ k ih => unfold setD; split <;> simp [ih]
theorem blkN_len {R : Prs} {n : Nat} : ∀ v, (blkN R n v).1.length = n := by
 intro v
 induction v with
 | zero => simp [blkN]
 | succ v ih =>
  unfold blkN
  split
  ·exact ih
  ·show (setD _ _ _).length = n
   rw [setD_len]; exact ih
theorem blkN_few {R : Prs} {n : Nat} : ∀ v, (blkN R n v).2.length ≤ v := by
 intro v
 induction v with
 | zero => simp [blkN]
 | succ v ih =>
  unfold blkN
  split
  ·omega
  ·rw [List.length_append, List.length_singleton]; omega
/-- pairs that are taken, in memory, while the search's answer stands -/
def PW (w : World) (L : Prs) (n : Nat) (lv : Value) (sb eb jb : Nat) (P : Nat → Bool) (k : Nat) (v : Value) (W : World) : Prop :=
 OwnL W w.heap.size v (prI (pickN L P k)) ∧ SA L n lv sb eb jb W ∧ Below w.heap.size w W
theorem SA.keep {L : Prs} {n : Nat} {lv : Value} {sb eb jb : Nat} {W W' : World} (h : SA L n lv sb eb jb W) (hk : ∀ (c : Nat) (cs : Array Value) (ty : TypeId), W.heap[c]? = some (.cells cs ty (0, 0)) → (ty = 62 ∨ ty = 4) → W'.heap[c]? = W.heap[c]?) : SA L n lv sb eb jb W' := by
 obtain ⟨⟨x1, x2, x3, h1⟩, h2, h3⟩ := h
 exact ⟨⟨x1, x2, x3, (hk _ _ _ h1 (.inl rfl)).trans h1⟩, h2.of (hk _ _ _ h2 (.inr rfl)), h3.of (hk _ _ _ h3 (.inr rfl))⟩
theorem SA.below {L : Prs} {n : Nat} {lv : Value} {sb eb jb : Nat} {W W' : World} (h : SA L n lv sb eb jb W) (hb : Below W.heap.size W W') : SA L n lv sb eb jb W' :=
 h.keep fun c _ _ hc _ => hb.block c (Array.getElem?_eq_some_iff.1 hc).1
section
variable {w : World} {L : Prs} {n : Nat} {lv : Value} {sb eb jb : Nat} {P : Nat → Bool} {k : Nat} {v : Value} {W : World}
theorem PW.below {W' : World} (h : PW w L n lv sb eb jb P k v W) (hb : Below W.heap.size W W') : PW w L n lv sb eb jb P k v W' :=
 ⟨owns_below h.1 hb, h.2.1.below hb, h.2.2.trans (hb.mono h.2.2.size)⟩
theorem PW.grown {v' : Value} {W' : World} (h : PW w L n lv sb eb jb P k v W) (hp : P k = true) (ho : OwnL W' w.heap.size v' (prI (pickN L P k) ++ [((endA L k : Int), (endB L k : Int))])) (hg : W.grownBy W' v.ownBlock) : PW w L n lv sb eb jb P (k + 1) v' W' := by
 refine ⟨?_, h.2.1.keep fun c cs ty hc ht => (grown_other h.1 hg hc (fun cur e => by injection e with _ e; subst e; rcases ht with h | h <;> exact absurd h (by decide))).trans hc.symm, grown_low h.1 hg h.2.2 (Nat.le_refl _) h.2.2.size⟩
 show OwnL _ _ _ (prI (pickN L P k ++ _))
 rw [if_pos hp]
 simpa [prI] using ho
theorem PW.skip (h : PW w L n lv sb eb jb P k v W) (hp : P k = false) : PW w L n lv sb eb jb P (k + 1) v W := by
 refine ⟨?_, h.2.1, h.2.2⟩
 show OwnL _ _ _ (prI (pickN L P k ++ _))
 rw [if_neg (by rw [hp]; simp), List.append_nil]
 exact h.1
end

set_option maxRecDepth 100000 in
set_option maxHeartbeats 8000000 in
theorem bridges_any (w : World) (lv : Value) (n : Nat) (L : Prs) (hl : Lis w w.heap.size lv L) (hf : FitL n L) (hL : L.length ≤ 1000) (hn : n ≤ 16) :
  Calls Try.prog 21 #[.int .i64 (n : Int), lv] w fun e w' => (∃ v, e = .returned v ∧ OwnL w' w.heap.size v (prI (bridgesI L n))) ∧ Below w.heap.size w w' := by
 have HC := Lib.hid (searched_any w lv n L hl hf hL hn)
 obtain ⟨PP, hPP⟩ : ∃ P, P = brI L n := ⟨_, rfl⟩
 have HPP := Lib.hid hPP
 have hR : bridgesI L n = pickN L PP L.length := by rw [hPP]; rfl
 rw [hR]
 have HBL : Hid ((searchD L n).br.length = L.length) := (search_ok hf).1
 obtain ⟨ao, cap, rfl, hcap, hcl⟩ := hl.slice
 have HLS := Lib.hid hl
 obtain ⟨m, hm⟩ : ∃ m, m = L.length := ⟨_, rfl⟩
 have HM := Lib.hid hm
 rw [← hm] at HC HLS hcap hcl hL ⊢
 clear hl hf hm hR hPP
 go_enter Try.func21, Try.ntmps21
 go_wp2_with (fail)
 refine HC.out.mono ?_
 rintro e W1 ⟨⟨sb, eb, jb, rfl, hsa⟩, hb⟩
 have HPW : Hid (PW w L n (.slice ao m cap) sb eb jb PP 0 (.slice none 0 0) W1) := ⟨OwnL.nil _ _, hsa, hb⟩
 clear hsa hb HC
 go_wp2_with (fail)
 go_loopw [5, 14] (fun v kv wx => ∃ k nv cv : Nat, ∃ av, v = .slice av nv cv ∧ kv = .int .i64 (k : Int) ∧ k ≤ m ∧ Hid (PW w L n (.slice ao m cap) sb eb jb PP k (.slice av nv cv) wx)) (fun _ kv _ => m - (intOf kv).toNat)
 case atStart => exact ⟨0, 0, 0, none, rfl, rfl, Nat.zero_le _, HPW.out⟩
 case round =>
  clear HPW
  obtain ⟨k, nv, cv, av, rfl, rfl, hk, HPW⟩ := hrel
  by_cases hlt : k < m
  ·have hkL : k < L.length := by have := HM.out; omega
   obtain ⟨bl, ol, hbl, hbl2, cA, cB⟩ := Lis.at (HLS.out.below HPW.out.2.2 (Nat.le_refl _)) k hkL
   subst hbl
   have hbw : bl < wr.heap.size := by have := HPW.out.2.2.size; omega
   obtain ⟨u, hu⟩ : ∃ u, u = endA L k := ⟨_, rfl⟩
   obtain ⟨v, hv⟩ : ∃ u, u = endB L k := ⟨_, rfl⟩
   rw [← hu] at cA
   rw [← hv] at cB
   have HU : Hid (u = endA L k ∧ v = endB L k) := ⟨hu, hv⟩
   have m1 := new_block wr (.cells #[.int .i64 (u : Int), .int .i64 (v : Int)] 38)
   have hpw2 := HPW.out.below m1.1
   obtain ⟨x1, x2, x3, hrec⟩ := hpw2.2.1.1
   have cr4 := cell_of_row _ _ 4 _ _ _ hrec
   have cek := hpw2.2.1.2.1.cell k (by rw [HBL.out]; exact hkL)
   obtain ⟨x1', x2', x3', hrec0⟩ := HPW.out.2.1.1
   have dr4 : wr.cell? ⟨sb, 4, none⟩ = some (.slice (some ⟨eb, 0, none⟩) m m) := by rw [HM.out]; exact cell_of_row _ _ 4 _ _ _ hrec0
   have dek := HPW.out.2.1.2.1.cell k (by rw [HBL.out]; exact hkL)
   have hsbl : sb < wr.heap.size := (Array.getElem?_eq_some_iff.1 hrec0).1
   have hebl : eb < wr.heap.size := HPW.out.2.1.2.1.lt
   have hkn : 0 ≤ (k : Int) ∧ (k : Int) < (m : Int) := by omega
   have c15 := cell_of_row _ _ 0 _ _ _ m1.2
   have c16 := cell_of_row _ _ 1 _ _ _ m1.2
   have HPK : Hid (PP k = (searchD L n).br.getD k false) := by show _ = _; rw [HPP.out]; rfl
   have HPW2 := Lib.hid hpw2
   have m3 := new_block (wr.alloc (.cells #[.int .i64 (u : Int), .int .i64 (v : Int)] 38)) (.cells #[.int .i64 (u : Int), .int .i64 (v : Int)] 38)
   rw [World.size_alloc] at m3
   have HM3 : Hid (Below (wr.alloc (.cells #[.int .i64 (u : Int), .int .i64 (v : Int)] 38)).heap.size _ _ ∧ _) := ⟨by rw [World.size_alloc]; exact m3.1, m3.2⟩
   have HO3 : Hid (OwnL ((wr.alloc (.cells #[.int .i64 (u : Int), .int .i64 (v : Int)] 38)).alloc (.cells #[.int .i64 (u : Int), .int .i64 (v : Int)] 38)) w.heap.size (.slice av nv cv) (prI (pickN L PP k))) := owns_below HPW2.out.1 HM3.out.1
   have HSZ3 : Hid (w.heap.size ≤ ((wr.alloc (.cells #[.int .i64 (u : Int), .int .i64 (v : Int)] 38)).alloc (.cells #[.int .i64 (u : Int), .int .i64 (v : Int)] 38)).heap.size) := Nat.le_trans HPW2.out.2.2.size HM3.out.1.size
   have HSM : Hid ((prI (pickN L PP k)).length ≤ 1000000) := by show _ ≤ _; rw [prI_len]; have := pickN_len (L := L) (P := PP) k; omega
   obtain ⟨bq, hbq⟩ : ∃ x, x = (searchD L n).br.getD k false := ⟨_, rfl⟩
   rw [← hbq] at dek HPK
   clear hpw2 hu hv m1 m3 hkL HPW hrec hrec0 hbq cr4 cek c15 c16
   cases bq with
   | true =>
    have HPT : Hid (PP k = true) := HPK.out
    go_wp2_with (at_builtin; refine wpList_append_l rfl _ _ rfl w.heap.size _ _ rfl HO3.out (wr.heap.size + 1) ((u : Int), (v : Int)) rfl HM3.out.2 HSM.out HSZ3.out ?_)
    intro v5 W5 ho5 hg5
    have HPW5 : Hid (PW w L n (.slice (some ⟨bl, ol, none⟩) m cap) sb eb jb PP (k + 1) v5 W5) := (HPW2.out.below HM3.out.1).grown HPT.out (by rw [← HU.out.1, ← HU.out.2]; exact ho5) hg5
    obtain ⟨av2, cv2, hv5⟩ := owns_form ho5
    clear ho5 hg5
    subst hv5
    go_wp2_with (fail)
    go_roundw
    case rel => exact ⟨k + 1, _, cv2, av2, rfl, by go_num, by omega, HPW5.out⟩
    case measure => simp [intOf] <;> omega
   | false =>
    have HPT : Hid (PP k = false) := HPK.out
    have HPW3 : Hid (PW w L n (.slice (some ⟨bl, ol, none⟩) m cap) sb eb jb PP (k + 1) (.slice av nv cv) (wr.alloc (.cells #[.int .i64 (u : Int), .int .i64 (v : Int)] 38))) := HPW2.out.skip HPT.out
    go_wp2_with (fail)
    go_roundw
    case rel => exact ⟨k + 1, nv, cv, av, rfl, by go_num, by omega, HPW3.out⟩
    case measure => simp [intOf] <;> omega
  ·obtain rfl : k = m := by omega
   have HFIN := Lib.hid HPW.out.1
   have HFB := Lib.hid HPW.out.2.2
   clear HPW
   go_wp2_with (fail)
   go_ret
   exact ⟨⟨_, rfl, HFIN.out⟩, HFB.out⟩

set_option maxRecDepth 100000 in
set_option maxHeartbeats 8000000 in
theorem joints_any (w : World) (lv : Value) (n : Nat) (L : Prs) (hl : Lis w w.heap.size lv L) (hf : FitL n L) (hL : L.length ≤ 1000) (hn : n ≤ 16) :
  Calls Try.prog 22 #[.int .i64 (n : Int), lv] w fun e w' => (∃ v, e = .returned v ∧ OwnN w' w.heap.size v (nI (jointsI L n))) ∧ Below w.heap.size w w' := by
 have HC := Lib.hid (searched_any w lv n L hl hf hL hn)
 obtain ⟨P, hP⟩ : ∃ P, P = joI L n := ⟨_, rfl⟩
 have HP := Lib.hid hP
 have hR : jointsI L n = (List.range n).filter P := by rw [hP]; rfl
 rw [hR]
 have HJL : Hid ((searchD L n).jo.length = n) := (search_ok hf).2.1
 clear hl hf hR hP
 go_enter Try.func22, Try.ntmps22
 go_wp2_with (fail)
 refine HC.out.mono ?_
 rintro e W1 ⟨⟨sb, eb, jb, rfl, hsa⟩, hb⟩
 obtain ⟨x1, x2, x3, hrec⟩ := hsa.1
 have cr5 := cell_of_row _ _ 5 _ _ _ hrec
 have HJW : Hid (OwnN W1 w.heap.size (.slice none 0 0) (nI ((List.range 0).filter P)) ∧ RowB W1 jb (searchD L n).jo ∧ Below w.heap.size w W1) := ⟨OwnN.nil _ _, hsa.2.2, hb⟩
 clear hsa hb HC hrec
 go_wp2_with (fail)
 clear cr5
 go_loopw [5, 15] (fun ov vv wx => ∃ v no co : Nat, ∃ ao, ov = .slice ao no co ∧ vv = .int .i64 (v : Int) ∧ v ≤ n ∧ Hid (OwnN wx w.heap.size (.slice ao no co) (nI ((List.range v).filter P)) ∧ RowB wx jb (searchD L n).jo ∧ Below w.heap.size w wx)) (fun _ vv _ => n - (intOf vv).toNat)
 case atStart => exact ⟨0, 0, 0, none, rfl, rfl, Nat.zero_le _, HJW.out⟩
 case round =>
  clear HJW
  obtain ⟨v, no, co, ao, rfl, rfl, hv, HJW⟩ := hrel
  by_cases hlt : v < n
  ·obtain ⟨ho, hj, hb⟩ := HJW.out
   have cjv := hj.cell v (by rw [HJL.out]; exact hlt)
   have hjl := hj.lt
   have hvn : 0 ≤ (v : Int) ∧ (v : Int) < (n : Int) := by omega
   obtain ⟨bq, hbq⟩ : ∃ x, x = (searchD L n).jo.getD v false := ⟨_, rfl⟩
   rw [← hbq] at cjv
   have HPK : Hid (P v = bq) := by show _ = _; rw [HP.out, hbq]; rfl
   have HSTEP : Hid ((List.range (v + 1)).filter P = (List.range v).filter P ++ (if bq then [v] else [])) := by
    show _ = _
    rw [List.range_succ, List.filter_append, List.filter_cons, HPK.out]
    cases bq <;> rfl
   have HO := Lib.hid ho
   have HJ := Lib.hid hj
   have HB := Lib.hid hb
   clear HJW ho hj hb hbq
   cases bq with
   | true =>
    have m1 := new_block wr (.cells #[.int .i64 (v : Int)] 3)
    have HM1 := Lib.hid m1
    have HO1 : Hid (OwnN (wr.alloc (.cells #[.int .i64 (v : Int)] 3)) w.heap.size (.slice ao no co) (nI ((List.range v).filter P))) := owns_below HO.out m1.1
    have HJ1 := Lib.hid (HJ.out.keep m1.1)
    have HB1 := Lib.hid (HB.out.trans (m1.1.mono HB.out.size))
    have HS1 : Hid (w.heap.size ≤ (wr.alloc (.cells #[.int .i64 (v : Int)] 3)).heap.size) := HB1.out.size
    have HSM : Hid ((nI ((List.range v).filter P)).length ≤ 1000000) := by show _ ≤ _; rw [List.length_map]; have := List.length_filter_le P (List.range v); rw [List.length_range] at this; omega
    clear m1
    go_wp2_with (at_builtin; refine wpList_append_n rfl _ _ rfl w.heap.size _ _ rfl HO1.out wr.heap.size (v : Int) rfl HM1.out.2 HSM.out HS1.out ?_)
    intro v5 W5 ho5 hg5
    have HJW5 : Hid (OwnN W5 w.heap.size v5 (nI ((List.range (v + 1)).filter P)) ∧ RowB W5 jb (searchD L n).jo ∧ Below w.heap.size w W5) := by
     refine ⟨?_, grown_other HO1.out hg5 HJ1.out (fun cur e => by injection e with _ e; exact absurd e (by decide)), grown_low HO1.out hg5 HB1.out (Nat.le_refl _) HS1.out⟩
     rw [HSTEP.out]
     simpa [nI] using ho5
    obtain ⟨av5, cv5, hv5⟩ := owns_form ho5
    clear ho5 hg5
    subst hv5
    go_wp2_with (fail)
    go_roundw
    case rel => exact ⟨v + 1, _, cv5, av5, rfl, by go_num, by omega, HJW5.out⟩
    case measure => simp [intOf] <;> omega
   | false =>
    have HJW5 : Hid (OwnN wr w.heap.size (.slice ao no co) (nI ((List.range (v + 1)).filter P)) ∧ RowB wr jb (searchD L n).jo ∧ Below w.heap.size w wr) := by
     refine ⟨?_, HJ.out, HB.out⟩
     rw [HSTEP.out]
     simpa [nI] using HO.out
    go_wp2_with (fail)
    go_roundw
    case rel => exact ⟨v + 1, no, co, ao, rfl, by go_num, by omega, HJW5.out⟩
    case measure => simp [intOf] <;> omega
  ·obtain rfl : v = n := by omega
   go_wp2_with (fail)
   go_ret
   exact ⟨⟨_, rfl, HJW.out.1⟩, HJW.out.2.2⟩

/-- the blocks found so far, in memory: those that are done, the rows; rest: the pairs that are no bridges -/
def BLK (w : World) (Bz : Nat) (R : Prs) (n : Nat) (rv : Value) (db v : Nat) (ov : Value) (W : World) : Prop :=
 Lis W Bz rv R ∧ RowB W db (blkN R n v).1 ∧ OwnG W (db + 1) ov (nII (blkN R n v).2) ∧ Below Bz w W ∧ Bz ≤ db
/-- within a block -/
def IBK (Wf : World) (Bz : Nat) (R : Prs) (n : Nat) (fb db v u : Nat) (d : List Int) (ov : Value) (W : World) : Prop :=
 OwnN W Wf.heap.size ov (nI (rowD d u)) ∧ RowB W db (setD (blkN R n v).1 d u) ∧ RowI W fb d ∧ (∀ c, c ≠ db → c < Wf.heap.size → W.heap[c]? = Wf.heap[c]?) ∧ Below Bz Wf W ∧ Wf.heap.size ≤ W.heap.size
theorem rowD_few {d : List Int} {k : Nat} : (rowD d k).length ≤ k := by
 have := List.length_filter_le (fun u => decide (0 ≤ d.getD u 0)) (List.range k)
 rw [List.length_range] at this
 exact this

set_option maxRecDepth 100000 in
set_option maxHeartbeats 8000000 in
theorem blocks_any (w : World) (lv : Value) (n : Nat) (L : Prs) (hl : Lis w w.heap.size lv L) (hf : FitL n L) (hL : L.length ≤ 1000) (hn : n ≤ 16) :
  Calls Try.prog 23 #[.int .i64 (n : Int), lv] w fun e w' => (∃ v, e = .returned v ∧ OwnG w' w.heap.size v (nII (blocksI L n))) ∧ Below w.heap.size w w' := by
 have HC := Lib.hid (searched_any w lv n L hl hf hL hn)
 obtain ⟨PP, hPP⟩ : ∃ P, P = (fun k => !brI L n k) := ⟨_, rfl⟩
 have HPP := Lib.hid hPP
 obtain ⟨R, hR⟩ : ∃ R, R = pickN L PP L.length := ⟨_, rfl⟩
 have hRR : blocksI L n = (blkN R n n).2 := by rw [hR, hPP]; rfl
 rw [hRR]
 have HR := Lib.hid hR
 have HFR : Hid (FitL n R) := by show FitL n R; rw [hR]; exact pickN_fit hf
 have HBL : Hid ((searchD L n).br.length = L.length) := (search_ok hf).1
 obtain ⟨ao, cap, rfl, hcap, hcl⟩ := hl.slice
 have HLS := Lib.hid hl
 obtain ⟨m, hm⟩ : ∃ m, m = L.length := ⟨_, rfl⟩
 have HM := Lib.hid hm
 rw [← hm] at HC HLS hcap hcl hL ⊢
 clear hl hf hm hR hRR hPP
 go_enter Try.func23, Try.ntmps23
 go_wp2_with (fail)
 refine HC.out.mono ?_
 rintro e W1 ⟨⟨sb, eb, jb, rfl, hsa⟩, hb⟩
 have HPW : Hid (PW w L n (.slice ao m cap) sb eb jb PP 0 (.slice none 0 0) W1) := ⟨OwnL.nil _ _, hsa, hb⟩
 clear hsa hb HC
 go_wp2_with (fail)
 go_loopw [6, 20] (fun v kv wx => ∃ k nv cv : Nat, ∃ av, v = .slice av nv cv ∧ kv = .int .i64 (k : Int) ∧ k ≤ m ∧ Hid (PW w L n (.slice ao m cap) sb eb jb PP k (.slice av nv cv) wx)) (fun _ kv _ => m - (intOf kv).toNat)
 case atStart => exact ⟨0, 0, 0, none, rfl, rfl, Nat.zero_le _, HPW.out⟩
 case round =>
  clear HPW
  obtain ⟨k, nv, cv, av, rfl, rfl, hk, HPW⟩ := hrel
  by_cases hlt : k < m
  ·have hkL : k < L.length := by have := HM.out; omega
   obtain ⟨bl, ol, hbl, hbl2, cA, cB⟩ := Lis.at (HLS.out.below HPW.out.2.2 (Nat.le_refl _)) k hkL
   subst hbl
   have hbw : bl < wr.heap.size := by have := HPW.out.2.2.size; omega
   obtain ⟨u, hu⟩ : ∃ u, u = endA L k := ⟨_, rfl⟩
   obtain ⟨v, hv⟩ : ∃ u, u = endB L k := ⟨_, rfl⟩
   rw [← hu] at cA
   rw [← hv] at cB
   have HU : Hid (u = endA L k ∧ v = endB L k) := ⟨hu, hv⟩
   have m1 := new_block wr (.cells #[.int .i64 (u : Int), .int .i64 (v : Int)] 38)
   have hpw2 := HPW.out.below m1.1
   obtain ⟨x1, x2, x3, hrec⟩ := hpw2.2.1.1
   have cr4 := cell_of_row _ _ 4 _ _ _ hrec
   have cek := hpw2.2.1.2.1.cell k (by rw [HBL.out]; exact hkL)
   obtain ⟨x1', x2', x3', hrec0⟩ := HPW.out.2.1.1
   have dr4 : wr.cell? ⟨sb, 4, none⟩ = some (.slice (some ⟨eb, 0, none⟩) m m) := by rw [HM.out]; exact cell_of_row _ _ 4 _ _ _ hrec0
   have dek := HPW.out.2.1.2.1.cell k (by rw [HBL.out]; exact hkL)
   have hsbl : sb < wr.heap.size := (Array.getElem?_eq_some_iff.1 hrec0).1
   have hebl : eb < wr.heap.size := HPW.out.2.1.2.1.lt
   have hkn : 0 ≤ (k : Int) ∧ (k : Int) < (m : Int) := by omega
   have c15 := cell_of_row _ _ 0 _ _ _ m1.2
   have c16 := cell_of_row _ _ 1 _ _ _ m1.2
   have HPK : Hid (PP k = !(searchD L n).br.getD k false) := by show _ = _; rw [HPP.out]; rfl
   have HPW2 := Lib.hid hpw2
   have m3 := new_block (wr.alloc (.cells #[.int .i64 (u : Int), .int .i64 (v : Int)] 38)) (.cells #[.int .i64 (u : Int), .int .i64 (v : Int)] 38)
   rw [World.size_alloc] at m3
   have HM3 : Hid (Below (wr.alloc (.cells #[.int .i64 (u : Int), .int .i64 (v : Int)] 38)).heap.size _ _ ∧ _) := ⟨by rw [World.size_alloc]; exact m3.1, m3.2⟩
   have HO3 : Hid (OwnL ((wr.alloc (.cells #[.int .i64 (u : Int), .int .i64 (v : Int)] 38)).alloc (.cells #[.int .i64 (u : Int), .int .i64 (v : Int)] 38)) w.heap.size (.slice av nv cv) (prI (pickN L PP k))) := owns_below HPW2.out.1 HM3.out.1
   have HSZ3 : Hid (w.heap.size ≤ ((wr.alloc (.cells #[.int .i64 (u : Int), .int .i64 (v : Int)] 38)).alloc (.cells #[.int .i64 (u : Int), .int .i64 (v : Int)] 38)).heap.size) := Nat.le_trans HPW2.out.2.2.size HM3.out.1.size
   have HSM : Hid ((prI (pickN L PP k)).length ≤ 1000000) := by show _ ≤ _; rw [prI_len]; have := pickN_len (L := L) (P := PP) k; omega
   obtain ⟨bq, hbq⟩ : ∃ x, x = (searchD L n).br.getD k false := ⟨_, rfl⟩
   rw [← hbq] at dek HPK
   clear hpw2 hu hv m1 m3 hkL HPW hrec hrec0 hbq cr4 cek c15 c16
   cases bq with
   | true =>
    have HPT : Hid (PP k = false) := HPK.out
    have HPW3 : Hid (PW w L n (.slice (some ⟨bl, ol, none⟩) m cap) sb eb jb PP (k + 1) (.slice av nv cv) (wr.alloc (.cells #[.int .i64 (u : Int), .int .i64 (v : Int)] 38))) := HPW2.out.skip HPT.out
    go_wp2_with (fail)
    go_roundw
    case rel => exact ⟨k + 1, nv, cv, av, rfl, by go_num, by omega, HPW3.out⟩
    case measure => simp [intOf] <;> omega
   | false =>
    have HPT : Hid (PP k = true) := HPK.out
    go_wp2_with (at_builtin; refine wpList_append_l rfl _ _ rfl w.heap.size _ _ rfl HO3.out (wr.heap.size + 1) ((u : Int), (v : Int)) rfl HM3.out.2 HSM.out HSZ3.out ?_)
    intro v5 W5 ho5 hg5
    have HPW5 : Hid (PW w L n (.slice (some ⟨bl, ol, none⟩) m cap) sb eb jb PP (k + 1) v5 W5) := (HPW2.out.below HM3.out.1).grown HPT.out (by rw [← HU.out.1, ← HU.out.2]; exact ho5) hg5
    obtain ⟨av2, cv2, hv5⟩ := owns_form ho5
    clear ho5 hg5
    subst hv5
    go_wp2_with (fail)
    go_roundw
    case rel => exact ⟨k + 1, _, cv2, av2, rfl, by go_num, by omega, HPW5.out⟩
    case measure => simp [intOf] <;> omega
  ·obtain rfl : k = m := by omega
   have hrl : Lis wr wr.heap.size (.slice av nv cv) R := by
    have h0 := HPW.out.1.lks
    rw [HM.out, ← HR.out] at h0
    exact h0
   have HRL := Lib.hid hrl
   have HB1 := Lib.hid HPW.out.2.2
   clear HPW hrl
   go_wp2_with (refine wpList_make_bool rfl _ _ rfl n rfl rfl (by omega) ?_)
   intro db W2 hrow hge hbel
   have HBK : Hid (BLK wr wr.heap.size R n (.slice av nv cv) db 0 (.slice none 0 0) W2) := ⟨HRL.out.below hbel (Nat.le_refl _), hrow, OwnG.nil _ _, hbel, hge⟩
   clear hrow hge hbel HRL
   obtain ⟨Wz, hWz⟩ : ∃ Wz, Wz = wr := ⟨_, rfl⟩
   have HB2 : Hid (Below w.heap.size w Wz) := by rw [hWz]; exact HB1.out
   rw [← hWz] at HBK
   clear hWz HB1
   go_wp2_with (fail)
   go_loopw [9, 41] (fun ov vv wx => ∃ v no co : Nat, ∃ ao', ov = .slice ao' no co ∧ vv = .int .i64 (v : Int) ∧ v ≤ n ∧ Hid (BLK Wz Wz.heap.size R n (.slice av nv cv) db v (.slice ao' no co) wx)) (fun _ vv _ => n - (intOf vv).toNat)
   case atStart => exact ⟨0, 0, 0, none, rfl, rfl, Nat.zero_le _, HBK.out⟩
   case round =>
    clear HBK
    obtain ⟨v, no, co, ao', rfl, rfl, hv, HBK⟩ := hrel
    by_cases hlt : v < n
    ·obtain ⟨hrl, hdb, hog, hbe, hge⟩ := HBK.out
     have cdv := hdb.cell v (by rw [blkN_len]; exact hlt)
     have hdl := hdb.lt
     have hvn : 0 ≤ (v : Int) ∧ (v : Int) < (n : Int) := by omega
     obtain ⟨bq, hbq⟩ : ∃ x, x = (blkN R n v).1.getD v false := ⟨_, rfl⟩
     rw [← hbq] at cdv
     have HBQ := Lib.hid hbq
     have HOG := Lib.hid hog
     have HBE := Lib.hid hbe
     have HGE := Lib.hid hge
     have HRLv := Lib.hid hrl
     have HDB := Lib.hid hdb
     clear HBK hrl hdb hog hbe hge hbq
     cases bq with
     | true =>
      have HN : Hid (blkN R n (v + 1) = blkN R n v) := by show (if _ then _ else _) = _; rw [if_pos HBQ.out.symm]
      have HBK2 : Hid (BLK Wz Wz.heap.size R n (.slice av nv cv) db (v + 1) (.slice ao' no co) wr) := by
       show BLK _ _ _ _ _ _ _ _ _
       unfold BLK
       rw [HN.out]
       exact ⟨HRLv.out, HDB.out, HOG.out, HBE.out, HGE.out⟩
      go_wp2_with (fail)
      go_roundw
      case rel => exact ⟨v + 1, no, co, ao', rfl, by go_num, by omega, HBK2.out⟩
      case measure => simp [intOf] <;> omega
     | false =>
      obtain ⟨D, hD⟩ : ∃ D, D = farI R n (v : Int) := ⟨_, rfl⟩
      have HN : Hid (blkN R n (v + 1) = (setD (blkN R n v).1 D n, (blkN R n v).2 ++ [rowD D n])) := by show (if _ then _ else _) = _; rw [if_neg (by rw [← HBQ.out]; simp), ← hD]
      have HFA := Lib.hid (far_any wr (.slice av nv cv) n R (v : Int) (HRLv.out.below (Below.refl _ _) HBE.out.size) HFR.out hn (by omega))
      rw [← hD] at HFA
      have hDl : D.length = n := by rw [hD]; exact (far_ok HFR.out hlt).dl
      clear hD
      go_wp2_with (fail)
      refine HFA.out.mono ?_
      rintro e Wf ⟨⟨fb, rfl, hfr, hfg⟩, hbf⟩
      have HIB : Hid (IBK Wf Wz.heap.size R n fb db v 0 D (.slice none 0 0) Wf) := ⟨OwnN.nil _ _, HDB.out.keep hbf, hfr, fun _ _ _ => rfl, Below.refl _ _, Nat.le_refl _⟩
      have HKF : Hid (Lis Wf Wz.heap.size (.slice av nv cv) R ∧ OwnG Wf (db + 1) (.slice ao' no co) (nII (blkN R n v).2) ∧ Below Wz.heap.size Wz Wf ∧ db < Wf.heap.size ∧ fb < Wf.heap.size ∧ db < fb) := ⟨HRLv.out.below (hbf.mono HBE.out.size) (Nat.le_refl _), HOG.out.below hbf, HBE.out.trans (hbf.mono HBE.out.size), by have := hbf.size; omega, hfr.lt, by omega⟩
      clear hfr hfg hbf HFA cdv hdl HOG HBE HRLv HDB
      go_wp2_with (fail)
      go_loopw [12, 53] (fun rw_ uv wx => ∃ u nr cr : Nat, ∃ ar, rw_ = .slice ar nr cr ∧ uv = .int .i64 (u : Int) ∧ u ≤ n ∧ Hid (IBK Wf Wz.heap.size R n fb db v u D (.slice ar nr cr) wx)) (fun _ uv _ => n - (intOf uv).toNat)
      case atStart => exact ⟨0, 0, 0, none, rfl, rfl, Nat.zero_le _, HIB.out⟩
      case round =>
       clear HIB
       obtain ⟨u, nr, cr, ar, rfl, rfl, hu, HIB⟩ := hrel
       by_cases hult : u < n
       ·obtain ⟨ho, hd, hfd, hkx, hbx, hsx⟩ := HIB.out
        have cfu := hfd.cell u (by rw [hDl]; exact hult)
        have hfl := hfd.lt
        have hun : 0 ≤ (u : Int) ∧ (u : Int) < (n : Int) := by omega
        obtain ⟨du, hdu⟩ : ∃ x, x = D.getD u 0 := ⟨_, rfl⟩
        rw [← hdu] at cfu
        have HDU := Lib.hid hdu
        have HO := Lib.hid ho
        have HD := Lib.hid hd
        have HFD := Lib.hid hfd
        have HKX := Lib.hid hkx
        have HBX := Lib.hid hbx
        have HSX := Lib.hid hsx
        clear HIB ho hd hfd hkx hbx hsx hdu
        by_cases h0 : 0 ≤ du
        ·have HST : Hid (setD (blkN R n v).1 D (u + 1) = (setD (blkN R n v).1 D u).set u true ∧ rowD D (u + 1) = rowD D u ++ [u]) := by
          refine ⟨?_, ?_⟩
          ·show (if _ then _ else _) = _; rw [if_pos (by rw [← HDU.out]; exact h0)]
          ·unfold rowD; rw [List.range_succ, List.filter_append, List.filter_cons, ← HDU.out]; simp [h0]
         have m1 := new_block wr (.cells #[.int .i64 (u : Int)] 3)
         have HM1 := Lib.hid m1
         have HO1 : Hid (OwnN (wr.alloc (.cells #[.int .i64 (u : Int)] 3)) Wf.heap.size (.slice ar nr cr) (nI (rowD D u))) := owns_below HO.out m1.1
         have HS1 : Hid (Wf.heap.size ≤ (wr.alloc (.cells #[.int .i64 (u : Int)] 3)).heap.size) := Nat.le_trans HSX.out m1.1.size
         have HSM : Hid ((nI (rowD D u)).length ≤ 1000000) := by show _ ≤ _; rw [List.length_map]; have := rowD_few (d := D) (k := u); omega
         clear m1
         go_wp2_with (at_builtin; refine wpList_append_n rfl _ _ rfl Wf.heap.size _ _ rfl HO1.out wr.heap.size (u : Int) rfl HM1.out.2 HSM.out HS1.out ?_)
         intro v5 W5 ho5 hg5
         have hb5 := grown_low HO1.out hg5 (Below.refl Wf.heap.size _) (Nat.le_refl _) HS1.out
         have hkf := HKF.out
         have hgz := HGE.out
         have hk5 : ∀ c, c ≠ db → c < Wf.heap.size → W5.heap[c]? = Wf.heap[c]? := fun c h1 h2 => ((hb5.block c h2).trans (HM1.out.1.block c (by have := HSX.out; omega))).trans (HKX.out c h1 h2)
         have hd5 : RowB W5 db (setD (blkN R n v).1 D u) := (HD.out.of (HM1.out.1.block db HD.out.lt)).of (hb5.block db hkf.2.2.2.1)
         have hf5 : RowI W5 fb D := (HFD.out.of (HM1.out.1.block fb HFD.out.lt)).of (hb5.block fb hkf.2.2.2.2.1)
         have hz5 : Below Wz.heap.size Wf W5 := (HBX.out.trans (HM1.out.1.mono (by have := HSX.out; omega))).trans (hb5.mono (by omega))
         have cd5 := hd5.cell u (by rw [setD_len, blkN_len]; exact hult)
         have fd5 := hd5.frozen u
         have hdl5 := hd5.lt
         obtain ⟨av5, cv5, hv5⟩ := owns_form ho5
         have HIB5 : Hid (IBK Wf Wz.heap.size R n fb db v (u + 1) D v5 (W5.setCell ⟨db, u, none⟩ (.bool true))) := by
          refine ⟨?_, ?_, ?_, fun c h1 h2 => (Below.heap_setCell _ _ _ _ h1).trans (hk5 c h1 h2), bel_set hgz hz5, by have := HS1.out; have := hb5.size; simp; omega⟩
          ·have h9 : OwnN W5 Wf.heap.size v5 (nI (rowD D (u + 1))) := by rw [HST.out.2]; simpa [nI] using ho5
           exact owns_same h9 fun k cur _ hk hB => Below.heap_setCell _ _ _ _ (by show k ≠ db; omega)
          ·rw [HST.out.1]; exact RowB.set hd5 u true
          ·exact hf5.other (by omega) _
         clear ho5 hg5 hb5 hk5 hd5 hf5 hz5
         subst hv5
         go_wp2_with (fail)
         go_roundw
         case rel => exact ⟨u + 1, _, cv5, av5, rfl, by go_num, by omega, HIB5.out⟩
         case measure => simp [intOf] <;> omega
        ·have HIB5 : Hid (IBK Wf Wz.heap.size R n fb db v (u + 1) D (.slice ar nr cr) wr) := by
          refine ⟨?_, ?_, HFD.out, HKX.out, HBX.out, HSX.out⟩
          ·have e : rowD D (u + 1) = rowD D u := by unfold rowD; rw [List.range_succ, List.filter_append, List.filter_cons, ← HDU.out]; simp [h0]
           rw [e]; exact HO.out
          ·have e : setD (blkN R n v).1 D (u + 1) = setD (blkN R n v).1 D u := by show (if _ then _ else _) = _; rw [if_neg (by rw [← HDU.out]; exact h0)]
           rw [e]; exact HD.out
         go_wp2_with (fail)
         go_roundw
         case rel => exact ⟨u + 1, nr, cr, ar, rfl, by go_num, by omega, HIB5.out⟩
         case measure => simp [intOf] <;> omega
       ·obtain rfl : u = n := by omega
        obtain ⟨ho, hd, hfd, hkx, hbx, hsx⟩ := HIB.out
        have hkf := HKF.out
        have hgz := HGE.out
        have hog : OwnG wr (db + 1) (.slice ao' no co) (nII (blkN R u v).2) := hkf.2.1.of fun c cs ty hc ht hB => hkx c (by omega) (Array.getElem?_eq_some_iff.1 hc).1
        have m2 := new_block wr (.cells #[.slice ar nr cr] 35)
        have HOG3 := Lib.hid (hog.below m2.1)
        have HOW3 : Hid (OwnN (wr.alloc (.cells #[.slice ar nr cr] 35)) (db + 1) (.slice ar nr cr) (nI (rowD D u))) := owns_mono (owns_below ho m2.1) (by omega)
        have HM2 := Lib.hid m2
        have HBZ3 : Hid (db + 1 ≤ (wr.alloc (.cells #[.slice ar nr cr] 35)).heap.size) := by have := m2.1.size; show _ ≤ _; omega
        have HSM : Hid ((nII (blkN R u v).2).length ≤ 1000000) := by show _ ≤ _; rw [List.length_map]; have := blkN_few (R := R) (n := u) v; omega
        have HDR := Lib.hid (hd.keep m2.1)
        have HZ3 : Hid (Below Wz.heap.size Wz (wr.alloc (.cells #[.slice ar nr cr] 35))) := (hkf.2.2.1.trans hbx).trans (m2.1.mono (by omega))
        have HLI3 : Hid (Lis (wr.alloc (.cells #[.slice ar nr cr] 35)) Wz.heap.size (.slice av nv cv) R) := (hkf.1.below hbx (Nat.le_refl _)).below (m2.1.mono (by omega)) (Nat.le_refl _)
        clear HIB ho hd hfd hkx hbx hsx hog m2 hkf hgz
        go_wp2_with (at_builtin; refine wpList_append_g rfl _ _ rfl (db + 1) _ _ rfl HOG3.out wr.heap.size (nI (rowD D u)) (.slice ar nr cr) rfl HM2.out.2 HOW3.out HSM.out HBZ3.out ?_)
        intro v5 W5 hog5 hb5 hk5
        have HBK5 : Hid (BLK Wz Wz.heap.size R u (.slice av nv cv) db (v + 1) v5 W5) := by
         have hgz := HGE.out
         refine ⟨HLI3.out.below (hb5.mono (by omega)) (Nat.le_refl _), ?_, ?_, HZ3.out.trans (hb5.mono (by omega)), hgz⟩
         ·rw [HN.out]; exact HDR.out.of (hb5.block db (Nat.lt_succ_self _))
         ·rw [HN.out]
          rw [show nII ((blkN R u v).2 ++ [rowD D u]) = nII (blkN R u v).2 ++ [nI (rowD D u)] by simp [nII]]
          exact hog5
        obtain ⟨av5, cv5, hv5⟩ := hog5.form
        clear hog5 hb5 hk5
        subst hv5
        go_wp2_with (fail)
        go_roundw
        case rel => exact ⟨v + 1, _, cv5, av5, rfl, by go_num, by omega, HBK5.out⟩
        case measure => simp [intOf] <;> omega
    ·obtain rfl : v = n := by omega
     obtain ⟨hrl, hdb, hog, hbe, hge⟩ := HBK.out
     have hsz := HB2.out.size
     have HFIN : Hid (OwnG wr w.heap.size (.slice ao' no co) (nII (blkN R v v).2)) := by
      obtain ⟨vs, h1, h2, h3⟩ := hog
      exact ⟨vs, h1, owns_mono h2 (by omega), fun i hi => owns_mono (h3 i hi) (by omega)⟩
     have HFB : Hid (Below w.heap.size w wr) := HB2.out.trans (hbe.mono hsz)
     clear HBK hrl hdb hog hbe hge
     go_wp2_with (fail)
     go_ret
     exact ⟨⟨_, rfl, HFIN.out⟩, HFB.out⟩

end Go.Proofs.Ytenilbofncfbdaa

