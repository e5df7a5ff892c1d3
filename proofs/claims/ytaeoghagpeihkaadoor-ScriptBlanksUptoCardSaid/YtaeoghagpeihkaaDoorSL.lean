/- A range over a function (see Range) whose assignment of the round's variables makes blocks.
A range over a function whose iterator turns ONE block of its own (a box) between two rounds; its rounds all go on.
A range over a function within a round of another (by program: wip/tools/gen_rangen.py): the outer law tells its round of its own record.
Small laws for functions that range over a function (the same as in Hist17). -/
import Derived.Test.YtaeoghagpeihkaaDoorSA
import Derived.WalkMore
set_option linter.unusedSimpArgs false
set_option linter.unusedVariables false
namespace Go.Proofs.YtaeoghagpeihkaaDoor
open Go.RowKit

variable {F : Fence} {n : Nat} {P : Program}

end Go.Proofs.YtaeoghagpeihkaaDoor

namespace Go.Proofs.YtaeoghagpeihkaaDoor
open Go.RowKit

/-- nothing that is there turns, but block b -/
structure Turns (b : Nat) (W W' : World) : Prop where
  os : W'.os = W.os
  tape : W'.tape = W.tape
  output : W'.output = W.output
  size : W.heap.size ≤ W'.heap.size
  block : ∀ k, k < W.heap.size → k ≠ b → W'.heap[k]? = W.heap[k]?
theorem Turns.of_below {b : Nat} {W W' : World} (h : Below W.heap.size W W') : Turns b W W' := ⟨h.os, h.tape, h.output, h.size, fun k hk _ => h.block k hk⟩
theorem Turns.trans {b : Nat} {A B C : World} (h : Turns b A B) (k : Turns b B C) : Turns b A C :=
  ⟨k.os.trans h.os, k.tape.trans h.tape, k.output.trans h.output, Nat.le_trans h.size k.size, fun j hj hb => (k.block j (Nat.lt_of_lt_of_le hj h.size) hb).trans (h.block j hj hb)⟩
theorem Turns.set {b i : Nat} {A B : World} {v : Value} (h : Turns b A B) : Turns b A (B.setCell ⟨b, i, none⟩ v) :=
  ⟨h.os, h.tape, h.output, by simpa [World.setCell] using h.size, fun j hj hb => (Below.heap_setCell _ _ _ _ hb).trans (h.block j hj hb)⟩
theorem Turns.below {b B : Nat} {W W' : World} (h : Turns b W W') (hb : B ≤ b) (hB : B ≤ W.heap.size) : Below B W W' := ⟨h.os, h.tape, h.output, h.size, fun k hk => h.block k (Nat.lt_of_lt_of_le hk hB) (by omega)⟩
def StaysBut {α : Type} (b : Nat) (J : List α → World → Prop) : Prop := ∀ s W W', J s W → Turns b W W' → J s W'

variable {F : Fence} {n : Nat} {P : Program}

end Go.Proofs.YtaeoghagpeihkaaDoor

namespace Go.Proofs.YtaeoghagpeihkaaDoor
open Go.RowKit

variable {F : Fence} {n : Nat} {P : Program}

/-- a range over a function within a round of another; the round is told of its own record; what takes an element in may make blocks and store (Ax: what it leaves) -/
theorem wpIn_range_N {α : Type} {g : Operand} {ps : Array Tmp} {assign body : Code} {Q : Exit → Act → World → Prop} {a : Act} {w : World}
    {l₀ : Nat} {r₀ : Loop} (hro : F.round = some l₀) (hl₀ : w.heap[l₀]? = some (.loop r₀)) (h1 : 1 ≤ n) {gf : Nat} {lb : Array Value} (hg : a.eval g = .func (.func gf) #[] lb) (hFg : F.fn gf) (eg : ∀ args w, (callFunc gf args).run P w = .ok (.enter gf args) w)
    {encs : α → Array Value} {Inv : World → Prop} {R : List α → α → World → Prop} {S Sp : List α → Prop} (hit : Iterates F (n - 1) P gf lb encs Inv R S Sp)
    (hps : ∀ x, (encs x).size = ps.size)
    (hRput : ∀ pre x W l (o o' : Obj), R pre x W → W.heap[l]? = some o → o.isCells = false → R pre x (W.putObj l o'))
    (I : List α → World → Prop) (Ix : Code → List α → World → Prop) (hI : StaysGrown I) (hIp : StaysPut w.heap.size I) (hIxp : ∀ c, StaysPut w.heap.size (Ix c)) (hInv : ∀ s W, I s W → Inv W) (h0 : I [] w) {β₁ β₂ β₃ β₄ β₅ β₆ : Type} (A : β₁ → β₂ → β₃ → β₄ → β₅ → β₆ → Act) (Ax : α → β₁ → β₂ → β₃ → β₄ → β₅ → β₆ → World → Prop) (hAxp : ∀ x b₁ b₂ b₃ b₄ b₅ b₆ W l (o o' : Obj), Ax x b₁ b₂ b₃ b₄ b₅ b₆ W → w.heap.size ≤ l → W.heap[l]? = some o → o.isCells = false → Ax x b₁ b₂ b₃ b₄ b₅ b₆ (W.putObj l o'))
    (hassign : ∀ (l : Nat) (pre : List α) (x : α) (W : World) (K : Act → World → Prop), I pre W → R pre x W → (∀ b₁ b₂ b₃ b₄ b₅ b₆ W', KeepsOthers W W' → I pre W' → R pre x W' → Ax x b₁ b₂ b₃ b₄ b₅ b₆ W' → K (A b₁ b₂ b₃ b₄ b₅ b₆) W') →
      assign.wpIn (F.inRound l) (n - 1 - 1) P (Exit.then K (fun _ _ _ => False)) { tmps := (ps.zip (encs x)).foldl (fun t (p, v) => t.setIfInBounds p v) a.tmps, defers := [] } W)
    (hbody : ∀ (l : Nat) (pre : List α) (x : α) b₁ b₂ b₃ b₄ b₅ b₆ (W : World), w.heap.size ≤ l → (∃ r, W.heap[l]? = some (.loop r)) → I pre W → R pre x W → Ax x b₁ b₂ b₃ b₄ b₅ b₆ W → body.wpIn (F.inRound l) (n - 1 - 1) P (ownPost I Ix (pre ++ [x]) W) (A b₁ b₂ b₃ b₄ b₅ b₆) W)
    (hdone : ∀ (xs : List α) (W : World), S xs → I xs W → Q .normal a W)
    (hstop : ∀ (c : Code) (pre : List α) (W : World), Sp pre → Ix c pre W → c.wpIn F n P Q a W) :
    (Code.rangeFunc g ps assign body).wpIn F n P Q a w := by
  refine wpIn_rangeFunc fun fn hfn => ?_
  rw [hro]
  generalize hr0 : (fun (st : LoopState) (pe : Option Code) => ({ state := st, pending := pe, fn, tmps := a.tmps, params := ps, assign, body, defers := r₀.defers } : Loop)) = mk
  have mkps : ∀ st pe, (mk st pe).params = ps := fun st pe => by rw [← hr0]
  have mkEnd : ∀ (W : World) (l : Nat) (st : LoopState) (pe : Option Code), st ≠ .busy → W.heap[l]? = some (.loop (mk st pe)) → (Instr.endLoop l).run P W = .ok pe (W.putObj l (.loop (mk .exhausted pe))) :=
    fun W l st pe hst hl => by subst hr0; exact run_endLoop hl hst
  have mkBegin : ∀ (W : World) (l : Nat) (pe : Option Code), W.heap[l]? = some (.loop (mk .ready pe)) → (Instr.beginRound l).run P W = .ok () (W.putObj l (.loop (mk .busy pe))) :=
    fun W l pe hl => by subst hr0; exact run_beginRound hl rfl
  have mkRound : ∀ (W : World) (l : Nat) (pe jump : Option Code), W.heap[l]? = some (.loop (mk .busy pe)) → (Instr.endRound l jump).run P W = .ok (.bool jump.isNone) (W.putObj l (.loop (mk (if jump.isNone then .ready else .done) jump))) :=
    fun W l pe jump hl => by subst hr0; exact run_endRound jump hl
  generalize hw1 : w.alloc (.loop (mk .ready none)) = W1
  have below1 : Below w.heap.size w W1 := by
    rw [← hw1]; exact (Below.refl _ w).alloc (Nat.le_refl _) _
  have rec1 : W1.heap[w.heap.size]? = some (.loop (mk .ready none)) := by
    rw [← hw1]; exact World.alloc_heap_new w _
  have keep2 : ∀ {A B : World} {k : Nat} {o : Obj}, Below A.heap.size A B → A.heap[k]? = some o → B.heap[k]? = some o := fun hb hk => (hb.block _ (Array.getElem?_eq_some_iff.1 hk).1).trans hk
  refine ⟨w.heap.size, [], W1, { target := .fn (.func gf) lb, args := #[.func (.yield (w.heap.size)) #[] #[]] }, W1, gf,
    #[.func (.yield (w.heap.size)) #[] #[]] ++ lb, W1, ?_, ?_, ?_, ?_, fun _ => h1, ?_⟩
  · rw [← hw1, ← hr0]; exact run_enterLoop_inner hl₀ _ _ _ _ _
  · simp only [resolve, hg]
    simp [go_sem]
  · intro f' hf'
    simp [Target.leads] at hf'
    subst hf'
    exact hFg
  · simp [invoke, go_sem, eg]
  refine (hit (w.heap.size)
    (fun pre W => I pre W ∧ W.heap[w.heap.size]? = some (.loop (mk .ready none)))
    (fun pre W => ∃ c, Ix c pre W ∧ W.heap[w.heap.size]? = some (.loop (mk .done (some c))))
    W1 (fun s A B h hb => ⟨hI s A B h.1 hb, keep2 hb h.2⟩) (fun s W h => hInv s W h.1) ?round ⟨hI [] w W1 h0 below1, rec1⟩).mono ?after
  case after =>
    rintro e W2 ⟨⟨v, rfl⟩, (⟨xs, hS, hi, hl⟩ | ⟨pre, hSp, c, hi, hl⟩)⟩
    · have he := mkEnd _ _ _ _ (by simp) hl
      exact ⟨none, _, he, hdone xs _ hS (hIp _ _ _ _ _ hi (by omega) hl rfl)⟩
    · have he := mkEnd _ _ _ _ (by simp) hl
      exact ⟨some c, _, he, hstop c pre _ hSp (hIxp c _ _ _ _ _ hi (by omega) hl rfl)⟩
  case round =>
    rintro pre x W ⟨hi, hl⟩ hR
    have hlt : w.heap.size < W.heap.size := (Array.getElem?_eq_some_iff.1 hl).1
    have hy := run_yield (P := P) (args := encs x) hl (by rw [mkps]; exact hps x)
    have hyy : (Instr.yield (w.heap.size) (encs x)).run P W = .ok (.round (w.heap.size) fn ((ps.zip (encs x)).foldl (fun t (p, v) => t.setIfInBounds p v) a.tmps) assign body) W := by
      rw [hy, ← hr0]
    refine ⟨fn, _, assign, body, hyy, roundIn_of_wpIn hfn (hassign _ pre x W _ hi hR fun b₁ b₂ b₃ b₄ b₅ b₆ W' hko hi' hR' hAx => ⟨_, mkBegin _ _ _ (hko.same _ _ hl rfl), ?_⟩)⟩
    replace hl := hko.same _ _ hl rfl
    replace hi := hi'
    replace hR := hR'
    have hlt : w.heap.size < W'.heap.size := (Array.getElem?_eq_some_iff.1 hl).1
    have hAb := hAxp _ _ _ _ _ _ _ _ (w.heap.size) _ (.loop (mk .busy none)) hAx (by omega) hl rfl
    generalize hwb : W'.putObj (w.heap.size) (.loop (mk .busy none)) = Wb at *
    have hlb : Wb.heap[w.heap.size]? = some (.loop (mk .busy none)) := by rw [← hwb]; exact World.putObj_heap_same hlt
    have hib : I pre Wb := by rw [← hwb]; exact hIp _ _ _ _ _ hi (by omega) hl rfl
    have hRb : R pre x Wb := by rw [← hwb]; exact hRput _ _ _ _ _ _ hR hl rfl
    refine wpIn_mono (hbody _ pre x _ _ _ _ _ _ Wb (Nat.le_refl _) ⟨_, hlb⟩ hib hRb hAb) ?_
    have fin : ∀ (jump : Option Code) (W3 : World), KeepsOthers Wb W3 → ∃ W4, (Instr.endRound (w.heap.size) jump).run P W3 = .ok (.bool jump.isNone) W4 ∧ W4 = W3.putObj (w.heap.size) (.loop (mk (if jump.isNone then .ready else .done) jump)) ∧
        W3.heap[w.heap.size]? = some (.loop (mk .busy none)) ∧
        W4.heap[w.heap.size]? = some (.loop (mk (if jump.isNone then .ready else .done) jump)) := by
      intro jump W3 hk3
      have hl3 := hk3.same _ _ hlb rfl
      have he := mkRound _ _ _ jump hl3
      exact ⟨_, he, rfl, hl3, World.putObj_heap_same (Array.getElem?_eq_some_iff.1 hl3).1⟩
    rintro e a3 W3 hp
    cases e with
    | normal =>
      obtain ⟨hk3, hi3⟩ := hp
      obtain ⟨W4, hr, h4, hl3, hl4⟩ := fin none W3 hk3
      exact ⟨_, _, hr, .inl ⟨rfl, by rw [h4]; exact hIp _ _ _ _ _ hi3 (by omega) hl3 rfl, hl4⟩⟩
    | ret =>
      obtain ⟨hk3, hi3⟩ := hp
      obtain ⟨W4, hr, h4, hl3, hl4⟩ := fin (some .ret) W3 hk3
      exact ⟨_, _, hr, .inr ⟨rfl, .ret, by rw [h4]; exact hIxp _ _ _ _ _ _ hi3 (by omega) hl3 rfl, hl4⟩⟩
    | exit id =>
      obtain ⟨hk3, hi3⟩ := hp
      obtain ⟨W4, hr, h4, hl3, hl4⟩ := fin (some (.exit id)) W3 hk3
      exact ⟨_, _, hr, .inr ⟨rfl, .exit id, by rw [h4]; exact hIxp _ _ _ _ _ _ hi3 (by omega) hl3 rfl, hl4⟩⟩
    | goto t =>
      obtain ⟨hk3, hi3⟩ := hp
      obtain ⟨W4, hr, h4, hl3, hl4⟩ := fin (some (.goto t)) W3 hk3
      exact ⟨_, _, hr, .inr ⟨rfl, .goto t, by rw [h4]; exact hIxp _ _ _ _ _ _ hi3 (by omega) hl3 rfl, hl4⟩⟩
    | panic ch => exact hp.elim
    | outgrown => exact hp.elim


/-- THE CONTRACT OF AN ITERATOR's VALUE THAT HAS A BOX, whose rounds may break. o0: what lies in it at the beginning; R: what is known of an element when it is handed over; S: all have come; Sp: a part has come. -/
def IteratesBX {α : Type} (F : Fence) (n : Nat) (P : Program) (g : Nat) (lb : Array Value) (encs : α → Array Value) (b : Nat) (o0 : Obj) (R : List α → α → Prop) (S Sp : List α → Prop) : Prop :=
  ∀ (l : Nat) (J Jx : List α → World → Prop) (W : World), StaysBut b J →
    (∀ pre x W1, J pre W1 → R pre x → YieldAt F (n - 1) P l (encs x) W1 fun e W' => (e = .returned (.bool true) ∧ J (pre ++ [x]) W' ∧ W'.heap[b]? = W1.heap[b]?) ∨ (e = .returned (.bool false) ∧ Jx (pre ++ [x]) W')) →
    J [] W → W.heap[b]? = some o0 →
    CallsIn F n P g (#[.func (.yield l) #[] #[]] ++ lb) W fun e W' => (∃ v, e = .returned v) ∧ ((∃ xs, S xs ∧ J xs W') ∨ (∃ pre, Sp pre ∧ Jx pre W'))
def ownPostX {α : Type} (b : Nat) (I : List α → World → Prop) (Ix : Code → List α → World → Prop) (xs : List α) (W : World) : Exit → Act → World → Prop
  | .normal, _, W' => KeepsOthers W W' ∧ W'.heap[b]? = W.heap[b]? ∧ I xs W'
  | .ret, _, W' => KeepsOthers W W' ∧ Ix .ret xs W'
  | .exit id, _, W' => KeepsOthers W W' ∧ Ix (.exit id) xs W'
  | .goto t, _, W' => KeepsOthers W W' ∧ Ix (.goto t) xs W'
  | .panic _, _, _ => False
  | .outgrown, _, _ => False

/-- a range over an iterator with a box of its own; the round is told of its own record; what takes an element in may make blocks and store (Ax: what it leaves) -/
theorem wpIn_range_BX {α : Type} {g : Operand} {ps : Array Tmp} {assign body : Code} {Q : Exit → Act → World → Prop} {a : Act} {w : World}
    (hro : F.round = none) (h1 : 1 ≤ n) {gf : Nat} {lb : Array Value} (hg : a.eval g = .func (.func gf) #[] lb) (hFg : F.fn gf) (eg : ∀ args w, (callFunc gf args).run P w = .ok (.enter gf args) w)
    {encs : α → Array Value} {b : Nat} {o0 : Obj} {R : List α → α → Prop} {S Sp : List α → Prop} (hit : IteratesBX F (n - 1) P gf lb encs b o0 R S Sp) (hbl : b < w.heap.size) (hb0 : w.heap[b]? = some o0)
    (hps : ∀ x, (encs x).size = ps.size)
    (I : List α → World → Prop) (Ix : Code → List α → World → Prop) (hI : StaysBut b I) (hIp : StaysPut w.heap.size I) (hIxp : ∀ c, StaysPut w.heap.size (Ix c)) (h0 : I [] w) {β₁ β₂ β₃ β₄ β₅ β₆ : Type} (A : β₁ → β₂ → β₃ → β₄ → β₅ → β₆ → Act) (Ax : α → β₁ → β₂ → β₃ → β₄ → β₅ → β₆ → World → Prop) (hAxp : ∀ x b₁ b₂ b₃ b₄ b₅ b₆ W l (o o' : Obj), Ax x b₁ b₂ b₃ b₄ b₅ b₆ W → w.heap.size ≤ l → W.heap[l]? = some o → o.isCells = false → Ax x b₁ b₂ b₃ b₄ b₅ b₆ (W.putObj l o'))
    (hassign : ∀ (l : Nat) (pre : List α) (x : α) (W : World) (K : Act → World → Prop), I pre W → R pre x → (∀ b₁ b₂ b₃ b₄ b₅ b₆ W', Below W.heap.size W W' → I pre W' → Ax x b₁ b₂ b₃ b₄ b₅ b₆ W' → K (A b₁ b₂ b₃ b₄ b₅ b₆) W') →
      assign.wpIn (F.inRound l) (n - 1 - 1) P (Exit.then K (fun _ _ _ => False)) { tmps := (ps.zip (encs x)).foldl (fun t (p, v) => t.setIfInBounds p v) a.tmps, defers := [] } W)
    (hbody : ∀ (l : Nat) (pre : List α) (x : α) b₁ b₂ b₃ b₄ b₅ b₆ (W : World), w.heap.size ≤ l → (∃ r, W.heap[l]? = some (.loop r)) → I pre W → R pre x → Ax x b₁ b₂ b₃ b₄ b₅ b₆ W → body.wpIn (F.inRound l) (n - 1 - 1) P (ownPostX b I Ix (pre ++ [x]) W) (A b₁ b₂ b₃ b₄ b₅ b₆) W)
    (hdone : ∀ (D : Nat) (xs : List α) (W : World), S xs → I xs W → W.heap[D]? = some (.deferred (some [])) → w.heap.size ≤ D → Q .normal { a with defers := { target := .collected D, args := #[] } :: a.defers } W)
    (hstop : ∀ (D : Nat) (c : Code) (pre : List α) (W : World), Sp pre → Ix c pre W → W.heap[D]? = some (.deferred (some [])) → w.heap.size ≤ D → c.wpIn F n P Q { a with defers := { target := .collected D, args := #[] } :: a.defers } W) :
    (Code.rangeFunc g ps assign body).wpIn F n P Q a w := by
  refine wpIn_rangeFunc fun fn hfn => ?_
  rw [hro]
  have hlen : w.heap.size < (w.alloc (.deferred (some []))).heap.size := by simp
  generalize hr0 : (fun (st : LoopState) (pe : Option Code) => ({ state := st, pending := pe, fn, tmps := a.tmps, params := ps, assign, body, defers := w.heap.size } : Loop)) = mk
  have mkps : ∀ st pe, (mk st pe).params = ps := fun st pe => by rw [← hr0]
  have mkEnd : ∀ (W : World) (l : Nat) (st : LoopState) (pe : Option Code), st ≠ .busy → W.heap[l]? = some (.loop (mk st pe)) → (Instr.endLoop l).run P W = .ok pe (W.putObj l (.loop (mk .exhausted pe))) :=
    fun W l st pe hst hl => by subst hr0; exact run_endLoop hl hst
  have mkBegin : ∀ (W : World) (l : Nat) (pe : Option Code), W.heap[l]? = some (.loop (mk .ready pe)) → (Instr.beginRound l).run P W = .ok () (W.putObj l (.loop (mk .busy pe))) :=
    fun W l pe hl => by subst hr0; exact run_beginRound hl rfl
  have mkRound : ∀ (W : World) (l : Nat) (pe jump : Option Code), W.heap[l]? = some (.loop (mk .busy pe)) → (Instr.endRound l jump).run P W = .ok (.bool jump.isNone) (W.putObj l (.loop (mk (if jump.isNone then .ready else .done) jump))) :=
    fun W l pe jump hl => by subst hr0; exact run_endRound jump hl
  generalize hw1 : (w.alloc (.deferred (some []))).alloc (.loop (mk .ready none)) = W1
  have below1 : Below w.heap.size w W1 := by
    rw [← hw1]; exact ((Below.refl _ w).alloc (Nat.le_refl _) _).alloc (by simp) _
  have rec1 : W1.heap[w.heap.size + 1]? = some (.loop (mk .ready none)) := by
    rw [← hw1]; have := World.alloc_heap_new (w.alloc (.deferred (some []))) (.loop (mk .ready none)); rwa [World.size_alloc] at this
  have def1 : W1.heap[w.heap.size]? = some (.deferred (some [])) := by
    rw [← hw1]; exact (Below.heap_alloc _ _ _ hlen).trans (World.alloc_heap_new w _)
  have keep2 : ∀ {A B : World} {k : Nat} {o : Obj}, Below A.heap.size A B → A.heap[k]? = some o → B.heap[k]? = some o := fun hb hk => (hb.block _ (Array.getElem?_eq_some_iff.1 hk).1).trans hk
  refine ⟨w.heap.size + 1, [{ target := .collected w.heap.size, args := #[] }], W1, { target := .fn (.func gf) lb, args := #[.func (.yield (w.heap.size + 1)) #[] #[]] }, W1, gf,
    #[.func (.yield (w.heap.size + 1)) #[] #[]] ++ lb, W1, ?_, ?_, ?_, ?_, fun _ => h1, ?_⟩
  · rw [← hw1, ← hr0]; exact run_enterLoop_outer _ _ _ _ _
  · simp only [resolve, hg]
    simp [go_sem]
  · intro f' hf'
    simp [Target.leads] at hf'
    subst hf'
    exact hFg
  · simp [invoke, go_sem, eg]
  refine (hit (w.heap.size + 1)
    (fun pre W => I pre W ∧ W.heap[w.heap.size + 1]? = some (.loop (mk .ready none)) ∧ W.heap[w.heap.size]? = some (.deferred (some [])))
    (fun pre W => ∃ c, Ix c pre W ∧ W.heap[w.heap.size + 1]? = some (.loop (mk .done (some c))) ∧ W.heap[w.heap.size]? = some (.deferred (some [])))
    W1 (fun s A B h hb => ⟨hI s A B h.1 hb, (hb.block _ (Array.getElem?_eq_some_iff.1 h.2.1).1 (by omega)).trans h.2.1, (hb.block _ (Array.getElem?_eq_some_iff.1 h.2.2).1 (by omega)).trans h.2.2⟩) ?round ⟨hI [] w W1 h0 (Turns.of_below below1), rec1, def1⟩ ((below1.block b hbl).trans hb0)).mono ?after
  case after =>
    rintro e W2 ⟨⟨v, rfl⟩, (⟨xs, hS, hi, hl, hk⟩ | ⟨pre, hSp, c, hi, hl, hk⟩)⟩
    · have he := mkEnd _ _ _ _ (by simp) hl
      exact ⟨none, _, he, hdone _ xs _ hS (hIp _ _ _ _ _ hi (by omega) hl rfl) ((World.putObj_heap_other (by omega)).trans hk) (Nat.le_refl _)⟩
    · have he := mkEnd _ _ _ _ (by simp) hl
      exact ⟨some c, _, he, hstop _ c pre _ hSp (hIxp c _ _ _ _ _ hi (by omega) hl rfl) ((World.putObj_heap_other (by omega)).trans hk) (Nat.le_refl _)⟩
  case round =>
    rintro pre x W ⟨hi, hl, hk⟩ hR
    have hlt : w.heap.size + 1 < W.heap.size := (Array.getElem?_eq_some_iff.1 hl).1
    have hy := run_yield (P := P) (args := encs x) hl (by rw [mkps]; exact hps x)
    have hyy : (Instr.yield (w.heap.size + 1) (encs x)).run P W = .ok (.round (w.heap.size + 1) fn ((ps.zip (encs x)).foldl (fun t (p, v) => t.setIfInBounds p v) a.tmps) assign body) W := by
      rw [hy, ← hr0]
    refine ⟨fn, _, assign, body, hyy, roundIn_of_wpIn hfn (hassign _ pre x W _ hi hR fun b₁ b₂ b₃ b₄ b₅ b₆ W' hbe hi' hAx => ⟨_, mkBegin _ _ _ (keep2 hbe hl), ?_⟩)⟩
    have hltW : b < W.heap.size := by omega
    have hbW : W'.heap[b]? = W.heap[b]? := hbe.block b hltW
    replace hl := keep2 hbe hl
    replace hk := keep2 hbe hk
    replace hi := hi'
    clear hbe
    have hlt : w.heap.size + 1 < W'.heap.size := (Array.getElem?_eq_some_iff.1 hl).1
    have hAb := hAxp _ _ _ _ _ _ _ _ (w.heap.size + 1) _ (.loop (mk .busy none)) hAx (by omega) hl rfl
    generalize hwb : W'.putObj (w.heap.size + 1) (.loop (mk .busy none)) = Wb at *
    have hlb : Wb.heap[w.heap.size + 1]? = some (.loop (mk .busy none)) := by rw [← hwb]; exact World.putObj_heap_same hlt
    have hkb : Wb.heap[w.heap.size]? = some (.deferred (some [])) := by rw [← hwb]; exact (World.putObj_heap_other (by omega)).trans hk
    have hib : I pre Wb := by rw [← hwb]; exact hIp _ _ _ _ _ hi (by omega) hl rfl
    have hbb : Wb.heap[b]? = W.heap[b]? := by rw [← hwb]; exact (World.putObj_heap_other (by omega)).trans hbW
    refine wpIn_mono (hbody _ pre x _ _ _ _ _ _ Wb (Nat.le_succ _) ⟨_, hlb⟩ hib hR hAb) ?_
    have fin : ∀ (jump : Option Code) (W3 : World), KeepsOthers Wb W3 → ∃ W4, (Instr.endRound (w.heap.size + 1) jump).run P W3 = .ok (.bool jump.isNone) W4 ∧ W4 = W3.putObj (w.heap.size + 1) (.loop (mk (if jump.isNone then .ready else .done) jump)) ∧
        W3.heap[w.heap.size + 1]? = some (.loop (mk .busy none)) ∧
        W4.heap[w.heap.size + 1]? = some (.loop (mk (if jump.isNone then .ready else .done) jump)) ∧ W4.heap[w.heap.size]? = some (.deferred (some [])) := by
      intro jump W3 hk3
      have hl3 := hk3.same _ _ hlb rfl
      have he := mkRound _ _ _ jump hl3
      exact ⟨_, he, rfl, hl3, World.putObj_heap_same (Array.getElem?_eq_some_iff.1 hl3).1, (World.putObj_heap_other (by omega)).trans (hk3.same _ _ hkb rfl)⟩
    rintro e a3 W3 hp
    cases e with
    | normal =>
      obtain ⟨hk3, hb3, hi3⟩ := hp
      obtain ⟨W4, hr, h4, hl3, hl4, hk4⟩ := fin none W3 hk3
      exact ⟨_, _, hr, .inl ⟨rfl, ⟨by rw [h4]; exact hIp _ _ _ _ _ hi3 (by omega) hl3 rfl, hl4, hk4⟩, by rw [h4]; exact (World.putObj_heap_other (by omega)).trans (hb3.trans hbb)⟩⟩
    | ret =>
      obtain ⟨hk3, hi3⟩ := hp
      obtain ⟨W4, hr, h4, hl3, hl4, hk4⟩ := fin (some .ret) W3 hk3
      exact ⟨_, _, hr, .inr ⟨rfl, .ret, by rw [h4]; exact hIxp _ _ _ _ _ _ hi3 (by omega) hl3 rfl, hl4, hk4⟩⟩
    | exit id =>
      obtain ⟨hk3, hi3⟩ := hp
      obtain ⟨W4, hr, h4, hl3, hl4, hk4⟩ := fin (some (.exit id)) W3 hk3
      exact ⟨_, _, hr, .inr ⟨rfl, .exit id, by rw [h4]; exact hIxp _ _ _ _ _ _ hi3 (by omega) hl3 rfl, hl4, hk4⟩⟩
    | goto t =>
      obtain ⟨hk3, hi3⟩ := hp
      obtain ⟨W4, hr, h4, hl3, hl4, hk4⟩ := fin (some (.goto t)) W3 hk3
      exact ⟨_, _, hr, .inr ⟨rfl, .goto t, by rw [h4]; exact hIxp _ _ _ _ _ _ hi3 (by omega) hl3 rfl, hl4, hk4⟩⟩
    | panic ch => exact hp.elim
    | outgrown => exact hp.elim


end Go.Proofs.YtaeoghagpeihkaaDoor

namespace Go.Proofs.YtaeoghagpeihkaaDoor
open Go.RowKit

/-- a row stays under a turn of a block that is no row -/
theorem row_put {W : World} {k l : Nat} {cs : Array Value} {t : TypeId} {fr : Nat × Nat} {o : Obj} (o' : Obj) (h : W.heap[k]? = some (.cells cs t fr)) (hl : W.heap[l]? = some o) (hc : o.isCells = false) : (W.putObj l o').heap[k]? = some (.cells cs t fr) := by
  have : l ≠ k := by rintro rfl; rw [h] at hl; cases hl; simp [Obj.isCells] at hc
  rw [World.putObj_heap_other (by omega)]; exact h

theorem marks_ret {F : Fence} {n : Nat} {P : Program} {fn : Func} {R : Ending → World → Prop} {a : Act} {w : World} {v : Value} (hr : (results fn a.tmps).run P w = .ok v w) (hd : a.defers = []) (hR : R (.returned v) w) : bodyPostM F n P fn R .ret a w := by
  show LeavesInM F n P fn a.tmps R a.defers .returning w
  rw [hd]
  exact ⟨v, hr, hR⟩
theorem marks_ret1 {F : Fence} {n : Nat} {P : Program} {fn : Func} {R : Ending → World → Prop} {a : Act} {w : World} {v : Value} {D : Nat} (hd : a.defers = [{ target := .collected D, args := #[] }]) (hD : w.heap[D]? = some (.deferred (some []))) (hr : (results fn a.tmps).run P (w.putObj D (.deferred none)) = .ok v (w.putObj D (.deferred none))) (hR : R (.returned v) (w.putObj D (.deferred none))) : bodyPostM F n P fn R .ret a w := by
  show LeavesInM F n P fn a.tmps R a.defers .returning w
  rw [hd]
  exact ⟨by simp, .inl ⟨_, _, rfl, run_takeDeferred hD, v, hr, hR⟩⟩

end Go.Proofs.YtaeoghagpeihkaaDoor

