/- A range over a function (see Range) whose assignment of the round's variables makes blocks. -/
import Derived.Test.YtgnpjenpehfjbaaDoorRange
namespace Go.Proofs.YtgnpjenpehfjbaaDoor
open Go.RowKit

variable {F : Fence} {n : Nat} {P : Program}

/-- as wpIn_range; what takes an element in may make blocks and store (Ax: what it leaves) -/
theorem wpIn_range_as {α : Type} {g : Operand} {ps : Array Tmp} {assign body : Code} {Q : Exit → Act → World → Prop} {a : Act} {w : World}
    (hro : F.round = none) (h1 : 1 ≤ n) {gf : Nat} {lb : Array Value} (hg : a.eval g = .func (.func gf) #[] lb) (hFg : F.fn gf) (eg : ∀ args w, (callFunc gf args).run P w = .ok (.enter gf args) w)
    {encs : α → Array Value} {Inv : World → Prop} {R : List α → α → World → Prop} {S Sp : List α → Prop} (hit : Iterates F (n - 1) P gf lb encs Inv R S Sp)
    (hps : ∀ x, (encs x).size = ps.size)
    (hRput : ∀ pre x W l (o o' : Obj), R pre x W → W.heap[l]? = some o → o.isCells = false → R pre x (W.putObj l o'))
    (I : List α → World → Prop) (Ix : Code → List α → World → Prop) (hI : StaysGrown I) (hIp : StaysPut w.heap.size I) (hIxp : ∀ c, StaysPut w.heap.size (Ix c)) (hInv : ∀ s W, I s W → Inv W) (h0 : I [] w) {β₁ β₂ β₃ β₄ β₅ β₆ : Type} (A : β₁ → β₂ → β₃ → β₄ → β₅ → β₆ → Act) (Ax : α → β₁ → β₂ → β₃ → β₄ → β₅ → β₆ → World → Prop) (hAxp : ∀ x b₁ b₂ b₃ b₄ b₅ b₆ W l (o o' : Obj), Ax x b₁ b₂ b₃ b₄ b₅ b₆ W → w.heap.size ≤ l → W.heap[l]? = some o → o.isCells = false → Ax x b₁ b₂ b₃ b₄ b₅ b₆ (W.putObj l o'))
    (hassign : ∀ (l : Nat) (pre : List α) (x : α) (W : World) (K : Act → World → Prop), I pre W → R pre x W → (∀ b₁ b₂ b₃ b₄ b₅ b₆ W', KeepsOthers W W' → I pre W' → R pre x W' → Ax x b₁ b₂ b₃ b₄ b₅ b₆ W' → K (A b₁ b₂ b₃ b₄ b₅ b₆) W') →
      assign.wpIn (F.inRound l) (n - 1 - 1) P (Exit.then K (fun _ _ _ => False)) { tmps := (ps.zip (encs x)).foldl (fun t (p, v) => t.setIfInBounds p v) a.tmps, defers := [] } W)
    (hbody : ∀ (l : Nat) (pre : List α) (x : α) b₁ b₂ b₃ b₄ b₅ b₆ (W : World), I pre W → R pre x W → Ax x b₁ b₂ b₃ b₄ b₅ b₆ W → body.wpIn (F.inRound l) (n - 1 - 1) P (ownPost I Ix (pre ++ [x]) W) (A b₁ b₂ b₃ b₄ b₅ b₆) W)
    (hdone : ∀ (D : Nat) (xs : List α) (W : World), S xs → I xs W → W.heap[D]? = some (.deferred (some [])) → w.heap.size ≤ D → Q .normal { a with defers := { target := .collected D, args := #[] } :: a.defers } W)
    (hstop : ∀ (D : Nat) (c : Code) (pre : List α) (W : World), Sp pre → Ix c pre W → W.heap[D]? = some (.deferred (some [])) → w.heap.size ≤ D → c.wpIn F n P Q { a with defers := { target := .collected D, args := #[] } :: a.defers } W) :
    (Code.rangeFunc g ps assign body).wpIn F n P Q a w := by
  refine wpIn_rangeFunc fun fn hfn => ?_
  rw [hro]
  have hlen : w.heap.size < (w.alloc (.deferred (some []))).heap.size := by simp
  generalize hr0 : (fun (st : LoopState) (pe : Option Code) => ({ state := st, pending := pe, fn, tmps := a.tmps, params := ps, assign, body, defers := w.heap.size } : Loop)) = mk
  have mkps : ∀ st pe, (mk st pe).params = ps := fun st pe => by rw [← hr0]
  have mkEnd : ∀ (W : World) (l : Nat) (st : LoopState) (pe : Option Code), st ≠ .busy → W.heap[l]? = some (.loop (mk st pe)) → (Instr.endLoop l).run P W = .ok pe (W.putObj l (.loop (mk .exhausted pe))) :=
    fun W l st pe hst hl => by subst hr0; exact run_endLoop hl hst
  have mkBegin : ∀ (W : World) (l : Nat) (pe : Option Code), W.heap[l]? = some (.loop (mk .ready pe)) → (Instr.beginRound l).run P W = .ok () (W.putObj l (.loop (mk .busy pe))) :=
    fun W l pe hl => by subst hr0; exact run_beginRound hl rfl
  have mkRound : ∀ (W : World) (l : Nat) (pe jump : Option Code), W.heap[l]? = some (.loop (mk .busy pe)) → (Instr.endRound l jump).run P W = .ok (.bool jump.isNone) (W.putObj l (.loop (mk (if jump.isNone then .ready else .done) jump))) :=
    fun W l pe jump hl => by subst hr0; exact run_endRound jump hl
  generalize hw1 : (w.alloc (.deferred (some []))).alloc (.loop (mk .ready none)) = W1
  have below1 : Below w.heap.size w W1 := by
    rw [← hw1]; exact ((Below.refl _ w).alloc (Nat.le_refl _) _).alloc (by simp) _
  have rec1 : W1.heap[w.heap.size + 1]? = some (.loop (mk .ready none)) := by
    rw [← hw1]; have := World.alloc_heap_new (w.alloc (.deferred (some []))) (.loop (mk .ready none)); rwa [World.size_alloc] at this
  have def1 : W1.heap[w.heap.size]? = some (.deferred (some [])) := by
    rw [← hw1]; exact (Below.heap_alloc _ _ _ hlen).trans (World.alloc_heap_new w _)
  have keep2 : ∀ {A B : World} {k : Nat} {o : Obj}, Below A.heap.size A B → A.heap[k]? = some o → B.heap[k]? = some o := fun hb hk => (hb.block _ (Array.getElem?_eq_some_iff.1 hk).1).trans hk
  refine ⟨w.heap.size + 1, [{ target := .collected w.heap.size, args := #[] }], W1, { target := .fn (.func gf) lb, args := #[.func (.yield (w.heap.size + 1)) #[] #[]] }, W1, gf,
    #[.func (.yield (w.heap.size + 1)) #[] #[]] ++ lb, W1, ?_, ?_, ?_, ?_, fun _ => h1, ?_⟩
  · rw [← hw1, ← hr0]; exact run_enterLoop_outer _ _ _ _ _
  · simp only [resolve, hg]
    simp [go_sem]
  · intro f' hf'
    simp [Target.leads] at hf'
    subst hf'
    exact hFg
  · simp [invoke, go_sem, eg]
  refine (hit (w.heap.size + 1)
    (fun pre W => I pre W ∧ W.heap[w.heap.size + 1]? = some (.loop (mk .ready none)) ∧ W.heap[w.heap.size]? = some (.deferred (some [])))
    (fun pre W => ∃ c, Ix c pre W ∧ W.heap[w.heap.size + 1]? = some (.loop (mk .done (some c))) ∧ W.heap[w.heap.size]? = some (.deferred (some [])))
    W1 (fun s A B h hb => ⟨hI s A B h.1 hb, keep2 hb h.2.1, keep2 hb h.2.2⟩) (fun s W h => hInv s W h.1) ?round ⟨hI [] w W1 h0 below1, rec1, def1⟩).mono ?after
  case after =>
    rintro e W2 ⟨⟨v, rfl⟩, (⟨xs, hS, hi, hl, hk⟩ | ⟨pre, hSp, c, hi, hl, hk⟩)⟩
    · have he := mkEnd _ _ _ _ (by simp) hl
      exact ⟨none, _, he, hdone _ xs _ hS (hIp _ _ _ _ _ hi (by omega) hl rfl) ((World.putObj_heap_other (by omega)).trans hk) (Nat.le_refl _)⟩
    · have he := mkEnd _ _ _ _ (by simp) hl
      exact ⟨some c, _, he, hstop _ c pre _ hSp (hIxp c _ _ _ _ _ hi (by omega) hl rfl) ((World.putObj_heap_other (by omega)).trans hk) (Nat.le_refl _)⟩
  case round =>
    rintro pre x W ⟨hi, hl, hk⟩ hR
    have hlt : w.heap.size + 1 < W.heap.size := (Array.getElem?_eq_some_iff.1 hl).1
    have hy := run_yield (P := P) (args := encs x) hl (by rw [mkps]; exact hps x)
    have hyy : (Instr.yield (w.heap.size + 1) (encs x)).run P W = .ok (.round (w.heap.size + 1) fn ((ps.zip (encs x)).foldl (fun t (p, v) => t.setIfInBounds p v) a.tmps) assign body) W := by
      rw [hy, ← hr0]
    refine ⟨fn, _, assign, body, hyy, roundIn_of_wpIn hfn (hassign _ pre x W _ hi hR fun b₁ b₂ b₃ b₄ b₅ b₆ W' hko hi' hR' hAx => ⟨_, mkBegin _ _ _ (hko.same _ _ hl rfl), ?_⟩)⟩
    replace hl := hko.same _ _ hl rfl
    replace hk := hko.same _ _ hk rfl
    replace hi := hi'
    replace hR := hR'
    have hlt : w.heap.size + 1 < W'.heap.size := (Array.getElem?_eq_some_iff.1 hl).1
    have hAb := hAxp _ _ _ _ _ _ _ _ (w.heap.size + 1) _ (.loop (mk .busy none)) hAx (by omega) hl rfl
    generalize hwb : W'.putObj (w.heap.size + 1) (.loop (mk .busy none)) = Wb at *
    have hlb : Wb.heap[w.heap.size + 1]? = some (.loop (mk .busy none)) := by rw [← hwb]; exact World.putObj_heap_same hlt
    have hkb : Wb.heap[w.heap.size]? = some (.deferred (some [])) := by rw [← hwb]; exact (World.putObj_heap_other (by omega)).trans hk
    have hib : I pre Wb := by rw [← hwb]; exact hIp _ _ _ _ _ hi (by omega) hl rfl
    have hRb : R pre x Wb := by rw [← hwb]; exact hRput _ _ _ _ _ _ hR hl rfl
    refine wpIn_mono (hbody _ pre x _ _ _ _ _ _ Wb hib hRb hAb) ?_
    have fin : ∀ (jump : Option Code) (W3 : World), KeepsOthers Wb W3 → ∃ W4, (Instr.endRound (w.heap.size + 1) jump).run P W3 = .ok (.bool jump.isNone) W4 ∧ W4 = W3.putObj (w.heap.size + 1) (.loop (mk (if jump.isNone then .ready else .done) jump)) ∧
        W3.heap[w.heap.size + 1]? = some (.loop (mk .busy none)) ∧
        W4.heap[w.heap.size + 1]? = some (.loop (mk (if jump.isNone then .ready else .done) jump)) ∧ W4.heap[w.heap.size]? = some (.deferred (some [])) := by
      intro jump W3 hk3
      have hl3 := hk3.same _ _ hlb rfl
      have he := mkRound _ _ _ jump hl3
      exact ⟨_, he, rfl, hl3, World.putObj_heap_same (Array.getElem?_eq_some_iff.1 hl3).1, (World.putObj_heap_other (by omega)).trans (hk3.same _ _ hkb rfl)⟩
    rintro e a3 W3 hp
    cases e with
    | normal =>
      obtain ⟨hk3, hi3⟩ := hp
      obtain ⟨W4, hr, h4, hl3, hl4, hk4⟩ := fin none W3 hk3
      exact ⟨_, _, hr, .inl ⟨rfl, by rw [h4]; exact hIp _ _ _ _ _ hi3 (by omega) hl3 rfl, hl4, hk4⟩⟩
    | ret =>
      obtain ⟨hk3, hi3⟩ := hp
      obtain ⟨W4, hr, h4, hl3, hl4, hk4⟩ := fin (some .ret) W3 hk3
      exact ⟨_, _, hr, .inr ⟨rfl, .ret, by rw [h4]; exact hIxp _ _ _ _ _ _ hi3 (by omega) hl3 rfl, hl4, hk4⟩⟩
    | exit id =>
      obtain ⟨hk3, hi3⟩ := hp
      obtain ⟨W4, hr, h4, hl3, hl4, hk4⟩ := fin (some (.exit id)) W3 hk3
      exact ⟨_, _, hr, .inr ⟨rfl, .exit id, by rw [h4]; exact hIxp _ _ _ _ _ _ hi3 (by omega) hl3 rfl, hl4, hk4⟩⟩
    | goto t =>
      obtain ⟨hk3, hi3⟩ := hp
      obtain ⟨W4, hr, h4, hl3, hl4, hk4⟩ := fin (some (.goto t)) W3 hk3
      exact ⟨_, _, hr, .inr ⟨rfl, .goto t, by rw [h4]; exact hIxp _ _ _ _ _ _ hi3 (by omega) hl3 rfl, hl4, hk4⟩⟩
    | panic ch => exact hp.elim
    | outgrown => exact hp.elim

end Go.Proofs.YtgnpjenpehfjbaaDoor
