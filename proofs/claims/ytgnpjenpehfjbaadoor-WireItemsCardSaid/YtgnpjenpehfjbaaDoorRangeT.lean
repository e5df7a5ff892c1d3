/- A range over a function whose iterator has blocks of its own, which the round must leave as they are: T says which blocks a round may turn. -/
import Derived.Test.YtgnpjenpehfjbaaDoorRange
namespace Go.Proofs.YtgnpjenpehfjbaaDoor
open Go.RowKit

/-- a round turns no block but those of T, and those that it makes -/
def KeptT (T : World → Nat → Prop) (A B : World) : Prop := A.heap.size ≤ B.heap.size ∧ (∀ k, k < A.heap.size → ¬ T A k → B.heap[k]? = A.heap[k]?) ∧ ∀ k, T B k → T A k ∨ A.heap.size ≤ k
theorem KeptT.trans {T : World → Nat → Prop} {A B C : World} (h : KeptT T A B) (g : KeptT T B C) : KeptT T A C := by
  refine ⟨Nat.le_trans h.1 g.1, fun k hk hn => ?_, fun k hk => ?_⟩
  · have hnb : ¬ T B k := fun hb => by
      rcases h.2.2 k hb with h1 | h1
      · exact hn h1
      · omega
    exact (g.2.1 k (Nat.lt_of_lt_of_le hk h.1) hnb).trans (h.2.1 k hk hn)
  · rcases g.2.2 k hk with h1 | h1
    · exact h.2.2 k h1
    · exact .inr (Nat.le_trans h.1 h1)
/-- THE CONTRACT OF AN ITERATOR's VALUE (see Iterates), where the rounds turn no block but those of T -/
def IteratesT {α : Type} (F : Fence) (n : Nat) (P : Program) (g : Nat) (lb : Array Value) (encs : α → Array Value) (Inv : World → Prop) (R : List α → α → World → Prop) (S Sp : List α → Prop) : Prop :=
  ∀ (l : Nat) (J Jx : List α → World → Prop) (T : World → Nat → Prop) (W : World), StaysGrown J → (∀ s W, J s W → Inv W) →
    (∀ s W, J s W → ∀ k, T W k → k < W.heap.size) → (∀ s W W', J s W → Below W.heap.size W W' → ∀ k, T W' k → T W k) →
    (∀ pre x W1, J pre W1 → R pre x W1 → YieldAt F (n - 1) P l (encs x) W1 fun e W' =>
      (e = .returned (.bool true) ∧ J (pre ++ [x]) W' ∧ KeptT T W1 W') ∨ (e = .returned (.bool false) ∧ Jx (pre ++ [x]) W')) →
    J [] W →
    CallsIn F n P g (#[.func (.yield l) #[] #[]] ++ lb) W fun e W' => (∃ v, e = .returned v) ∧ ((∃ xs, S xs ∧ J xs W') ∨ (∃ pre, Sp pre ∧ Jx pre W'))
theorem Iterates.toT {α : Type} {F : Fence} {n : Nat} {P : Program} {g : Nat} {lb : Array Value} {encs : α → Array Value} {Inv : World → Prop} {R : List α → α → World → Prop} {S Sp : List α → Prop} (h : Iterates F n P g lb encs Inv R S Sp) : IteratesT F n P g lb encs Inv R S Sp := by
  intro l J Jx T W hJ hInv _ _ hY h0
  refine h l J Jx W hJ hInv (fun pre x W1 h1 h2 => ?_) h0
  obtain ⟨fn, tmps, assign, body, hy, hR⟩ := hY pre x W1 h1 h2
  exact ⟨fn, tmps, assign, body, hy, hR.mono fun e W' h => by
    rcases h with ⟨h1, h2, _⟩ | ⟨h1, h2⟩
    · exact .inl ⟨h1, h2⟩
    · exact .inr ⟨h1, h2⟩⟩
def ownPostT {α : Type} (T : World → Nat → Prop) (I : List α → World → Prop) (Ix : Code → List α → World → Prop) (xs : List α) (W : World) : Exit → Act → World → Prop
  | .normal, _, W' => KeepsOthers W W' ∧ KeptT T W W' ∧ I xs W'
  | .ret, _, W' => KeepsOthers W W' ∧ Ix .ret xs W'
  | .exit id, _, W' => KeepsOthers W W' ∧ Ix (.exit id) xs W'
  | .goto t, _, W' => KeepsOthers W W' ∧ Ix (.goto t) xs W'
  | .panic _, _, _ => False
  | .outgrown, _, _ => False
variable {F : Fence} {n : Nat} {P : Program}

/-- as wpIn_range_as, for IteratesT; what takes an element in may make blocks alone -/
theorem wpIn_range_T {α : Type} {g : Operand} {ps : Array Tmp} {assign body : Code} {Q : Exit → Act → World → Prop} {a : Act} {w : World}
    (hro : F.round = none) (h1 : 1 ≤ n) {gf : Nat} {lb : Array Value} (hg : a.eval g = .func (.func gf) #[] lb) (hFg : F.fn gf) (eg : ∀ args w, (callFunc gf args).run P w = .ok (.enter gf args) w)
    {encs : α → Array Value} {Inv : World → Prop} {R : List α → α → World → Prop} {S Sp : List α → Prop} (hit : IteratesT F (n - 1) P gf lb encs Inv R S Sp)
    (hps : ∀ x, (encs x).size = ps.size)
    (hRput : ∀ pre x W l (o o' : Obj), R pre x W → W.heap[l]? = some o → o.isCells = false → R pre x (W.putObj l o'))
    (I : List α → World → Prop) (Ix : Code → List α → World → Prop) (T : World → Nat → Prop) (hT1 : ∀ s W, I s W → ∀ k, T W k → k < W.heap.size) (hT2 : ∀ s W W', I s W → Below W.heap.size W W' → ∀ k, T W' k → T W k) (hT3 : ∀ s W l (o o' : Obj), I s W → w.heap.size ≤ l → W.heap[l]? = some o → o.isCells = false → ∀ k, T (W.putObj l o') k → T W k) (hI : StaysGrown I) (hIp : StaysPut w.heap.size I) (hIxp : ∀ c, StaysPut w.heap.size (Ix c)) (hInv : ∀ s W, I s W → Inv W) (h0 : I [] w) {β₁ β₂ β₃ β₄ β₅ β₆ : Type} (A : β₁ → β₂ → β₃ → β₄ → β₅ → β₆ → Act) (Ax : α → β₁ → β₂ → β₃ → β₄ → β₅ → β₆ → World → Prop) (hAxp : ∀ x b₁ b₂ b₃ b₄ b₅ b₆ W l (o o' : Obj), Ax x b₁ b₂ b₃ b₄ b₅ b₆ W → w.heap.size ≤ l → W.heap[l]? = some o → o.isCells = false → Ax x b₁ b₂ b₃ b₄ b₅ b₆ (W.putObj l o'))
    (hassign : ∀ (l : Nat) (pre : List α) (x : α) (W : World) (K : Act → World → Prop), I pre W → R pre x W → (∀ b₁ b₂ b₃ b₄ b₅ b₆ W', Below W.heap.size W W' → I pre W' → R pre x W' → Ax x b₁ b₂ b₃ b₄ b₅ b₆ W' → K (A b₁ b₂ b₃ b₄ b₅ b₆) W') →
      assign.wpIn (F.inRound l) (n - 1 - 1) P (Exit.then K (fun _ _ _ => False)) { tmps := (ps.zip (encs x)).foldl (fun t (p, v) => t.setIfInBounds p v) a.tmps, defers := [] } W)
    (hbody : ∀ (l : Nat) (pre : List α) (x : α) b₁ b₂ b₃ b₄ b₅ b₆ (W : World), I pre W → R pre x W → Ax x b₁ b₂ b₃ b₄ b₅ b₆ W → body.wpIn (F.inRound l) (n - 1 - 1) P (ownPostT T I Ix (pre ++ [x]) W) (A b₁ b₂ b₃ b₄ b₅ b₆) W)
    (hdone : ∀ (D : Nat) (xs : List α) (W : World), S xs → I xs W → W.heap[D]? = some (.deferred (some [])) → w.heap.size ≤ D → Q .normal { a with defers := { target := .collected D, args := #[] } :: a.defers } W)
    (hstop : ∀ (D : Nat) (c : Code) (pre : List α) (W : World), Sp pre → Ix c pre W → W.heap[D]? = some (.deferred (some [])) → w.heap.size ≤ D → c.wpIn F n P Q { a with defers := { target := .collected D, args := #[] } :: a.defers } W) :
    (Code.rangeFunc g ps assign body).wpIn F n P Q a w := by
  refine wpIn_rangeFunc fun fn hfn => ?_
  rw [hro]
  have hlen : w.heap.size < (w.alloc (.deferred (some []))).heap.size := by simp
  generalize hr0 : (fun (st : LoopState) (pe : Option Code) => ({ state := st, pending := pe, fn, tmps := a.tmps, params := ps, assign, body, defers := w.heap.size } : Loop)) = mk
  have mkps : ∀ st pe, (mk st pe).params = ps := fun st pe => by rw [← hr0]
  have mkEnd : ∀ (W : World) (l : Nat) (st : LoopState) (pe : Option Code), st ≠ .busy → W.heap[l]? = some (.loop (mk st pe)) → (Instr.endLoop l).run P W = .ok pe (W.putObj l (.loop (mk .exhausted pe))) :=
    fun W l st pe hst hl => by subst hr0; exact run_endLoop hl hst
  have mkBegin : ∀ (W : World) (l : Nat) (pe : Option Code), W.heap[l]? = some (.loop (mk .ready pe)) → (Instr.beginRound l).run P W = .ok () (W.putObj l (.loop (mk .busy pe))) :=
    fun W l pe hl => by subst hr0; exact run_beginRound hl rfl
  have mkRound : ∀ (W : World) (l : Nat) (pe jump : Option Code), W.heap[l]? = some (.loop (mk .busy pe)) → (Instr.endRound l jump).run P W = .ok (.bool jump.isNone) (W.putObj l (.loop (mk (if jump.isNone then .ready else .done) jump))) :=
    fun W l pe jump hl => by subst hr0; exact run_endRound jump hl
  generalize hw1 : (w.alloc (.deferred (some []))).alloc (.loop (mk .ready none)) = W1
  have below1 : Below w.heap.size w W1 := by
    rw [← hw1]; exact ((Below.refl _ w).alloc (Nat.le_refl _) _).alloc (by simp) _
  have rec1 : W1.heap[w.heap.size + 1]? = some (.loop (mk .ready none)) := by
    rw [← hw1]; have := World.alloc_heap_new (w.alloc (.deferred (some []))) (.loop (mk .ready none)); rwa [World.size_alloc] at this
  have def1 : W1.heap[w.heap.size]? = some (.deferred (some [])) := by
    rw [← hw1]; exact (Below.heap_alloc _ _ _ hlen).trans (World.alloc_heap_new w _)
  have keep2 : ∀ {A B : World} {k : Nat} {o : Obj}, Below A.heap.size A B → A.heap[k]? = some o → B.heap[k]? = some o := fun hb hk => (hb.block _ (Array.getElem?_eq_some_iff.1 hk).1).trans hk
  refine ⟨w.heap.size + 1, [{ target := .collected w.heap.size, args := #[] }], W1, { target := .fn (.func gf) lb, args := #[.func (.yield (w.heap.size + 1)) #[] #[]] }, W1, gf,
    #[.func (.yield (w.heap.size + 1)) #[] #[]] ++ lb, W1, ?_, ?_, ?_, ?_, fun _ => h1, ?_⟩
  · rw [← hw1, ← hr0]; exact run_enterLoop_outer _ _ _ _ _
  · simp only [resolve, hg]
    simp [go_sem]
  · intro f' hf'
    simp [Target.leads] at hf'
    subst hf'
    exact hFg
  · simp [invoke, go_sem, eg]
  refine (hit (w.heap.size + 1)
    (fun pre W => I pre W ∧ W.heap[w.heap.size + 1]? = some (.loop (mk .ready none)) ∧ W.heap[w.heap.size]? = some (.deferred (some [])))
    (fun pre W => ∃ c, Ix c pre W ∧ W.heap[w.heap.size + 1]? = some (.loop (mk .done (some c))) ∧ W.heap[w.heap.size]? = some (.deferred (some [])))
    (fun W k => T W k ∨ k = w.heap.size + 1)
    W1 (fun s A B h hb => ⟨hI s A B h.1 hb, keep2 hb h.2.1, keep2 hb h.2.2⟩) (fun s W h => hInv s W h.1)
    (fun s A h k hk => by
      rcases hk with hk | rfl
      · exact hT1 s A h.1 k hk
      · exact (Array.getElem?_eq_some_iff.1 h.2.1).1)
    (fun s A B h hb k hk => by
      rcases hk with hk | rfl
      · exact .inl (hT2 s A B h.1 hb k hk)
      · exact .inr rfl) ?round ⟨hI [] w W1 h0 below1, rec1, def1⟩).mono ?after
  case after =>
    rintro e W2 ⟨⟨v, rfl⟩, (⟨xs, hS, hi, hl, hk⟩ | ⟨pre, hSp, c, hi, hl, hk⟩)⟩
    · have he := mkEnd _ _ _ _ (by simp) hl
      exact ⟨none, _, he, hdone _ xs _ hS (hIp _ _ _ _ _ hi (by omega) hl rfl) ((World.putObj_heap_other (by omega)).trans hk) (Nat.le_refl _)⟩
    · have he := mkEnd _ _ _ _ (by simp) hl
      exact ⟨some c, _, he, hstop _ c pre _ hSp (hIxp c _ _ _ _ _ hi (by omega) hl rfl) ((World.putObj_heap_other (by omega)).trans hk) (Nat.le_refl _)⟩
  case round =>
    rintro pre x W ⟨hi, hl, hk⟩ hR
    have hlt : w.heap.size + 1 < W.heap.size := (Array.getElem?_eq_some_iff.1 hl).1
    have hy := run_yield (P := P) (args := encs x) hl (by rw [mkps]; exact hps x)
    have hyy : (Instr.yield (w.heap.size + 1) (encs x)).run P W = .ok (.round (w.heap.size + 1) fn ((ps.zip (encs x)).foldl (fun t (p, v) => t.setIfInBounds p v) a.tmps) assign body) W := by
      rw [hy, ← hr0]
    refine ⟨fn, _, assign, body, hyy, roundIn_of_wpIn hfn (hassign _ pre x W _ hi hR fun b₁ b₂ b₃ b₄ b₅ b₆ W' hbe hi' hR' hAx => ⟨_, mkBegin _ _ _ (keep2 hbe hl), ?_⟩)⟩
    have kt1 : KeptT (fun W k => T W k ∨ k = w.heap.size + 1) W W' := ⟨hbe.size, fun k hk _ => hbe.block k hk, fun k hk => .inl (by
      rcases hk with hk | rfl
      · exact .inl (hT2 _ W W' hi hbe k hk)
      · exact .inr rfl)⟩
    have hko : KeepsOthers W W' := ⟨hbe.size, fun k o hk _ => keep2 hbe hk⟩
    replace hl := hko.same _ _ hl rfl
    replace hk := hko.same _ _ hk rfl
    replace hi := hi'
    replace hR := hR'
    have hlt : w.heap.size + 1 < W'.heap.size := (Array.getElem?_eq_some_iff.1 hl).1
    have hAb := hAxp _ _ _ _ _ _ _ _ (w.heap.size + 1) _ (.loop (mk .busy none)) hAx (by omega) hl rfl
    have ktp : ∀ (A : World) (o' : Obj) (o : Obj) s, I s A → A.heap[w.heap.size + 1]? = some o → o.isCells = false → KeptT (fun W k => T W k ∨ k = w.heap.size + 1) A (A.putObj (w.heap.size + 1) o') := by
      intro A o' o s hs ho hc
      refine ⟨(grownBy_putObj' A (w.heap.size + 1) o').size, fun k hk hn => World.putObj_heap_other (fun e => hn (.inr (by omega))), fun k hk => .inl ?_⟩
      rcases hk with hk | rfl
      · exact .inl (hT3 s A _ o o' hs (by omega) ho hc k hk)
      · exact .inr rfl
    have kt2 := kt1.trans (ktp W' (.loop (mk .busy none)) _ _ hi hl rfl)
    clear kt1
    generalize hwb : W'.putObj (w.heap.size + 1) (.loop (mk .busy none)) = Wb at *
    have hlb : Wb.heap[w.heap.size + 1]? = some (.loop (mk .busy none)) := by rw [← hwb]; exact World.putObj_heap_same hlt
    have hkb : Wb.heap[w.heap.size]? = some (.deferred (some [])) := by rw [← hwb]; exact (World.putObj_heap_other (by omega)).trans hk
    have hib : I pre Wb := by rw [← hwb]; exact hIp _ _ _ _ _ hi (by omega) hl rfl
    have hRb : R pre x Wb := by rw [← hwb]; exact hRput _ _ _ _ _ _ hR hl rfl
    refine wpIn_mono (hbody _ pre x _ _ _ _ _ _ Wb hib hRb hAb) ?_
    have fin : ∀ (jump : Option Code) (W3 : World), KeepsOthers Wb W3 → ∃ W4, (Instr.endRound (w.heap.size + 1) jump).run P W3 = .ok (.bool jump.isNone) W4 ∧ W4 = W3.putObj (w.heap.size + 1) (.loop (mk (if jump.isNone then .ready else .done) jump)) ∧
        W3.heap[w.heap.size + 1]? = some (.loop (mk .busy none)) ∧
        W4.heap[w.heap.size + 1]? = some (.loop (mk (if jump.isNone then .ready else .done) jump)) ∧ W4.heap[w.heap.size]? = some (.deferred (some [])) := by
      intro jump W3 hk3
      have hl3 := hk3.same _ _ hlb rfl
      have he := mkRound _ _ _ jump hl3
      exact ⟨_, he, rfl, hl3, World.putObj_heap_same (Array.getElem?_eq_some_iff.1 hl3).1, (World.putObj_heap_other (by omega)).trans (hk3.same _ _ hkb rfl)⟩
    rintro e a3 W3 hp
    cases e with
    | normal =>
      obtain ⟨hk3, hkt3, hi3⟩ := hp
      obtain ⟨W4, hr, h4, hl3, hl4, hk4⟩ := fin none W3 hk3
      have kt3 : KeptT (fun W k => T W k ∨ k = w.heap.size + 1) Wb W3 := ⟨hkt3.1, fun k hk hn => hkt3.2.1 k hk (fun h => hn (.inl h)), fun k hk => by
        rcases hk with hk | rfl
        · rcases hkt3.2.2 k hk with h1 | h1
          · exact .inl (.inl h1)
          · exact .inr h1
        · exact .inl (.inr rfl)⟩
      exact ⟨_, _, hr, .inl ⟨rfl, ⟨by rw [h4]; exact hIp _ _ _ _ _ hi3 (by omega) hl3 rfl, hl4, hk4⟩, by rw [h4]; exact (kt2.trans kt3).trans (ktp W3 _ _ _ hi3 hl3 rfl)⟩⟩
    | ret =>
      obtain ⟨hk3, hi3⟩ := hp
      obtain ⟨W4, hr, h4, hl3, hl4, hk4⟩ := fin (some .ret) W3 hk3
      exact ⟨_, _, hr, .inr ⟨rfl, .ret, by rw [h4]; exact hIxp _ _ _ _ _ _ hi3 (by omega) hl3 rfl, hl4, hk4⟩⟩
    | exit id =>
      obtain ⟨hk3, hi3⟩ := hp
      obtain ⟨W4, hr, h4, hl3, hl4, hk4⟩ := fin (some (.exit id)) W3 hk3
      exact ⟨_, _, hr, .inr ⟨rfl, .exit id, by rw [h4]; exact hIxp _ _ _ _ _ _ hi3 (by omega) hl3 rfl, hl4, hk4⟩⟩
    | goto t =>
      obtain ⟨hk3, hi3⟩ := hp
      obtain ⟨W4, hr, h4, hl3, hl4, hk4⟩ := fin (some (.goto t)) W3 hk3
      exact ⟨_, _, hr, .inr ⟨rfl, .goto t, by rw [h4]; exact hIxp _ _ _ _ _ _ hi3 (by omega) hl3 rfl, hl4, hk4⟩⟩
    | panic ch => exact hp.elim
    | outgrown => exact hp.elim

end Go.Proofs.YtgnpjenpehfjbaaDoor
