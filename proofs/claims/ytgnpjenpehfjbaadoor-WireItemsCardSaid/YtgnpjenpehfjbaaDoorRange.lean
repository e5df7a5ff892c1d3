/- A range over a function whose iterator reads memory and makes blocks of its own between two rounds: what it hands over may be known by what it holds in memory ('R'). -/
import Derived.Test.YtgnpjenpehfjbaaDoorBase
import Derived.RangeFuncNested
import Derived.RangeFuncBound
import Derived.RangeFuncCalls
import Derived.RangeFuncLeaves
import Derived.Shelf.Abstract
import Derived.Shelf.RegionOpen
import Derived.OwnWalkIn
import Derived.TacticsInMore
import Derived.LoopNIn
import Derived.LoopIn
namespace Go.Proofs.YtgnpjenpehfjbaaDoor
open Go.RowKit

/-- what is said of a world stays true while nothing that is there turns -/
def StaysGrown {α : Type} (J : List α → World → Prop) : Prop := ∀ s W W', J s W → Below W.heap.size W W' → J s W'
/-- .. and while a block from B on turns that holds no cells -/
def StaysPut {α : Type} (B : Nat) (J : List α → World → Prop) : Prop := ∀ s W l (o o' : Obj), J s W → B ≤ l → W.heap[l]? = some o → o.isCells = false → J s (W.putObj l o')

/-- THE CONTRACT OF AN ITERATOR's VALUE. Inv: what it reads; R: what is known of an element when it is handed over; S: all have come; Sp: a part has come, and a round has said 'no more'. -/
def Iterates {α : Type} (F : Fence) (n : Nat) (P : Program) (g : Nat) (lb : Array Value) (encs : α → Array Value) (Inv : World → Prop) (R : List α → α → World → Prop) (S Sp : List α → Prop) : Prop :=
  ∀ (l : Nat) (J Jx : List α → World → Prop) (W : World), StaysGrown J → (∀ s W, J s W → Inv W) →
    (∀ pre x W1, J pre W1 → R pre x W1 → YieldAt F (n - 1) P l (encs x) W1 fun e W' =>
      (e = .returned (.bool true) ∧ J (pre ++ [x]) W') ∨ (e = .returned (.bool false) ∧ Jx (pre ++ [x]) W')) →
    J [] W →
    CallsIn F n P g (#[.func (.yield l) #[] #[]] ++ lb) W fun e W' => (∃ v, e = .returned v) ∧ ((∃ xs, S xs ∧ J xs W') ∨ (∃ pre, Sp pre ∧ Jx pre W'))

variable {F : Fence} {n : Nat} {P : Program}

theorem wpIn_range {α : Type} {g : Operand} {ps : Array Tmp} {assign body : Code} {Q : Exit → Act → World → Prop} {a : Act} {w : World}
    (hro : F.round = none) (h1 : 1 ≤ n) {gf : Nat} {lb : Array Value} (hg : a.eval g = .func (.func gf) #[] lb) (hFg : F.fn gf) (eg : ∀ args w, (callFunc gf args).run P w = .ok (.enter gf args) w)
    {encs : α → Array Value} {Inv : World → Prop} {R : List α → α → World → Prop} {S Sp : List α → Prop} (hit : Iterates F (n - 1) P gf lb encs Inv R S Sp)
    (hps : ∀ x, (encs x).size = ps.size)
    (hRput : ∀ pre x W l (o o' : Obj), R pre x W → W.heap[l]? = some o → o.isCells = false → R pre x (W.putObj l o'))
    (I : List α → World → Prop) (Ix : Code → List α → World → Prop) (hI : StaysGrown I) (hIp : StaysPut w.heap.size I) (hIxp : ∀ c, StaysPut w.heap.size (Ix c)) (hInv : ∀ s W, I s W → Inv W) (h0 : I [] w) (a₁ : α → Act)
    (hassign : ∀ (l : Nat) (x : α) (W : World) (K : Act → World → Prop), K (a₁ x) W →
      assign.wpIn (F.inRound l) (n - 1 - 1) P (Exit.then K (fun _ _ _ => False)) { tmps := (ps.zip (encs x)).foldl (fun t (p, v) => t.setIfInBounds p v) a.tmps, defers := [] } W)
    (hbody : ∀ (l : Nat) (pre : List α) (x : α) (W : World), I pre W → R pre x W → body.wpIn (F.inRound l) (n - 1 - 1) P (ownPost I Ix (pre ++ [x]) W) (a₁ x) W)
    (hdone : ∀ (D : Nat) (xs : List α) (W : World), S xs → I xs W → W.heap[D]? = some (.deferred (some [])) → w.heap.size ≤ D → Q .normal { a with defers := { target := .collected D, args := #[] } :: a.defers } W)
    (hstop : ∀ (D : Nat) (c : Code) (pre : List α) (W : World), Sp pre → Ix c pre W → W.heap[D]? = some (.deferred (some [])) → w.heap.size ≤ D → c.wpIn F n P Q { a with defers := { target := .collected D, args := #[] } :: a.defers } W) :
    (Code.rangeFunc g ps assign body).wpIn F n P Q a w := by
  refine wpIn_rangeFunc fun fn hfn => ?_
  rw [hro]
  have hlen : w.heap.size < (w.alloc (.deferred (some []))).heap.size := by simp
  generalize hr0 : (fun (st : LoopState) (pe : Option Code) => ({ state := st, pending := pe, fn, tmps := a.tmps, params := ps, assign, body, defers := w.heap.size } : Loop)) = mk
  have mkps : ∀ st pe, (mk st pe).params = ps := fun st pe => by rw [← hr0]
  have mkEnd : ∀ (W : World) (l : Nat) (st : LoopState) (pe : Option Code), st ≠ .busy → W.heap[l]? = some (.loop (mk st pe)) → (Instr.endLoop l).run P W = .ok pe (W.putObj l (.loop (mk .exhausted pe))) :=
    fun W l st pe hst hl => by subst hr0; exact run_endLoop hl hst
  have mkBegin : ∀ (W : World) (l : Nat) (pe : Option Code), W.heap[l]? = some (.loop (mk .ready pe)) → (Instr.beginRound l).run P W = .ok () (W.putObj l (.loop (mk .busy pe))) :=
    fun W l pe hl => by subst hr0; exact run_beginRound hl rfl
  have mkRound : ∀ (W : World) (l : Nat) (pe jump : Option Code), W.heap[l]? = some (.loop (mk .busy pe)) → (Instr.endRound l jump).run P W = .ok (.bool jump.isNone) (W.putObj l (.loop (mk (if jump.isNone then .ready else .done) jump))) :=
    fun W l pe jump hl => by subst hr0; exact run_endRound jump hl
  generalize hw1 : (w.alloc (.deferred (some []))).alloc (.loop (mk .ready none)) = W1
  have below1 : Below w.heap.size w W1 := by
    rw [← hw1]; exact ((Below.refl _ w).alloc (Nat.le_refl _) _).alloc (by simp) _
  have rec1 : W1.heap[w.heap.size + 1]? = some (.loop (mk .ready none)) := by
    rw [← hw1]; have := World.alloc_heap_new (w.alloc (.deferred (some []))) (.loop (mk .ready none)); rwa [World.size_alloc] at this
  have def1 : W1.heap[w.heap.size]? = some (.deferred (some [])) := by
    rw [← hw1]; exact (Below.heap_alloc _ _ _ hlen).trans (World.alloc_heap_new w _)
  have keep2 : ∀ {A B : World} {k : Nat} {o : Obj}, Below A.heap.size A B → A.heap[k]? = some o → B.heap[k]? = some o := fun hb hk => (hb.block _ (Array.getElem?_eq_some_iff.1 hk).1).trans hk
  refine ⟨w.heap.size + 1, [{ target := .collected w.heap.size, args := #[] }], W1, { target := .fn (.func gf) lb, args := #[.func (.yield (w.heap.size + 1)) #[] #[]] }, W1, gf,
    #[.func (.yield (w.heap.size + 1)) #[] #[]] ++ lb, W1, ?_, ?_, ?_, ?_, fun _ => h1, ?_⟩
  · rw [← hw1, ← hr0]; exact run_enterLoop_outer _ _ _ _ _
  · simp only [resolve, hg]
    simp [go_sem]
  · intro f' hf'
    simp [Target.leads] at hf'
    subst hf'
    exact hFg
  · simp [invoke, go_sem, eg]
  refine (hit (w.heap.size + 1)
    (fun pre W => I pre W ∧ W.heap[w.heap.size + 1]? = some (.loop (mk .ready none)) ∧ W.heap[w.heap.size]? = some (.deferred (some [])))
    (fun pre W => ∃ c, Ix c pre W ∧ W.heap[w.heap.size + 1]? = some (.loop (mk .done (some c))) ∧ W.heap[w.heap.size]? = some (.deferred (some [])))
    W1 (fun s A B h hb => ⟨hI s A B h.1 hb, keep2 hb h.2.1, keep2 hb h.2.2⟩) (fun s W h => hInv s W h.1) ?round ⟨hI [] w W1 h0 below1, rec1, def1⟩).mono ?after
  case after =>
    rintro e W2 ⟨⟨v, rfl⟩, (⟨xs, hS, hi, hl, hk⟩ | ⟨pre, hSp, c, hi, hl, hk⟩)⟩
    · have he := mkEnd _ _ _ _ (by simp) hl
      exact ⟨none, _, he, hdone _ xs _ hS (hIp _ _ _ _ _ hi (by omega) hl rfl) ((World.putObj_heap_other (by omega)).trans hk) (Nat.le_refl _)⟩
    · have he := mkEnd _ _ _ _ (by simp) hl
      exact ⟨some c, _, he, hstop _ c pre _ hSp (hIxp c _ _ _ _ _ hi (by omega) hl rfl) ((World.putObj_heap_other (by omega)).trans hk) (Nat.le_refl _)⟩
  case round =>
    rintro pre x W ⟨hi, hl, hk⟩ hR
    have hlt : w.heap.size + 1 < W.heap.size := (Array.getElem?_eq_some_iff.1 hl).1
    have hy := run_yield (P := P) (args := encs x) hl (by rw [mkps]; exact hps x)
    have hyy : (Instr.yield (w.heap.size + 1) (encs x)).run P W = .ok (.round (w.heap.size + 1) fn ((ps.zip (encs x)).foldl (fun t (p, v) => t.setIfInBounds p v) a.tmps) assign body) W := by
      rw [hy, ← hr0]
    refine ⟨fn, _, assign, body, hyy, roundIn_of_wpIn hfn (hassign _ x W _ ⟨_, mkBegin _ _ _ hl, ?_⟩)⟩
    generalize hwb : W.putObj (w.heap.size + 1) (.loop (mk .busy none)) = Wb
    have hlb : Wb.heap[w.heap.size + 1]? = some (.loop (mk .busy none)) := by rw [← hwb]; exact World.putObj_heap_same hlt
    have hkb : Wb.heap[w.heap.size]? = some (.deferred (some [])) := by rw [← hwb]; exact (World.putObj_heap_other (by omega)).trans hk
    have hib : I pre Wb := by rw [← hwb]; exact hIp _ _ _ _ _ hi (by omega) hl rfl
    have hRb : R pre x Wb := by rw [← hwb]; exact hRput _ _ _ _ _ _ hR hl rfl
    refine wpIn_mono (hbody _ pre x Wb hib hRb) ?_
    have fin : ∀ (jump : Option Code) (W3 : World), KeepsOthers Wb W3 → ∃ W4, (Instr.endRound (w.heap.size + 1) jump).run P W3 = .ok (.bool jump.isNone) W4 ∧ W4 = W3.putObj (w.heap.size + 1) (.loop (mk (if jump.isNone then .ready else .done) jump)) ∧
        W3.heap[w.heap.size + 1]? = some (.loop (mk .busy none)) ∧
        W4.heap[w.heap.size + 1]? = some (.loop (mk (if jump.isNone then .ready else .done) jump)) ∧ W4.heap[w.heap.size]? = some (.deferred (some [])) := by
      intro jump W3 hk3
      have hl3 := hk3.same _ _ hlb rfl
      have he := mkRound _ _ _ jump hl3
      exact ⟨_, he, rfl, hl3, World.putObj_heap_same (Array.getElem?_eq_some_iff.1 hl3).1, (World.putObj_heap_other (by omega)).trans (hk3.same _ _ hkb rfl)⟩
    rintro e a3 W3 hp
    cases e with
    | normal =>
      obtain ⟨hk3, hi3⟩ := hp
      obtain ⟨W4, hr, h4, hl3, hl4, hk4⟩ := fin none W3 hk3
      exact ⟨_, _, hr, .inl ⟨rfl, by rw [h4]; exact hIp _ _ _ _ _ hi3 (by omega) hl3 rfl, hl4, hk4⟩⟩
    | ret =>
      obtain ⟨hk3, hi3⟩ := hp
      obtain ⟨W4, hr, h4, hl3, hl4, hk4⟩ := fin (some .ret) W3 hk3
      exact ⟨_, _, hr, .inr ⟨rfl, .ret, by rw [h4]; exact hIxp _ _ _ _ _ _ hi3 (by omega) hl3 rfl, hl4, hk4⟩⟩
    | exit id =>
      obtain ⟨hk3, hi3⟩ := hp
      obtain ⟨W4, hr, h4, hl3, hl4, hk4⟩ := fin (some (.exit id)) W3 hk3
      exact ⟨_, _, hr, .inr ⟨rfl, .exit id, by rw [h4]; exact hIxp _ _ _ _ _ _ hi3 (by omega) hl3 rfl, hl4, hk4⟩⟩
    | goto t =>
      obtain ⟨hk3, hi3⟩ := hp
      obtain ⟨W4, hr, h4, hl3, hl4, hk4⟩ := fin (some (.goto t)) W3 hk3
      exact ⟨_, _, hr, .inr ⟨rfl, .goto t, by rw [h4]; exact hIxp _ _ _ _ _ _ hi3 (by omega) hl3 rfl, hl4, hk4⟩⟩
    | panic ch => exact hp.elim
    | outgrown => exact hp.elim

theorem getD_lt {listed : Array Bool} {i : Nat} (h : listed.getD i true = false) : ∃ hlt : i < listed.toList.length, listed.toList[i] = false := by
  by_cases hlt : i < listed.size
  · refine ⟨by simpa using hlt, ?_⟩
    simpa [Array.getD, hlt] using h
  · simp [Array.getD, hlt] at h
theorem count_set_one {l : List Bool} {i : Nat} (hlt : i < l.length) (hf : l[i] = false) : (l.set i true).count false + 1 = l.count false := by
  rw [List.count_set hlt, hf]
  have : 0 < l.count false := List.count_pos_iff.2 (by rw [← hf]; exact List.getElem_mem hlt)
  simp
  omega
/-- A REGION THAT DRAWS ITS ORDER, BY AN INVARIANT: what holds when the operations marked in 'listed' have run, whatever their order was. -/
theorem wpAnyIn_inv {ops : Array Oper} {Q : Exit → Act → World → Prop} (Inv : Array Bool → Act → World → Prop)
    (hstep : ∀ (listed : Array Bool) (i : Nat) (a : Act) (w : World), Inv listed a w → i ∈ Region.ready .any ops listed → wpOpIn F n P ops Q i (fun a' w' => Inv (listed.setIfInBounds i true) a' w') a w)
    (hend : ∀ (listed : Array Bool) (a : Act) (w : World), Inv listed a w → Region.ready .any ops listed = [] → Q .normal a w) :
    ∀ (fuel : Nat) (listed : Array Bool) (a : Act) (w : World), listed.toList.count false ≤ fuel → Inv listed a w → wpAnyIn F n P .any ops Q fuel listed a w := by
  intro fuel
  induction fuel with
  | zero =>
    intro listed a w hc hi
    have hr : Region.ready .any ops listed = [] := by
      cases h : Region.ready .any ops listed with
      | nil => rfl
      | cons i r =>
        have hm : i ∈ Region.ready .any ops listed := by rw [h]; simp
        obtain ⟨hlt, hf⟩ := getD_lt (mem_ready.1 hm).1
        have := count_set_one hlt hf
        omega
    exact ⟨hr, hend listed a w hi hr⟩
  | succ fuel ih =>
    intro listed a w hc hi
    refine ⟨fun hr => hend listed a w hi hr, fun i hm => ?_⟩
    refine wpOpIn_mono (fun a' w' h' => ih _ a' w' ?_ h') (hstep listed i a w hi hm)
    obtain ⟨hlt, hf⟩ := getD_lt (mem_ready.1 hm).1
    have := count_set_one hlt hf
    simp only [Array.toList_setIfInBounds]
    omega
/-- what has run has run behind what it waits for -/
def Ordered (ops : Array Oper) (listed : Array Bool) : Prop := listed.size = ops.size ∧ ∀ i o, ops[i]? = some o → listed.getD i false = true → ∀ e ∈ o.after, Region.binds .any e = true → listed.getD e.on false = true
theorem getD_set_true' {listed : Array Bool} {i j : Nat} (h : (listed.setIfInBounds i true).getD j false = true) : j = i ∨ listed.getD j false = true := by
  by_cases hij : j = i
  · exact .inl hij
  · exact .inr (by rw [getD_set_ne false (Ne.symm hij)] at h; exact h)
/-- every operation waits for earlier ones alone: asked of the region's own text -/
def lineUp (ops : Array Oper) : Bool := (List.range ops.size).all fun i => (ops.getD i default).after.all fun e => !Region.binds .any e || decide (e.on < i)
theorem all_listed {ops : Array Oper} {listed : Array Bool} (hl : lineUp ops = true) (hsz : listed.size = ops.size) (hr : Region.ready .any ops listed = []) : ∀ i, i < ops.size → listed.getD i false = true := by
  intro i
  induction i using Nat.strongRecOn with
  | _ i ih =>
    intro hi
    cases hf : listed.getD i false with
    | true => rfl
    | false =>
      exfalso
      have hf' : listed.getD i true = false := by
        have : i < listed.size := by omega
        simp [Array.getD, this] at hf ⊢
        exact hf
      have ho : ops[i]? = some ops[i] := by simp [hi]
      have hm : i ∈ Region.ready .any ops listed := mem_ready.2 ⟨hf', ops[i], ho, fun e he hb => by
        have h1 := List.all_eq_true.1 hl i (List.mem_range.2 hi)
        have h2 : (ops.getD i default) = ops[i] := by simp [Array.getD, hi]
        rw [h2] at h1
        have h3 := (Array.all_eq_true_iff_forall_mem.1 h1) e he
        rw [hb] at h3
        have h4 : e.on < i := by simpa using h3
        exact ih e.on h4 (by omega)⟩
      rw [hr] at hm
      cases hm
theorem wpIn_region_inv {ops : Array Oper} {Q : Exit → Act → World → Prop} {id : Nat} {a : Act} {w : World} (hm : P.follows .mixedOrders = true) (hline : lineUp ops = true) (Inv : (Nat → Bool) → Act → World → Prop)
    (h0 : Inv (fun _ => false) a w.drew)
    (hstep : ∀ (d d' : Nat → Bool) (i : Nat) (o : Oper) (a : Act) (w : World), (∀ j u, ops[j]? = some u → d j = true → ∀ e ∈ u.after, Region.binds .any e = true → d e.on = true) → Inv d a w →
      ops[i]? = some o → d i = false → d' i = true → (∀ j, j ≠ i → d' j = d j) → (∀ e ∈ o.after, Region.binds .any e = true → d e.on = true) → wpOpIn F n P ops Q i (Inv d') a w)
    (hend : ∀ (d : Nat → Bool) (a : Act) (w : World), Inv d a w → (∀ i, i < ops.size → d i = true) → Q .normal a w) : (Code.region id ops true).wpIn F n P Q a w := by
  refine wpIn_region_any hm (wpAnyIn_inv (fun listed a w => Ordered ops listed ∧ Inv (fun j => listed.getD j false) a w) ?_ ?_ _ _ _ _ (by simp) ⟨⟨by simp, fun i o _ h => ?_⟩, ?_⟩)
  · rintro listed i a w ⟨hO, hI⟩ hr
    obtain ⟨hf, o, ho, hpre⟩ := mem_ready.1 hr
    obtain ⟨hlt, hfl⟩ := getD_lt hf
    have hsz : i < listed.size := by simpa using hlt
    have hdi : (listed.setIfInBounds i true).getD i false = true := by simp [Array.getD, hsz]
    have hdf : listed.getD i false = false := by simp [Array.getD, hsz]; simpa using hfl
    have hdn : ∀ j, j ≠ i → (listed.setIfInBounds i true).getD j false = listed.getD j false := fun _ h => getD_set_ne false (Ne.symm h)
    refine wpOpIn_mono (fun a' w' h' => ⟨⟨by simpa using hO.1, fun j u hu hj e he hb => ?_⟩, h'⟩) (hstep _ (fun j => (listed.setIfInBounds i true).getD j false) i o a w hO.2 hI ho hdf hdi hdn hpre)
    rcases getD_set_true' hj with rfl | hj'
    · rw [ho] at hu
      cases hu
      exact getD_set_true (hpre e he hb)
    · exact getD_set_true (hO.2 j u hu hj' e he hb)
  · rintro listed a w ⟨hO, hI⟩ hr
    exact hend _ _ _ hI (all_listed hline hO.1 hr)
  · exfalso; revert h; simp [Array.getD]
  · have : (fun j => (Array.replicate ops.size false).getD j false) = fun _ => false := by
      funext j; simp [Array.getD]
    rw [this]
    exact h0

theorem wide_room (n : Nat) : Fence.wide.depth.isSome = true → 1 ≤ n := fun h => by cases h
/-- a scope that is gone through without a goto, at the wide fence -/
theorem wpIn_scope_wide {c : Code} {Q : Exit → Act → World → Prop} {a : Act} {w : World} (h : c.wpIn Fence.wide n P (Exit.noGoto Q) a w) : (Code.scope c).wpIn Fence.wide n P Q a w :=
  wpIn_wide.2 (wp_scope_straight (wpIn_wide.1 h))

end Go.Proofs.YtgnpjenpehfjbaaDoor
