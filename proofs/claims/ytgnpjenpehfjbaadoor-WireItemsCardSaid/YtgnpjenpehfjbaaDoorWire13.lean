/- Wire: fields: what holds while the region of a round runs (by program: wip/tools/gen_wire13.py). -/
import Derived.Test.YtgnpjenpehfjbaaDoorWire12
import Derived.Test.YtgnpjenpehfjbaaDoorCodeRead
import Derived.Test.YtgnpjenpehfjbaaDoorRangeK
import Derived.Test.YtgnpjenpehfjbaaDoorRangeT
import Derived.Deep.AppendLies
namespace Go.Proofs.YtgnpjenpehfjbaaDoor
open Go.RowKit

/-- what a consumer with one box p of a slice may turn: the box, and the row that the slice has now -/
def BoxT (p : Nat) (W : World) (k : Nat) : Prop := k = p ∨ ∃ v t, W.heap[p]? = some (.cells #[v] t (0, 0)) ∧ v.ownBlock = some k
theorem BoxT.same {p : Nat} {W W' : World} (h : W'.heap[p]? = W.heap[p]?) {k : Nat} (hk : BoxT p W' k) : BoxT p W k := by
  rcases hk with rfl | ⟨v, t, h1, h2⟩
  · exact .inl rfl
  · exact .inr ⟨v, t, h ▸ h1, h2⟩

theorem OwnF.below {w w' : World} {B : Nat} {v : Value} {fs : List Fld} (h : OwnF w B v fs) (hb : Below w.heap.size w w') : OwnF w' B v fs :=
  World.ownsRow.kept h (row := none) ⟨hb.os, hb.tape, hb.output, hb.size, fun k hk _ => hb.block k hk⟩ (by
    cases hv : v.ownBlock with
    | none => exact .inl rfl
    | some k => exact .inr (by simp))
theorem OwnF.set {w : World} {B : Nat} {v : Value} {fs : List Fld} (h : OwnF w B v fs) {b o : Nat} (hb : b < B) {u : Value} : OwnF (w.setCell ⟨b, o, none⟩ u) B v fs := ownsRow_setCell_below (a := ⟨b, o, none⟩) h hb u
theorem OwnF.putO {w : World} {B : Nat} {v : Value} {fs : List Fld} (h : OwnF w B v fs) {l : Nat} {o : Obj} (o' : Obj) (hl : w.heap[l]? = some o) (hc : o.isCells = false) : OwnF (w.putObj l o') B v fs := ownsRow_putObj h o' hl hc
structure FJ (W0 : World) (p u : Nat) (kd : Int) (x0 x1 x2 x3 : Option Addr) (v : Value) (l : List Fld) (f : Fld) (d3 d4 d5 : Bool) (v3 v4 : Value) (W : World) : Prop where
  low : Below p W0 W
  siz : W0.heap.size ≤ W.heap.size
  oth : KeepsOthers W0 W
  pu : p < u
  o43 : d4 = true → d3 = true
  o54 : d5 = true → d4 = true
  pl : W.heap[u]? = some (.cells #[.int .i64 kd, .pointer x0, .pointer x1, .pointer x2, .pointer x3] 106 (0, 0))
  own0 : d4 = false → OwnF W (p + 1) v l
  lit : d3 = true → ∃ g, v3 = .slice (some ⟨g, 0, none⟩) 1 1 ∧ (d4 = false → W.heap[g]? = some (.cells f.cells.toArray 92 (0, 0)))
  own1 : d4 = true → OwnF W (p + 1) v4 (l ++ [f])
  box0 : d5 = false → W.heap[p]? = some (.cells #[v] 63 (0, 0))
  box1 : d5 = true → W.heap[p]? = some (.cells #[v4] 63 (0, 0))
  keep : ∀ k, k < W0.heap.size → k ≠ p → v.ownBlock ≠ some k → W.heap[k]? = W0.heap[k]?
  lies : d4 = true → ∀ g, v4.ownBlock = some g → v.ownBlock = some g ∨ W0.heap.size ≤ g
theorem FJ.start {W0 : World} {p u : Nat} {kd : Int} {x0 x1 x2 x3 : Option Addr} {v : Value} {l : List Fld} {f : Fld} {v3 v4 : Value} (ho : OwnF W0 (p + 1) v l) (hb : W0.heap[p]? = some (.cells #[v] 63 (0, 0))) (hu : W0.heap[u]? = some (.cells #[.int .i64 kd, .pointer x0, .pointer x1, .pointer x2, .pointer x3] 106 (0, 0))) (hpu : p < u) : FJ W0 p u kd x0 x1 x2 x3 v l f false false false v3 v4 W0.drew :=
  ⟨(Below.refl _ _).drew, Nat.le_refl _, KeepsOthers.drew _, hpu, (fun e => by cases e), (fun e => by cases e), hu, fun _ => ho, (fun e => by cases e), (fun e => by cases e), fun _ => hb, (fun e => by cases e), fun _ _ _ _ => rfl, (fun e => by cases e)⟩
theorem FJ.below {W0 : World} {p u : Nat} {kd : Int} {x0 x1 x2 x3 : Option Addr} {v : Value} {l : List Fld} {f : Fld} {d3 d4 d5 : Bool} {v3 v4 : Value} {W W' : World} (h : FJ W0 p u kd x0 x1 x2 x3 v l f d3 d4 d5 v3 v4 W) (hb : Below W.heap.size W W') : FJ W0 p u kd x0 x1 x2 x3 v l f d3 d4 d5 v3 v4 W' := by
  have hpu := h.pu
  have hus := (Array.getElem?_eq_some_iff.1 h.pl).1
  exact ⟨h.low.trans (hb.mono (by omega)), Nat.le_trans h.siz hb.size, h.oth.trans ⟨hb.size, fun k o hk _ => stays hk hb⟩, h.pu, h.o43, h.o54, stays h.pl hb, fun e => (h.own0 e).below hb,
    fun e => by obtain ⟨g, h1, h2⟩ := h.lit e; exact ⟨g, h1, fun e4 => stays (h2 e4) hb⟩, fun e => (h.own1 e).below hb, fun e => stays (h.box0 e) hb, fun e => stays (h.box1 e) hb, fun k hk h1 h2 => (hb.block k (Nat.lt_of_lt_of_le hk h.siz)).trans (h.keep k hk h1 h2), h.lies⟩
theorem FJ.builds {W0 : World} {p u : Nat} {kd : Int} {x0 x1 x2 x3 : Option Addr} {v : Value} {l : List Fld} {f : Fld} {d4 d5 : Bool} {v3 v3' v4 : Value} {W : World} (h : FJ W0 p u kd x0 x1 x2 x3 v l f false d4 d5 v3 v4 W) (hv : v3' = .slice (some ⟨W.heap.size, 0, none⟩) 1 1) : FJ W0 p u kd x0 x1 x2 x3 v l f true d4 d5 v3' v4 (W.alloc (.cells f.cells.toArray 92)) := by
  have e4 : d4 = false := by cases hd : d4 with | false => rfl | true => have := h.o43 hd; cases this
  have g := h.below (new_block W (.cells f.cells.toArray 92)).1
  exact ⟨g.low, g.siz, g.oth, g.pu, fun _ => rfl, g.o54, g.pl, g.own0, fun _ => ⟨_, hv, fun _ => (new_block W _).2⟩, g.own1, g.box0, g.box1, g.keep, g.lies⟩
theorem FJ.appends {W0 : World} {p u : Nat} {kd : Int} {x0 x1 x2 x3 : Option Addr} {v : Value} {l : List Fld} {f : Fld} {v3 v4 v4' : Value} {W W' : World} {d5 : Bool} (h : FJ W0 p u kd x0 x1 x2 x3 v l f true false d5 v3 v4 W) (ho : OwnF W' (p + 1) v4' (l ++ [f])) (hg : W.grownBy W' v.ownBlock) (hl : ∀ g, v4'.ownBlock = some g → v.ownBlock = some g ∨ W.heap.size ≤ g) : FJ W0 p u kd x0 x1 x2 x3 v l f true true d5 v3 v4' W' := by
  have e5 : d5 = false := by cases hd : d5 with | false => rfl | true => have := h.o54 hd; cases this
  have hown := h.own0 rfl
  have hge : ∀ k, v.ownBlock = some k → p + 1 ≤ k := fun k e => (World.ownsRow.lt hown k e).1
  have hpl := (Array.getElem?_eq_some_iff.1 (h.box0 e5)).1
  have hus := (Array.getElem?_eq_some_iff.1 h.pl).1
  have hrow : ∀ (j : Nat) (o : Obj), v.ownBlock = some j → W.heap[j]? = some o → ∃ cur, o = .cells cur 92 (0, 0) := by
    intro j o e hj
    rcases hown.2 with ⟨rfl, -⟩ | ⟨g, cap, cur, rfl, -, hg2, -⟩
    · cases e
    · cases e
      rw [hg2] at hj
      cases hj
      exact ⟨_, rfl⟩
  have huo : v.ownBlock ≠ some u := fun e => by
    obtain ⟨cur, hc⟩ := hrow u _ e h.pl
    cases hc
  refine ⟨h.low.grown hg (by omega) (fun k e => by have := hge k e; omega), Nat.le_trans h.siz hg.size, h.oth.trans (KeepsOthers.of_grownBy hg fun j o e hj => by obtain ⟨cur, rfl⟩ := hrow j o e hj; rfl), h.pu, fun _ => rfl, fun _ => rfl, ?_, (fun e => by cases e), fun e => by obtain ⟨g, h1, -⟩ := h.lit e; exact ⟨g, h1, fun e => by cases e⟩, fun _ => ho, fun _ => ?_, (fun e => by rw [e5] at e; cases e), fun k hk h1 h2 => (hg.block k (Nat.lt_of_lt_of_le hk h.siz) (fun e => h2 e.symm)).trans (h.keep k hk h1 h2), fun _ g hgg => ?_⟩
  · exact (hg.block u hus (fun e => huo e.symm)).trans h.pl
  · exact (hg.block p hpl (fun e => by have := hge p e.symm; omega)).trans (h.box0 e5)
  · rcases hl g hgg with h1 | h1
    · exact .inl h1
    · exact .inr (Nat.le_trans h.siz h1)
theorem FJ.stores {W0 : World} {p u : Nat} {kd : Int} {x0 x1 x2 x3 : Option Addr} {v : Value} {l : List Fld} {f : Fld} {v3 v4 : Value} {W : World} (h : FJ W0 p u kd x0 x1 x2 x3 v l f true true false v3 v4 W) : FJ W0 p u kd x0 x1 x2 x3 v l f true true true v3 v4 (W.setCell ⟨p, 0, none⟩ v4) := by
  have hpu := h.pu
  exact ⟨bel_set (Nat.le_refl _) h.low, by simpa [World.setCell] using h.siz, h.oth.trans (KeepsOthers.setCell _ _ _), h.pu, fun _ => rfl, fun _ => rfl, (set_other _ _ _ _ _ (by omega)).trans h.pl, (fun e => by cases e), (fun e => by obtain ⟨g, h1, -⟩ := h.lit e; exact ⟨g, h1, fun e => by cases e⟩),
    fun e => (h.own1 e).set (by omega), (fun e => by cases e), fun _ => set_block W p 0 _ _ v4 (h.box0 rfl), fun k hk h1 h2 => (set_other _ _ _ _ _ h1).trans (h.keep k hk h1 h2), h.lies⟩
/-- append(s, f) of fields, as one operation -/
theorem op_append_fld (s x : Nat) (a : Act) (w : World) (base : Nat) (v : Value) (xs : List Fld) (g : Nat) (f : Fld) (hs : a.tmps.getD s undef = v) (hx : a.tmps.getD x undef = .slice (some ⟨g, 0, none⟩) 1 1) (hown : OwnF w base v xs) (hg : w.heap[g]? = some (.cells f.cells.toArray 92 (0, 0))) (hl : xs.length ≤ 1000000000) (hbase : base ≤ w.heap.size) :
    ∃ v' w', (∀ o : Oper, o.op = .call { callee := .builtin .append, args := #[.tmp s, .tmp x], argTypes := #[63, 63] } → o.type = 63 → (execOp a.eval o).run Tryd.prog w = .ok (.value v') w') ∧ OwnF w' base v' (xs ++ [f]) ∧ w.grownBy w' v.ownBlock ∧ ∀ g, v'.ownBlock = some g → v.ownBlock = some g ∨ w.heap.size ≤ g := by
  obtain ⟨i0, hi, hz0, hz1, hz2⟩ := info_parts info_field
  obtain ⟨g', cap', w', hr, h2, h3, h4, -⟩ := run_append_lies (P := Tryd.prog) w 63 63 base 92 i0 _ 4 40 Tryd.underlying63 hi hz0 hz1 hz2 rfl (by decide) v xs.length (xs.flatMap Fld.cells) hown ⟨g, 0, none⟩ 1 1 f.cells rfl
    (by
      intro j y hj
      have := cell_of_row w g j _ _ _ hg
      have e : (⟨g, 0, none⟩ : Addr).add j = ⟨g, j, none⟩ := by unfold Addr.add; split <;> simp_all
      rw [e, this]
      simpa using hj) (fld_cells f) (by omega) (by unfold maxLen; omega) (by omega) hbase _ rfl
  refine ⟨_, w', fun o ho hty => ?_, owns_snoc h2, h3, fun g hgg => ?_⟩
  rotate_left
  · simp only [Value.ownBlock, Option.some.injEq] at hgg
    subst hgg
    rcases h4 with h4 | h4
    · exact .inl h4
    · exact .inr (by omega)
  unfold execOp
  simp only [ho, hty, resolve, invoke, builtin, Sem.run_bind, Sem.run_pure, Result.andThen_ok, List.map_toArray, List.map_cons, List.map_nil, Act.eval, hs, hx, hr]

end Go.Proofs.YtgnpjenpehfjbaaDoor
