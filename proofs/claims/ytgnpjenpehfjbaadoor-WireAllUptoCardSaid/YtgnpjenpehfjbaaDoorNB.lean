/- Wire: there and back (plain; by program: wip/tools/gen_wire36.py).
Wire: rows of packets; what WireBack's rounds keep (by program: wip/tools/gen_wireback.py). -/
import Derived.Test.YtgnpjenpehfjbaaDoorNA
import Derived.Test.YtgnpjenpehfjbaaDoorMZ
import Derived.Test.YtgnpjenpehfjbaaDoorMO
set_option linter.unusedSimpArgs false
set_option linter.unusedVariables false
namespace Go.Proofs.YtgnpjenpehfjbaaDoor
open Go.RowKit

end Go.Proofs.YtgnpjenpehfjbaaDoor

namespace Go.Proofs.YtgnpjenpehfjbaaDoor
open Go.RowKit

/-- a slice that reads as packets, each with its items -/
structure Pks (w : World) (B : Nat) (v : Value) (qs : List (Pkt × Value)) : Prop where
  row : ∃ ao cap, v = .slice ao qs.length cap ∧ qs.length ≤ cap ∧ qs.length ≤ maxLen ∧ (qs ≠ [] → ∃ b off, ao = some ⟨b, off, none⟩ ∧ b < B ∧ ∀ i q, qs[i]? = some q → w.rangeAt b (off + i * 8) (q.1.cells q.2))
  its : ∀ q ∈ qs, Ims w B q.2 q.1.items ∧ Sl q.2
theorem Pks.below {w w' : World} {B B' : Nat} {v : Value} {qs : List (Pkt × Value)} (h : Pks w B v qs) (hb : Below B w w') (hB : B ≤ B') : Pks w' B' v qs := by
  obtain ⟨⟨ao, cap, h1, h2, h3, h4⟩, h5⟩ := h
  refine ⟨⟨ao, cap, h1, h2, h3, fun hne => ?_⟩, fun q hq => ⟨(h5 q hq).1.below hb hB, (h5 q hq).2⟩⟩
  obtain ⟨b, off, e1, e2, e3⟩ := h4 hne
  exact ⟨b, off, e1, by omega, fun i q hq j u hu => (hb.cell (p := ⟨b, off + i * 8 + j, none⟩) e2).trans (e3 i q hq j u hu)⟩
theorem owns_kept {w w' : World} {B n sz n2 sz2 : Nat} {e e2 : TypeId} {v v2 : Value} {xs xs2 : List Value} (h1 : w.ownsRow B e sz v n xs) (h2 : w.ownsRow B e2 sz2 v2 n2 xs2) (hne : e ≠ e2) (hg : w.grownBy w' v.ownBlock) : w'.ownsRow B e2 sz2 v2 n2 xs2 := by
  refine World.ownsRow.kept h2 hg ?_
  cases hv : v2.ownBlock with
  | none => exact .inl rfl
  | some k =>
    refine .inr fun e => ?_
    obtain ⟨c, hc⟩ := owns_kind h2 k hv
    obtain ⟨c', hc'⟩ := owns_kind h1 k e.symm
    rw [hc] at hc'
    injection hc' with hc'
    injection hc' with _ hc' _
    exact hne hc'.symm
theorem owns_below {w w' : World} {B n sz : Nat} {e : TypeId} {v : Value} {xs : List Value} (h : w.ownsRow B e sz v n xs) (hb : Below w.heap.size w w') : w'.ownsRow B e sz v n xs :=
  World.ownsRow.kept h (row := none) ⟨hb.os, hb.tape, hb.output, hb.size, fun k hk _ => hb.block k hk⟩ (by
    cases hv : v.ownBlock with
    | none => exact .inl rfl
    | some k => exact .inr (by simp))
/-- where each frame ends -/
def endAt (fs : List Pkt) (i : Nat) : Nat := ((fs.take i).flatMap encB).length
def endsI (fs : List Pkt) : List Int := (List.range fs.length).map fun i => (endAt fs (i + 1) : Int)
structure BI (w : World) (fs : List Pkt) (gs : List (Pkt × Value)) (bv ev fv : Value) (W : World) : Prop where
  low : Below w.heap.size w W
  ob : Own W w.heap.size bv (fs.flatMap encB)
  oe : OwnK W w.heap.size ev (endsI fs)
  oq : OwnQ W w.heap.size fv gs
  eq : gs.map Prod.fst = fs
  fit : ∀ p ∈ fs, fitP p = true
theorem BI.below {w : World} {fs : List Pkt} {gs : List (Pkt × Value)} {bv ev fv : Value} {W W' : World} (h : BI w fs gs bv ev fv W) (hb : Below W.heap.size W W') : BI w fs gs bv ev fv W' :=
  ⟨h.low.trans (hb.mono h.low.size), h.ob.below hb, owns_below h.oe hb, owns_below h.oq hb, h.eq, h.fit⟩
/-- the three appends of a round, in plain words -/
theorem BI.step {w : World} {fs : List Pkt} {gs : List (Pkt × Value)} {bv ev fv bv' ev' fv' : Value} {W W1 W2 W3 W4 W5 : World} {p : Pkt} {u : Value} (h : BI w fs gs bv ev fv W) (hp : fitP p = true)
    (g1 : W.grownBy W1 bv.ownBlock) (o1 : Own W1 w.heap.size bv' (fs.flatMap encB ++ encB p)) (hb2 : Below W1.heap.size W1 W2) (g3 : W2.grownBy W3 ev.ownBlock) (o3 : OwnK W3 w.heap.size ev' (endsI (fs ++ [p])))
    (hb4 : Below W3.heap.size W3 W4) (g5 : W4.grownBy W5 fv.ownBlock) (o5 : OwnQ W5 w.heap.size fv' (gs ++ [(p, u)])) : BI w (fs ++ [p]) (gs ++ [(p, u)]) bv' ev' fv' W5 := by
  have nb : (5 : TypeId) ≠ 3 := by decide
  have nq : (5 : TypeId) ≠ 24 := by decide
  have ni : (3 : TypeId) ≠ 24 := by decide
  have e1 := owns_kept h.ob h.oe nb g1
  have q1 := owns_kept h.ob h.oq nq g1
  have b2 := o1.below hb2
  have e2 := owns_below e1 hb2
  have q2 := owns_below q1 hb2
  have b3 := owns_kept e2 b2 nb.symm g3
  have q3 := owns_kept e2 q2 ni g3
  have b4 := owns_below b3 hb4
  have e4 := owns_below o3 hb4
  have q4 := owns_below q3 hb4
  have b5 := owns_kept q4 b4 nq.symm g5
  have e5 := owns_kept q4 e4 ni.symm g5
  have l1 := h.low.grown g1 h.low.size (fun k e => (World.ownsRow.lt h.ob k e).1)
  have l2 := l1.trans (hb2.mono l1.size)
  have l3 := l2.grown g3 l2.size (fun k e => (World.ownsRow.lt e2 k e).1)
  have l4 := l3.trans (hb4.mono l3.size)
  have l5 := l4.grown g5 l4.size (fun k e => (World.ownsRow.lt q4 k e).1)
  refine ⟨l5, ?_, e5, o5, by rw [List.map_append, h.eq]; rfl, fun x hx => ?_⟩
  · rw [List.flatMap_append]
    simp only [List.flatMap_cons, List.flatMap_nil, List.append_nil]
    exact b5
  · rcases List.mem_append.1 hx with hx | hx
    · exact h.fit x hx
    · rw [List.mem_singleton] at hx; subst hx; exact hp

end Go.Proofs.YtgnpjenpehfjbaaDoor

