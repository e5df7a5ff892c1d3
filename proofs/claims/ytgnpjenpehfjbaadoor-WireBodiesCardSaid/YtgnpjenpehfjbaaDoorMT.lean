/- The document's reads and the program's: the same numbers (plain).
What the document's Open says, against the program's (plain).
The document's items, against the program's (plain).
The document's Open as a plain function; the same as the program's (plain).
The document's Open: what holds at its loop.
The document's Open (by program: wip/tools/gen_rd4.py). -/
import Derived.Test.YtgnpjenpehfjbaaDoorMS
import Derived.Test.YtgnpjenpehfjbaaDoorMP
import Derived.Test.YtgnpjenpehfjbaaDoorMK
import Derived.Test.YtgnpjenpehfjbaaDoorMQ
import Derived.Test.YtgnpjenpehfjbaaDoorMC
import Derived.Laws.ResultCell
import Derived.WalkMore
set_option linter.unusedSimpArgs false
set_option linter.unusedVariables false
namespace Go.Proofs.YtgnpjenpehfjbaaDoor

theorem drop_at (l : List UInt8) (a0 a : Nat) : (l.drop a0).getD a 0 = l.getD (a0 + a) 0 := by
  simp [List.getD]
theorem numR_ge (l : List UInt8) : ∀ f a acc, a ≤ (numR l f a acc).2.1 := by
  intro f
  induction f with
  | zero => intro a acc; exact Nat.le_refl _
  | succ f ih =>
    intro a acc
    unfold numR
    split
    · exact Nat.le_refl _
    · split
      · exact Nat.le_refl _
      · split
        · exact Nat.le_succ _
        · exact Nat.le_trans (Nat.le_succ _) (ih _ _)
theorem numR_drop (l : List UInt8) (a0 : Nat) : ∀ f a acc, numR (l.drop a0) f a acc = ((numR l f (a0 + a) acc).1, (numR l f (a0 + a) acc).2.1 - a0, (numR l f (a0 + a) acc).2.2) := by
  intro f
  induction f with
  | zero => intro a acc; simp [numR]
  | succ f ih =>
    intro a acc
    unfold numR
    have e1 : (l.drop a0).length ≤ a ↔ l.length ≤ a0 + a := by rw [List.length_drop]; omega
    simp only [drop_at, e1]
    split
    · simp
    · split
      · simp
      · split
        · simp only [Prod.mk.injEq, true_and, and_true]; omega
        · rw [ih, show a0 + (a + 1) = a0 + a + 1 by omega]
theorem fieldR_ge (l : List UInt8) (k : Int) (a : Nat) : a ≤ (fieldR l k a).2.1 := by
  have := numR_ge l 10 a 0
  unfold fieldR textR
  repeat' split
  all_goals first | exact Nat.le_refl _ | (simp only; omega) | omega
theorem fieldR_drop (l : List UInt8) (a0 : Nat) (k : Int) (a : Nat) : fieldR (l.drop a0) k a = ((fieldR l k (a0 + a)).1, (fieldR l k (a0 + a)).2.1 - a0, (fieldR l k (a0 + a)).2.2) := by
  have e1 : (l.drop a0).length ≤ a ↔ l.length ≤ a0 + a := by rw [List.length_drop]; omega
  have e2 := numR_ge l 10 (a0 + a) 0
  have e3 : ∀ b n : Nat, a0 ≤ b → ((l.drop a0).take (b - a0 + n)).drop (b - a0) = (l.take (b + n)).drop b := by
    intro b n hb
    rw [List.take_drop, List.drop_drop]
    rw [show a0 + (b - a0 + n) = b + n by omega, show a0 + (b - a0) = b by omega]
  unfold fieldR textR
  simp only [numR_drop, drop_at, e1]
  generalize numR l 10 (a0 + a) 0 = R at *
  obtain ⟨x, b, e⟩ := R
  dsimp only at e2 ⊢
  rw [e3 b x (by omega), List.length_drop, show l.length - a0 - (b - a0) = l.length - b by omega]
  repeat' split
  all_goals first | rfl | (simp only [Prod.mk.injEq, true_and, and_true]; omega) | skip
/-- the document's reads, one behind the other -/
def rdF (l : List UInt8) : List Int → Nat × Nat → List Fld × (Nat × Nat)
  | [], s => ([], s)
  | k :: r, s => ((rdS l k s).1 :: (rdF l r (rdS l k s).2).1, (rdF l r (rdS l k s).2).2)
theorem rdS_ok (l : List UInt8) (k : Int) (a : Nat) : rdS l k (a, 0) = fieldR l k a := by unfold rdS; rw [if_neg (by simp)]
theorem rdF_bad (l : List UInt8) : ∀ ks a c, c ≠ 0 → (rdF l ks (a, c)).2 = (a, c) := by
  intro ks
  induction ks with
  | nil => intro a c _; rfl
  | cons k r ih =>
    intro a c h
    unfold rdF
    have e : (rdS l k (a, c)).2 = (a, c) := by unfold rdS; rw [if_pos h]
    dsimp only
    rw [e, ih a c h]
theorem rdF_readF (l : List UInt8) (a0 : Nat) : ∀ ks acc b, ((rdF l ks (a0 + b, 0)).2.2 = 0 → readF (l.drop a0) ks acc b = (acc ++ (rdF l ks (a0 + b, 0)).1, (rdF l ks (a0 + b, 0)).2.1 - a0, 0) ∧ a0 + b ≤ (rdF l ks (a0 + b, 0)).2.1) ∧ ((rdF l ks (a0 + b, 0)).2.2 ≠ 0 → (readF (l.drop a0) ks acc b).2.2 ≠ 0) := by
  intro ks
  induction ks with
  | nil => intro acc b; simp [rdF, readF]
  | cons k r ih =>
    intro acc b
    unfold rdF readF
    rw [rdS_ok, fieldR_drop]
    have hge := fieldR_ge l k (a0 + b)
    generalize fieldR l k (a0 + b) = T at *
    obtain ⟨f, c, e⟩ := T
    dsimp only at hge ⊢
    by_cases he : e = 0
    · subst he
      rw [if_neg (by simp)]
      obtain ⟨d, rfl⟩ : ∃ d, c = a0 + d := ⟨c - a0, by omega⟩
      rw [Nat.add_sub_cancel_left]
      obtain ⟨h1, h2⟩ := ih (acc ++ [f]) d
      refine ⟨fun h => ?_, h2⟩
      obtain ⟨h3, h4⟩ := h1 h
      exact ⟨by rw [h3]; simp, by omega⟩
    · rw [if_pos he, rdF_bad l r c e he]
      exact ⟨fun h => absurd h he, fun _ => he⟩

end Go.Proofs.YtgnpjenpehfjbaaDoor

namespace Go.Proofs.YtgnpjenpehfjbaaDoor

def xtS (e : Xt) : Xt := ⟨e.has, e.val, smallR e.org, e.age⟩
/-- an item as the document has it: numbers that are no int are -1 -/
def itmS (x : Itm) : Itm := ⟨x.name, x.epoch, smallR x.maker, x.alive, smallR x.kind, x.scale, x.ver, smallR x.writer, x.flow, x.hasRest, x.rest, xtS x.mn, xtS x.mx⟩
def pktS (p : Pkt) : Pkt := ⟨smallR p.kind, smallR p.frm, smallR p.to, p.boot, p.life, p.echo, p.elife, p.items.map itmS⟩
theorem rdItem_F (l : List UInt8) (s : Nat × Nat) : rdItem l s = (itmS (itmOf (rdF l itemK s).1), (rdF l itemK s).2) := by
  simp only [rdItem, rdExt, itemK, rdF, itmOf, itmS, xtS, List.getD_cons_zero, List.getD_cons_succ]
theorem smallR_id {y : Int} (h : 0 ≤ smallR y) : smallR y = y := by
  unfold smallR at h ⊢
  split
  · rename_i h1; rw [if_pos h1] at h; omega
  · rfl
theorem smallR_le {y : Int} (h : y ≤ 1073741824) : smallR y = y := by unfold smallR; rw [if_neg (by omega)]
theorem itmS_fit {x : Itm} (h : ItmOk (itmS x)) : itmS x = x := by
  obtain ⟨-, -, h3, h4, -, h6, -, h8, h9⟩ := h
  have e1 := smallR_id (y := x.maker) h3.1
  have e2 := smallR_id (y := x.kind) h4.1
  have e3 := smallR_id (y := x.writer) h6.2.1.1
  have e4 := smallR_id (y := x.mn.org) h8.2.1.1
  have e5 := smallR_id (y := x.mx.org) h9.2.1.1
  unfold itmS xtS
  rw [e1, e2, e3, e4, e5]
theorem itmS_ok {x : Itm} (h : ItmOk x) : itmS x = x := by
  obtain ⟨-, -, h3, h4, -, h6, -, h8, h9⟩ := h
  have e1 := smallR_le (y := x.maker) (by omega)
  have e2 := smallR_le (y := x.kind) (by omega)
  have e3 := smallR_le (y := x.writer) (by omega)
  have e4 := smallR_le (y := x.mn.org) (by omega)
  have e5 := smallR_le (y := x.mx.org) (by omega)
  unfold itmS xtS
  rw [e1, e2, e3, e4, e5]
theorem map_same {xs : List Itm} (h : ∀ x ∈ xs, itmS x = x) : xs.map itmS = xs := by
  induction xs with
  | nil => rfl
  | cons x r ih => rw [List.map_cons, h x List.mem_cons_self, ih fun y hy => h y (List.mem_cons_of_mem _ hy)]
/-- the document's packet is fit where the program's is, and is then the same -/
theorem pktS_fit {p : Pkt} (h : fitP (pktS p) = true) : pktS p = p := by
  have h1 := fit_bounds h
  have h2 := fit_mem h
  have e1 := smallR_id (y := p.kind) (by have := h1.1.1; show 0 ≤ (pktS p).kind; omega)
  have e2 := smallR_id (y := p.frm) h1.2.1.1
  have e3 := smallR_id (y := p.to) h1.2.2.1.1
  have e4 : p.items.map itmS = p.items := map_same fun x hx => itmS_fit (h2 _ (List.mem_map_of_mem hx))
  unfold pktS
  rw [e1, e2, e3, e4]
theorem pktS_ok {p : Pkt} (h : fitP p = true) : pktS p = p := by
  have h1 := fit_bounds h
  have h2 := fit_mem h
  have e1 := smallR_le (y := p.kind) (by have := h1.1.2; omega)
  have e2 := smallR_le (y := p.frm) (by have := h1.2.1.2; omega)
  have e3 := smallR_le (y := p.to) (by have := h1.2.2.1.2; omega)
  have e4 : p.items.map itmS = p.items := map_same fun x hx => itmS_ok (h2 x hx)
  unfold pktS
  rw [e1, e2, e3, e4]
theorem pktS_same (p : Pkt) : fitP (pktS p) = fitP p := by
  cases h : fitP (pktS p) with
  | true => have e := pktS_fit h; rw [e] at h; exact h.symm
  | false =>
    cases h2 : fitP p with
    | true => rw [pktS_ok h2, h2] at h; cases h
    | false => rfl

end Go.Proofs.YtgnpjenpehfjbaaDoor

namespace Go.Proofs.YtgnpjenpehfjbaaDoor

def refItemsR (l : List UInt8) (n : Int) : Nat → List Itm → Nat × Nat → List Itm × (Nat × Nat)
  | 0, xs, s => (xs, s)
  | f + 1, xs, s => if (xs.length : Int) < n ∧ s.2 = 0 then refItemsR l n f (xs ++ [(rdItem l s).1]) (rdItem l s).2 else (xs, s)
theorem refItems_bad (l : List UInt8) (n : Int) (f : Nat) (xs : List Itm) (s : Nat × Nat) (h : s.2 ≠ 0) : refItemsR l n f xs s = (xs, s) := by
  cases f with
  | zero => rfl
  | succ f => unfold refItemsR; rw [if_neg (fun h1 => h h1.2)]
theorem refItems_same (l : List UInt8) (n : Int) : ∀ f xs a, a ≤ l.length → l.length + 1 ≤ f + a →
    (∀ ys b, itemsR l n f xs a = some (ys, b) → refItemsR l n f (xs.map itmS) (a, 0) = (ys.map itmS, (b, 0))) ∧ (itemsR l n f xs a = none → (refItemsR l n f (xs.map itmS) (a, 0)).2.2 ≠ 0) := by
  intro f
  induction f with
  | zero => intro xs a h1 h2; omega
  | succ f ih =>
    intro xs a h1 h2
    have hr := rdF_readF l a itemK [] 0
    rw [Nat.add_zero] at hr
    have hs := readF_says (l := l.drop a) (ks := itemK)
    have hF := rdItem_F l (a, 0)
    unfold itemsR refItemsR
    rw [List.length_map]
    by_cases hn : (xs.length : Int) < n
    · rw [if_pos hn, if_pos (show (xs.length : Int) < n ∧ (0 : Nat) = 0 from ⟨hn, rfl⟩), hF]
      generalize rdF l itemK (a, 0) = R at *
      obtain ⟨gs, b, c⟩ := R
      dsimp only at hr ⊢
      by_cases hc : c = 0
      · obtain ⟨h3, h4⟩ := hr.1 hc
        rw [h3] at hs ⊢
        dsimp only at hs ⊢
        have h5 := hs rfl
        rw [List.length_drop] at h5
        have h6 : itemK.length = 19 := rfl
        rw [if_neg (by simp), hc, List.nil_append, show a + (b - a) = b by omega]
        have h7 := ih (xs ++ [itmOf gs]) b (by omega) (by omega)
        rw [List.map_append] at h7
        exact h7
      · have h3 := hr.2 hc
        rw [if_pos h3, refItems_bad l n f _ (b, c) hc]
        exact ⟨(fun ys b h => nomatch h), fun _ => hc⟩
    · rw [if_neg hn, if_neg (show ¬ ((xs.length : Int) < n ∧ (0 : Nat) = 0) from fun h => hn h.1)]
      refine ⟨fun ys b h => ?_, fun h => nomatch h⟩
      injection h with h
      injection h with h8 h9
      rw [h8, h9]

end Go.Proofs.YtgnpjenpehfjbaaDoor

namespace Go.Proofs.YtgnpjenpehfjbaaDoor

def refHd (gs : List Fld) (xs : List Itm) : Pkt := ⟨smallR (gs.getD 0 nilF).num, smallR (gs.getD 1 nilF).num, smallR (gs.getD 2 nilF).num, (gs.getD 3 nilF).num, (gs.getD 4 nilF).num, (gs.getD 5 nilF).num, (gs.getD 6 nilF).num, xs⟩
def refOpenP (l : List UInt8) : Pkt × Nat :=
  let H := rdF l headK (0, 0)
  let I := refItemsR l (H.1.getD 7 nilF).num (l.length + 1) [] H.2
  if I.2.2 ≠ 0 ∨ I.2.1 ≠ l.length then (zeroP, 20) else if fitP (refHd H.1 I.1) then (refHd H.1 I.1, 0) else (zeroP, 54)
theorem refHd_S (gs : List Fld) (ys : List Itm) : refHd gs (ys.map itmS) = pktS (hdOf gs ys) := rfl
theorem refOpen_same (l : List UInt8) : refOpenP l = openP l := by
  have hr := rdF_readF l 0 headK [] 0
  rw [Nat.add_zero, List.drop_zero] at hr
  have hs := readF_says (l := l) (ks := headK)
  unfold refOpenP openP
  generalize rdF l headK (0, 0) = R at *
  obtain ⟨gs, b, c⟩ := R
  dsimp only at hr ⊢
  by_cases hc : c = 0
  · obtain ⟨h3, h4⟩ := hr.1 hc
    rw [h3] at hs ⊢
    dsimp only at hs ⊢
    have h5 := hs rfl
    rw [if_neg (show ¬ (0 : Nat) ≠ 0 by simp), hc, List.nil_append, Nat.sub_zero]
    obtain ⟨h6, h7⟩ := refItems_same l (gs.getD 7 nilF).num (l.length + 1) [] b (by omega) (by omega)
    rw [List.map_nil] at h6 h7
    cases hI : itemsR l (gs.getD 7 nilF).num (l.length + 1) [] b with
    | none => dsimp only; rw [if_pos (.inl (h7 hI))]
    | some z =>
      obtain ⟨ys, e⟩ := z
      dsimp only
      rw [h6 ys e hI]
      dsimp only
      by_cases he : e = l.length
      · rw [if_neg (show ¬ ((0 : Nat) ≠ 0 ∨ e ≠ l.length) by simp [he]), if_neg (show ¬ e ≠ l.length by simp [he]), refHd_S, pktS_same]
        cases hf : fitP (hdOf gs ys) with
        | true => rw [pktS_ok hf]
        | false => rfl
      · rw [if_pos (.inr he), if_pos he]
  · have h3 := hr.2 hc
    rw [if_pos h3, refItems_bad l _ _ _ (b, c) hc, if_pos (.inl hc)]

end Go.Proofs.YtgnpjenpehfjbaaDoor

namespace Go.Proofs.YtgnpjenpehfjbaaDoor
open Go.RowKit

theorem RdAt.grown {rb : Nat} {vb : Value} {s : Nat × Nat} {w W W' : World} (h : RdAt rb vb w s W) {b : Option Nat} (hg : W.grownBy W' b) (hn : ∀ k, b = some k → w.heap.size ≤ k) : RdAt rb vb w s W' := by
  obtain ⟨a, h1, h2⟩ := h
  have hlt := h1.lt
  exact ⟨a, ⟨hg.os.trans h1.os, hg.tape.trans h1.tape, hg.output.trans h1.output, Nat.le_trans h1.size hg.size, fun k hk hne => (hg.block k (Nat.lt_of_lt_of_le hk h1.size) (fun e => by have := hn k e.symm; omega)).trans (h1.block k hk hne), (hg.block rb (Nat.lt_of_lt_of_le hlt h1.size) (fun e => by have := hn rb e.symm; omega)).trans h1.cur, hlt⟩, h2⟩
theorem RdAt.drew {rb : Nat} {vb : Value} {s : Nat × Nat} {w W : World} (h : RdAt rb vb w s W) : RdAt rb vb w s W.drew := by
  obtain ⟨a, h1, h2⟩ := h
  exact ⟨a, ⟨h1.os, h1.tape, h1.output, h1.size, h1.block, h1.cur, h1.lt⟩, h2⟩
/-- at the loop: the reader, the packet's box, the items' row -/
structure OI (W0 : World) (rb xb : Nat) (vb : Value) (hd : Pkt) (s : Nat × Nat) (xs : List Itm) (u : Value) (W : World) : Prop where
  rd : RdAt rb vb W0 s W
  kx : W.heap[xb]? = some (.cells (hd.cells u).toArray 24 (0, 0))
  own : OwnX W (xb + 1) u xs
theorem OI.reads {W0 : World} {rb xb : Nat} {vb : Value} {hd : Pkt} {s : Nat × Nat} {xs : List Itm} {u : Value} {W : World} (h : OI W0 rb xb vb hd s xs u W) (hne : rb < xb) {s' : Nat × Nat} {v : Value} {e : Ending} {W' : World} (hp : RdPost rb vb W s' v e W') : OI W0 rb xb vb hd s' xs u W' := by
  refine ⟨h.rd.next hp, hp.at.kept h.kx (by omega), owns_same h.own fun k hk => ?_⟩
  have hl := World.ownsRow.lt h.own k hk
  obtain ⟨a, h1, -⟩ := hp.at
  exact h1.block k hl.2 (by omega)
theorem OI.below {W0 : World} {rb xb : Nat} {vb : Value} {hd : Pkt} {s : Nat × Nat} {xs : List Itm} {u : Value} {W : World} (h : OI W0 rb xb vb hd s xs u W) (o : Obj) : OI W0 rb xb vb hd s xs u (W.alloc o) :=
  ⟨h.rd.alloc o, stays h.kx (new_block W o).1, h.own.below (new_block W o).1⟩
theorem OI.drew {W0 : World} {rb xb : Nat} {vb : Value} {hd : Pkt} {s : Nat × Nat} {xs : List Itm} {u : Value} {W : World} (h : OI W0 rb xb vb hd s xs u W) : OI W0 rb xb vb hd s xs u W.drew :=
  ⟨h.rd.drew, h.kx, h.own⟩
/-- behind the append, ahead of the store -/
structure OA (W0 : World) (rb xb : Nat) (vb : Value) (hd : Pkt) (s : Nat × Nat) (xs : List Itm) (u v : Value) (W : World) : Prop where
  rd : RdAt rb vb W0 s W
  kx : W.heap[xb]? = some (.cells (hd.cells u).toArray 24 (0, 0))
  own : OwnX W (xb + 1) v xs
theorem OI.appends {W0 : World} {rb xb : Nat} {vb : Value} {hd : Pkt} {s : Nat × Nat} {xs ys : List Itm} {u : Value} {W : World} (h : OI W0 rb xb vb hd s xs u W) (hwx : W0.heap.size ≤ xb) {W' : World} {v : Value} (hg : W.grownBy W' u.ownBlock) (ho : OwnX W' (xb + 1) v ys) : OA W0 rb xb vb hd s ys u v W' :=
  ⟨h.rd.grown hg (fun k e => by have := (World.ownsRow.lt h.own k e).1; omega), (hg.block xb (Array.getElem?_eq_some_iff.1 h.kx).1 (fun e => by have := (World.ownsRow.lt h.own xb e.symm).1; omega)).trans h.kx, ho⟩
theorem OA.store {W0 : World} {rb xb : Nat} {vb : Value} {hd : Pkt} {s : Nat × Nat} {xs : List Itm} {u v : Value} {W : World} (h : OA W0 rb xb vb hd s xs u v W) (hwx : W0.heap.size ≤ xb) : OI W0 rb xb vb hd s xs v (W.setCell ⟨xb, 7, none⟩ v) :=
  ⟨h.rd.set hwx 7 v, set_block W xb 7 _ _ v h.kx, ownsRow_setCell_below (a := ⟨xb, 7, none⟩) h.own (Nat.lt_succ_self _) v⟩
/-- what holds while the loop's round runs: its read (d3), its new row (d4), its append (d5), its store (d7) -/
structure DJ (W0 : World) (rb xb : Nat) (vb : Value) (hd : Pkt) (s s' : Nat × Nat) (xs : List Itm) (x : Itm) (u : Value) (d1 d3 d4 d5 d7 : Bool) (v4 v5 : Value) (W : World) : Prop where
  o43 : d4 = true → d3 = true
  o54 : d5 = true → d4 = true
  o51 : d5 = true → d1 = true
  o75 : d7 = true → d5 = true
  a0 : d3 = false → OI W0 rb xb vb hd s xs u W
  a3 : d3 = true → d5 = false → OI W0 rb xb vb hd s' xs u W
  a4 : d4 = true → d5 = false → ∃ g, v4 = .slice (some ⟨g, 0, none⟩) 1 1 ∧ W.heap[g]? = some (.cells x.cells.toArray 38 (0, 0))
  a5 : d5 = true → d7 = false → OA W0 rb xb vb hd s' (xs ++ [x]) u v5 W
  a7 : d7 = true → OI W0 rb xb vb hd s' (xs ++ [x]) v5 W
theorem DJ.start {W0 : World} {rb xb : Nat} {vb : Value} {hd : Pkt} {s : Nat × Nat} {xs : List Itm} {u : Value} {W : World} (s' : Nat × Nat) (x : Itm) (v4 v5 : Value) (h : OI W0 rb xb vb hd s xs u W) : DJ W0 rb xb vb hd s s' xs x u false false false false false v4 v5 W.drew :=
  ⟨(fun e => by cases e), (fun e => by cases e), (fun e => by cases e), (fun e => by cases e), fun _ => h.drew, (fun e => by cases e), (fun e => by cases e), (fun e => by cases e), (fun e => by cases e)⟩
theorem DJ.load {W0 : World} {rb xb : Nat} {vb : Value} {hd : Pkt} {s s' : Nat × Nat} {xs : List Itm} {x : Itm} {u : Value} {d1 d3 d4 d5 d7 : Bool} {v4 v5 : Value} {W : World} (h : DJ W0 rb xb vb hd s s' xs x u d1 d3 d4 d5 d7 v4 v5 W) (h1 : d1 = false) : W.heap[xb]? = some (.cells (hd.cells u).toArray 24 (0, 0)) := by
  have h5 : d5 = false := by cases e : d5 with | false => rfl | true => have := h.o51 e; rw [h1] at this; cases this
  cases e : d3 with
  | false => exact (h.a0 e).kx
  | true => exact (h.a3 e h5).kx
theorem DJ.loaded {W0 : World} {rb xb : Nat} {vb : Value} {hd : Pkt} {s s' : Nat × Nat} {xs : List Itm} {x : Itm} {u : Value} {d1 d3 d4 d5 d7 : Bool} {v4 v5 : Value} {W : World} (h : DJ W0 rb xb vb hd s s' xs x u d1 d3 d4 d5 d7 v4 v5 W) : DJ W0 rb xb vb hd s s' xs x u true d3 d4 d5 d7 v4 v5 W :=
  ⟨h.o43, h.o54, fun _ => rfl, h.o75, h.a0, h.a3, h.a4, h.a5, h.a7⟩
theorem DJ.at3 {W0 : World} {rb xb : Nat} {vb : Value} {hd : Pkt} {s s' : Nat × Nat} {xs : List Itm} {x : Itm} {u : Value} {d1 d4 d5 d7 : Bool} {v4 v5 : Value} {W : World} (h : DJ W0 rb xb vb hd s s' xs x u d1 false d4 d5 d7 v4 v5 W) : d4 = false ∧ d5 = false ∧ d7 = false := by
  have h4 : d4 = false := by cases e : d4 with | false => rfl | true => have := h.o43 e; cases this
  have h5 : d5 = false := by cases e : d5 with | false => rfl | true => have := h.o54 e; rw [h4] at this; cases this
  exact ⟨h4, h5, by cases e : d7 with | false => rfl | true => have := h.o75 e; rw [h5] at this; cases this⟩
theorem DJ.read {W0 : World} {rb xb : Nat} {vb : Value} {hd : Pkt} {s s' : Nat × Nat} {xs : List Itm} {x : Itm} {u : Value} {d1 d4 d5 d7 : Bool} {v4 v5 : Value} {W : World} (h : DJ W0 rb xb vb hd s s' xs x u d1 false d4 d5 d7 v4 v5 W) (hne : rb < xb) {v : Value} {e : Ending} {W' : World} (hp : RdPost rb vb W s' v e W') : DJ W0 rb xb vb hd s s' xs x u d1 true d4 d5 d7 v4 v5 W' := by
  obtain ⟨rfl, rfl, rfl⟩ := h.at3
  exact ⟨fun _ => rfl, (fun e => by cases e), (fun e => by cases e), (fun e => by cases e), (fun e => by cases e), fun _ _ => (h.a0 rfl).reads hne hp, (fun e => by cases e), (fun e => by cases e), (fun e => by cases e)⟩
theorem DJ.at4 {W0 : World} {rb xb : Nat} {vb : Value} {hd : Pkt} {s s' : Nat × Nat} {xs : List Itm} {x : Itm} {u : Value} {d1 d3 d5 d7 : Bool} {v4 v5 : Value} {W : World} (h : DJ W0 rb xb vb hd s s' xs x u d1 d3 false d5 d7 v4 v5 W) : d5 = false ∧ d7 = false := by
  have h5 : d5 = false := by cases e : d5 with | false => rfl | true => have := h.o54 e; cases this
  exact ⟨h5, by cases e : d7 with | false => rfl | true => have := h.o75 e; rw [h5] at this; cases this⟩
theorem DJ.builds {W0 : World} {rb xb : Nat} {vb : Value} {hd : Pkt} {s s' : Nat × Nat} {xs : List Itm} {x : Itm} {u : Value} {d1 d3 d5 d7 : Bool} {v4 v4' v5 : Value} {W : World} (h : DJ W0 rb xb vb hd s s' xs x u d1 d3 false d5 d7 v4 v5 W) (h3 : d3 = true) (hv : v4' = .slice (some ⟨W.heap.size, 0, none⟩) 1 1) : DJ W0 rb xb vb hd s s' xs x u d1 d3 true d5 d7 v4' v5 (W.alloc (.cells x.cells.toArray 38)) := by
  obtain ⟨rfl, rfl⟩ := h.at4
  exact ⟨fun _ => h3, (fun e => by cases e), (fun e => by cases e), (fun e => by cases e), (fun e => by rw [h3] at e; cases e), fun _ _ => (h.a3 h3 rfl).below _, fun _ _ => ⟨_, hv, (new_block W _).2⟩, (fun e => by cases e), (fun e => by cases e)⟩
theorem DJ.appends {W0 : World} {rb xb : Nat} {vb : Value} {hd : Pkt} {s s' : Nat × Nat} {xs : List Itm} {x : Itm} {u : Value} {d1 d3 d4 d7 : Bool} {v4 v5 v5' : Value} {W : World} (h : DJ W0 rb xb vb hd s s' xs x u d1 d3 d4 false d7 v4 v5 W) (h1 : d1 = true) (h4 : d4 = true) (hwx : W0.heap.size ≤ xb) {W' : World} (hg : W.grownBy W' u.ownBlock) (ho : OwnX W' (xb + 1) v5' (xs ++ [x])) : DJ W0 rb xb vb hd s s' xs x u d1 d3 d4 true d7 v4 v5' W' := by
  have h7 : d7 = false := by cases e : d7 with | false => rfl | true => have := h.o75 e; cases this
  subst h7
  exact ⟨h.o43, fun _ => h4, fun _ => h1, fun _ => rfl, (fun e => by rw [h.o43 h4] at e; cases e), (fun _ e => by cases e), (fun _ e => by cases e), fun _ _ => (h.a3 (h.o43 h4) rfl).appends hwx hg ho, (fun e => by cases e)⟩
theorem DJ.stores {W0 : World} {rb xb : Nat} {vb : Value} {hd : Pkt} {s s' : Nat × Nat} {xs : List Itm} {x : Itm} {u : Value} {d1 d3 d4 d5 : Bool} {v4 v5 : Value} {W : World} (h : DJ W0 rb xb vb hd s s' xs x u d1 d3 d4 d5 false v4 v5 W) (h5 : d5 = true) (hwx : W0.heap.size ≤ xb) : DJ W0 rb xb vb hd s s' xs x u d1 d3 d4 d5 true v4 v5 (W.setCell ⟨xb, 7, none⟩ v5) :=
  ⟨h.o43, h.o54, h.o51, fun _ => h5, (fun e => by rw [h.o43 (h.o54 h5)] at e; cases e), (fun _ e => by rw [h5] at e; cases e), (fun _ e => by rw [h5] at e; cases e), (fun _ e => by cases e), fun _ => (h.a5 h5 rfl).store hwx⟩
/-- an item read to its end: where it stands, and its name -/
theorem rdItem_ok (l : List UInt8) (a : Nat) (ha : a ≤ l.length) (h : (rdItem l (a, 0)).2.2 = 0) : a + 19 ≤ (rdItem l (a, 0)).2.1 ∧ (rdItem l (a, 0)).2.1 ≤ l.length ∧ (rdItem l (a, 0)).1.name.length ≤ l.length := by
  have hr := (rdF_readF l a itemK [] 0).1
  rw [Nat.add_zero] at hr
  rw [rdItem_F] at h ⊢
  dsimp only at h ⊢
  obtain ⟨h3, h4⟩ := hr h
  have hs := readF_says (l := l.drop a) (ks := itemK) (by rw [h3])
  rw [h3] at hs
  dsimp only at hs
  obtain ⟨y1, y2, y3, y4⟩ := hs
  have y19 : 19 ≤ (rdF l itemK (a, 0)).2.1 - a := y3
  rw [List.length_drop] at y2 y4
  refine ⟨by omega, by omega, ?_⟩
  have h0 : (rdF l itemK (a, 0)).1.getD 0 nilF ∈ (rdF l itemK (a, 0)).1 := by
    rw [List.nil_append] at y1
    rw [List.getD_eq_getElem?_getD, List.getElem?_eq_getElem (by rw [y1]; decide)]
    exact List.getElem_mem _
  have := (y4 _ (by rw [List.nil_append]; exact h0)).1
  show ((rdF l itemK (a, 0)).1.getD 0 nilF).text.length ≤ l.length
  omega
theorem rdHead (l : List UInt8) {T1 T2 T3 T4 T5 T6 T7 T8 : Fld × Nat × Nat} (h1 : T1 = rdS l 1 (0, 0)) (h2 : T2 = rdS l 1 T1.2) (h3 : T3 = rdS l 1 T2.2) (h4 : T4 = rdS l 1 T3.2) (h5 : T5 = rdS l 1 T4.2) (h6 : T6 = rdS l 1 T5.2) (h7 : T7 = rdS l 1 T6.2) (h8 : T8 = rdS l 1 T7.2) : rdF l headK (0, 0) = ([T1.1, T2.1, T3.1, T4.1, T5.1, T6.1, T7.1, T8.1], T8.2) := by
  have hc : ∀ (k : Int) (r : List Int) (s : Nat × Nat), rdF l (k :: r) s = ((rdS l k s).1 :: (rdF l r (rdS l k s).2).1, (rdF l r (rdS l k s).2).2) := fun _ _ _ => rfl
  have hn : ∀ (s : Nat × Nat), rdF l [] s = ([], s) := fun _ => rfl
  unfold headK
  rw [hc, ← h1, hc, ← h2, hc, ← h3, hc, ← h4, hc, ← h5, hc, ← h6, hc, ← h7, hc, ← h8, hn]
/-- the head that the document has read, its end within the body -/
theorem rdHead_ok (l : List UInt8) (h : (rdF l headK (0, 0)).2.2 = 0) : (rdF l headK (0, 0)).2.1 ≤ l.length := by
  have hr := (rdF_readF l 0 headK [] 0).1
  rw [Nat.add_zero, List.drop_zero] at hr
  obtain ⟨h3, h4⟩ := hr h
  have hs := readF_says (l := l) (ks := headK) (by rw [h3])
  rw [h3] at hs
  dsimp only at hs
  omega

end Go.Proofs.YtgnpjenpehfjbaaDoor

namespace Go.Proofs.YtgnpjenpehfjbaaDoor
open Go.RowKit

set_option maxRecDepth 100000 in
theorem results_ropen {rb : Nat} {c : Value} {cs : Array Value} {W : World} {tmps : Array Value} (h2 : tmps.getD 2 undef = .pointer (some ⟨rb, 0, none⟩)) (h3 : tmps.getD 3 undef = c) (hs : cs.size = 8 := by rfl) (h : W.heap[rb]? = some (.cells cs 24 (0, 0))) : (results Tryd.f46 tmps).run Tryd.prog W = .ok (.tuple #[.agg cs, c]) W := by
  rw [results_cell_tmp (p := 2) (u := 3) (ty := 24) Tryd.results46, h2, h3]
  have hl := run_loadVar_row (P := Tryd.prog) W rb 24 24 cs (0, 0) (.struct (Tryd.prog.fieldsOf 24)) h (by kernel_rfl) rfl (by rw [hs]; kernel_rfl)
  show ((loadVar 24 ⟨rb, 0, none⟩).run Tryd.prog W).andThen _ = _
  rw [hl]
  rfl
theorem OI.low {W0 w : World} {rb xb : Nat} {vb : Value} {hd : Pkt} {s : Nat × Nat} {xs : List Itm} {u : Value} {W : World} (h : OI W0 rb xb vb hd s xs u W) (hb : Below w.heap.size w W0) (hle : w.heap.size ≤ rb) : Below w.heap.size w W := by
  obtain ⟨a, h1, -⟩ := h.rd
  exact hb.trans (h1.below.mono hle)

set_option maxRecDepth 100000 in
set_option maxHeartbeats 4000000 in
theorem rdoc_open (v : Value) (l : List UInt8) (w : World) (hb : Bts w w.heap.size v l) (hl : l.length ≤ 100000000) :
    Calls Tryd.prog 46 #[v] w fun e w' => ∃ (p : Pkt) (u : Value), e = .returned (.tuple #[.agg (p.cells u).toArray, .int .i64 ((openP l).2 : Nat)]) ∧ OwnX w' w.heap.size u p.items ∧ p = (openP l).1 ∧ Below w.heap.size w w' := by
  obtain ⟨OP, hOP⟩ : ∃ R, R = openP l := ⟨_, rfl⟩
  rw [← hOP]
  obtain ⟨op, oc⟩ := OP
  dsimp only
  have HOP : Hid ((op, oc) = refOpenP l) := by show _ = _; rw [refOpen_same]; exact hOP
  clear hOP
  obtain ⟨T1, hT1⟩ : ∃ T, T = rdS l 1 (0, 0) := ⟨_, rfl⟩
  obtain ⟨T2, hT2⟩ : ∃ T, T = rdS l 1 T1.2 := ⟨_, rfl⟩
  obtain ⟨T3, hT3⟩ : ∃ T, T = rdS l 1 T2.2 := ⟨_, rfl⟩
  obtain ⟨T4, hT4⟩ : ∃ T, T = rdS l 1 T3.2 := ⟨_, rfl⟩
  obtain ⟨T5, hT5⟩ : ∃ T, T = rdS l 1 T4.2 := ⟨_, rfl⟩
  obtain ⟨T6, hT6⟩ : ∃ T, T = rdS l 1 T5.2 := ⟨_, rfl⟩
  obtain ⟨T7, hT7⟩ : ∃ T, T = rdS l 1 T6.2 := ⟨_, rfl⟩
  obtain ⟨T8, hT8⟩ : ∃ T, T = rdS l 1 T7.2 := ⟨_, rfl⟩
  have HT1 := Lib.hid hT1
  have HT2 := Lib.hid hT2
  have HT3 := Lib.hid hT3
  have HT4 := Lib.hid hT4
  have HT5 := Lib.hid hT5
  have HT6 := Lib.hid hT6
  have HT7 := Lib.hid hT7
  have HT8 := Lib.hid hT8
  obtain ⟨ao, cap, hv, -⟩ := id hb
  obtain ⟨nb, hnb⟩ : ∃ n, n = l.length := ⟨_, rfl⟩
  rw [← hnb] at hv
  subst hv
  have HB := Lib.hid hb
  have HNB := Lib.hid hnb
  have HL := Lib.hid hl
  obtain ⟨W0, hW0⟩ : ∃ W, W = (w.alloc (.cells #[.int .i64 0, .int .i64 0, .int .i64 0, .int .i64 0, .int .i64 0, .int .i64 0, .int .i64 0, .slice none 0 0] 24)).alloc (.cells #[.slice ao nb cap, .int .i64 0, .int .i64 0] 126) := ⟨_, rfl⟩
  obtain ⟨B1, K1⟩ := new_block w (.cells #[.int .i64 0, .int .i64 0, .int .i64 0, .int .i64 0, .int .i64 0, .int .i64 0, .int .i64 0, .slice none 0 0] 24)
  obtain ⟨B2, K2⟩ := new_block (w.alloc (.cells #[.int .i64 0, .int .i64 0, .int .i64 0, .int .i64 0, .int .i64 0, .int .i64 0, .int .i64 0, .slice none 0 0] 24)) (.cells #[.slice ao nb cap, .int .i64 0, .int .i64 0] 126)
  rw [← hW0] at B2 K2
  obtain ⟨rx, hrx⟩ : ∃ b, b = w.heap.size := ⟨_, rfl⟩
  obtain ⟨rb, hrb⟩ : ∃ b, b = w.heap.size + 1 := ⟨_, rfl⟩
  have hsz1 : (w.alloc (.cells #[.int .i64 0, .int .i64 0, .int .i64 0, .int .i64 0, .int .i64 0, .int .i64 0, .int .i64 0, .slice none 0 0] 24)).heap.size = rb := by rw [hrb]; simp
  have hrr : rx ≠ rb := by omega
  have KY0' := stays K1 B2
  rw [← hrx] at KY0'
  rw [hsz1] at K2
  have KY0 := Lib.hid KY0'
  have KYZ := Lib.hid KY0'
  have B0 : Below w.heap.size w W0 := B1.trans (B2.mono (by rw [hsz1]; omega))
  have HB0 := Lib.hid B0
  have HBB : Hid (Bts W0 rb (.slice ao nb cap) l) := Lib.hid (hb.below B0 (by omega))
  have hst : RSt rb (.slice ao nb cap) (0, 0) W0 := ⟨0, K2, fun _ => rfl⟩
  have JX0 := Lib.hid hst.at
  have D1 := Lib.hid (rd_small rb (.slice ao nb cap) l (0, 0) W0 hst HBB.out)
  rw [← HT1.out] at D1
  have HW0 := Lib.hid hW0
  have HRX := Lib.hid hrx
  have HRB := Lib.hid hrb
  have hwrb : w.heap.size ≤ rb := by omega
  have hwrx : w.heap.size ≤ rx := by omega
  clear hW0 B1 K1 B2 K2 KY0' B0 hst hsz1 hrx hrb
  clear hT1 hT2 hT3 hT4 hT5 hT6 hT7 hT8 hb hl hnb
  go_enter Tryd.func46, Tryd.ntmps46
  go_wp2_with (fail)
  rw [← HW0.out, ← HRB.out, ← HRX.out]
  with_reducible refine D1.out.mono ?_
  rintro e w1 hp1
  have hx1 := hp1.1
  subst hx1
  have JX1' := JX0.out.next hp1
  obtain ⟨xb, hxb⟩ : ∃ b, b = w1.heap.size := ⟨_, rfl⟩
  obtain ⟨X1, hX1⟩ : ∃ X, X = w1.alloc (.cells #[.int .i64 (smallR T1.1.num), .int .i64 0, .int .i64 0, .int .i64 0, .int .i64 0, .int .i64 0, .int .i64 0, .slice none 0 0] 24) := ⟨_, rfl⟩
  have JX1 := Lib.hid (JX1'.alloc (.cells #[.int .i64 (smallR T1.1.num), .int .i64 0, .int .i64 0, .int .i64 0, .int .i64 0, .int .i64 0, .int .i64 0, .slice none 0 0] 24))
  obtain ⟨B2, K2⟩ := new_block w1 (.cells #[.int .i64 (smallR T1.1.num), .int .i64 0, .int .i64 0, .int .i64 0, .int .i64 0, .int .i64 0, .int .i64 0, .slice none 0 0] 24)
  have ky1 := hp1.at.kept KY0.out hrr
  have hwx : W0.heap.size ≤ xb := by rw [hxb]; exact JX1'.size
  have hxr : rx < xb := by rw [hxb]; exact (Array.getElem?_eq_some_iff.1 ky1).1
  have hrbx : rb < xb := by
    obtain ⟨a, h1, -⟩ := JX1'
    have := h1.lt
    omega
  have KY1 := Lib.hid (stays ky1 B2)
  rw [← hX1, ← hxb] at K2
  rw [← hX1] at JX1 KY1
  have KX1 := Lib.hid K2
  have D2 := Lib.hid (rd_small rb (.slice ao nb cap) l T1.2 X1 JX1.out.st (JX1.out.bts HBB.out))
  rw [← HT2.out] at D2
  have HX1 := Lib.hid hX1
  have HXB := Lib.hid hxb
  clear hp1 D1 JX0 JX1' B2 K2 ky1 KY0 hX1 hxb
  go_wp2_with (fail)
  rw [← HX1.out]
  with_reducible refine D2.out.mono ?_
  rintro e w2 hp2
  have hx2 := hp2.1
  subst hx2
  simp only [← HXB.out]
  have JX2 := Lib.hid ((JX1.out.next hp2).set (g := xb) hwx 1 (.int .i64 (smallR T2.1.num)))
  have KX2' := hp2.at.kept KX1.out (by omega)
  have KX2 : Hid ((w2.setCell ⟨xb, 1, none⟩ (.int .i64 (smallR T2.1.num))).heap[xb]? = some (.cells #[.int .i64 (smallR T1.1.num), .int .i64 (smallR T2.1.num), .int .i64 0, .int .i64 0, .int .i64 0, .int .i64 0, .int .i64 0, .slice none 0 0] 24 (0, 0))) := Lib.hid (set_block w2 xb 1 _ _ (.int .i64 (smallR T2.1.num)) KX2')
  have KY2 := Lib.hid ((set_other w2 xb 1 rx (.int .i64 (smallR T2.1.num)) (by omega)).trans (hp2.at.kept KY1.out (by omega)))
  have f2 : w2.cell? ⟨xb, 1, none⟩ = some (.int .i64 0) := cell_of_row _ _ 1 _ _ _ KX2'
  have z2 : w2.frozen? ⟨xb, 1, none⟩ = false := frozen_of_row _ _ 1 _ _ KX2'
  have D3 := Lib.hid (rd_small rb (.slice ao nb cap) l T2.2 _ JX2.out.st (JX2.out.bts HBB.out))
  rw [← HT3.out] at D3
  clear hp2 D2 JX1 KX1 KY1 KX2'
  go_wp2_with (fail)
  with_reducible refine D3.out.mono ?_
  rintro e w3 hp3
  have hx3 := hp3.1
  subst hx3
  have JX3 := Lib.hid ((JX2.out.next hp3).set (g := xb) hwx 2 (.int .i64 (smallR T3.1.num)))
  have KX3' := hp3.at.kept KX2.out (by omega)
  have KX3 : Hid ((w3.setCell ⟨xb, 2, none⟩ (.int .i64 (smallR T3.1.num))).heap[xb]? = some (.cells #[.int .i64 (smallR T1.1.num), .int .i64 (smallR T2.1.num), .int .i64 (smallR T3.1.num), .int .i64 0, .int .i64 0, .int .i64 0, .int .i64 0, .slice none 0 0] 24 (0, 0))) := Lib.hid (set_block w3 xb 2 _ _ (.int .i64 (smallR T3.1.num)) KX3')
  have KY3 := Lib.hid ((set_other w3 xb 2 rx (.int .i64 (smallR T3.1.num)) (by omega)).trans (hp3.at.kept KY2.out (by omega)))
  have f3 : w3.cell? ⟨xb, 2, none⟩ = some (.int .i64 0) := cell_of_row _ _ 2 _ _ _ KX3'
  have z3 : w3.frozen? ⟨xb, 2, none⟩ = false := frozen_of_row _ _ 2 _ _ KX3'
  have D4 := Lib.hid (rd_Whole rb (.slice ao nb cap) l T3.2 _ JX3.out.st (JX3.out.bts HBB.out))
  rw [← HT4.out] at D4
  clear hp3 D3 JX2 KX2 KY2 KX3' f2 z2
  go_wp2_with (fail)
  with_reducible refine D4.out.mono ?_
  rintro e w4 hp4
  have hx4 := hp4.1
  subst hx4
  have JX4 := Lib.hid ((JX3.out.next hp4).set (g := xb) hwx 3 (.int .i64 T4.1.num))
  have KX4' := hp4.at.kept KX3.out (by omega)
  have KX4 : Hid ((w4.setCell ⟨xb, 3, none⟩ (.int .i64 T4.1.num)).heap[xb]? = some (.cells #[.int .i64 (smallR T1.1.num), .int .i64 (smallR T2.1.num), .int .i64 (smallR T3.1.num), .int .i64 T4.1.num, .int .i64 0, .int .i64 0, .int .i64 0, .slice none 0 0] 24 (0, 0))) := Lib.hid (set_block w4 xb 3 _ _ (.int .i64 T4.1.num) KX4')
  have KY4 := Lib.hid ((set_other w4 xb 3 rx (.int .i64 T4.1.num) (by omega)).trans (hp4.at.kept KY3.out (by omega)))
  have f4 : w4.cell? ⟨xb, 3, none⟩ = some (.int .i64 0) := cell_of_row _ _ 3 _ _ _ KX4'
  have z4 : w4.frozen? ⟨xb, 3, none⟩ = false := frozen_of_row _ _ 3 _ _ KX4'
  have D5 := Lib.hid (rd_Whole rb (.slice ao nb cap) l T4.2 _ JX4.out.st (JX4.out.bts HBB.out))
  rw [← HT5.out] at D5
  clear hp4 D4 JX3 KX3 KY3 KX4' f3 z3
  go_wp2_with (fail)
  with_reducible refine D5.out.mono ?_
  rintro e w5 hp5
  have hx5 := hp5.1
  subst hx5
  have JX5 := Lib.hid ((JX4.out.next hp5).set (g := xb) hwx 4 (.int .i64 T5.1.num))
  have KX5' := hp5.at.kept KX4.out (by omega)
  have KX5 : Hid ((w5.setCell ⟨xb, 4, none⟩ (.int .i64 T5.1.num)).heap[xb]? = some (.cells #[.int .i64 (smallR T1.1.num), .int .i64 (smallR T2.1.num), .int .i64 (smallR T3.1.num), .int .i64 T4.1.num, .int .i64 T5.1.num, .int .i64 0, .int .i64 0, .slice none 0 0] 24 (0, 0))) := Lib.hid (set_block w5 xb 4 _ _ (.int .i64 T5.1.num) KX5')
  have KY5 := Lib.hid ((set_other w5 xb 4 rx (.int .i64 T5.1.num) (by omega)).trans (hp5.at.kept KY4.out (by omega)))
  have f5 : w5.cell? ⟨xb, 4, none⟩ = some (.int .i64 0) := cell_of_row _ _ 4 _ _ _ KX5'
  have z5 : w5.frozen? ⟨xb, 4, none⟩ = false := frozen_of_row _ _ 4 _ _ KX5'
  have D6 := Lib.hid (rd_Whole rb (.slice ao nb cap) l T5.2 _ JX5.out.st (JX5.out.bts HBB.out))
  rw [← HT6.out] at D6
  clear hp5 D5 JX4 KX4 KY4 KX5' f4 z4
  go_wp2_with (fail)
  with_reducible refine D6.out.mono ?_
  rintro e w6 hp6
  have hx6 := hp6.1
  subst hx6
  have JX6 := Lib.hid ((JX5.out.next hp6).set (g := xb) hwx 5 (.int .i64 T6.1.num))
  have KX6' := hp6.at.kept KX5.out (by omega)
  have KX6 : Hid ((w6.setCell ⟨xb, 5, none⟩ (.int .i64 T6.1.num)).heap[xb]? = some (.cells #[.int .i64 (smallR T1.1.num), .int .i64 (smallR T2.1.num), .int .i64 (smallR T3.1.num), .int .i64 T4.1.num, .int .i64 T5.1.num, .int .i64 T6.1.num, .int .i64 0, .slice none 0 0] 24 (0, 0))) := Lib.hid (set_block w6 xb 5 _ _ (.int .i64 T6.1.num) KX6')
  have KY6 := Lib.hid ((set_other w6 xb 5 rx (.int .i64 T6.1.num) (by omega)).trans (hp6.at.kept KY5.out (by omega)))
  have f6 : w6.cell? ⟨xb, 5, none⟩ = some (.int .i64 0) := cell_of_row _ _ 5 _ _ _ KX6'
  have z6 : w6.frozen? ⟨xb, 5, none⟩ = false := frozen_of_row _ _ 5 _ _ KX6'
  have D7 := Lib.hid (rd_Whole rb (.slice ao nb cap) l T6.2 _ JX6.out.st (JX6.out.bts HBB.out))
  rw [← HT7.out] at D7
  clear hp6 D6 JX5 KX5 KY5 KX6' f5 z5
  go_wp2_with (fail)
  with_reducible refine D7.out.mono ?_
  rintro e w7 hp7
  have hx7 := hp7.1
  subst hx7
  have JX7 := Lib.hid ((JX6.out.next hp7).set (g := xb) hwx 6 (.int .i64 T7.1.num))
  have KX7' := hp7.at.kept KX6.out (by omega)
  have KX7 : Hid ((w7.setCell ⟨xb, 6, none⟩ (.int .i64 T7.1.num)).heap[xb]? = some (.cells #[.int .i64 (smallR T1.1.num), .int .i64 (smallR T2.1.num), .int .i64 (smallR T3.1.num), .int .i64 T4.1.num, .int .i64 T5.1.num, .int .i64 T6.1.num, .int .i64 T7.1.num, .slice none 0 0] 24 (0, 0))) := Lib.hid (set_block w7 xb 6 _ _ (.int .i64 T7.1.num) KX7')
  have KY7 := Lib.hid ((set_other w7 xb 6 rx (.int .i64 T7.1.num) (by omega)).trans (hp7.at.kept KY6.out (by omega)))
  have f7 : w7.cell? ⟨xb, 6, none⟩ = some (.int .i64 0) := cell_of_row _ _ 6 _ _ _ KX7'
  have z7 : w7.frozen? ⟨xb, 6, none⟩ = false := frozen_of_row _ _ 6 _ _ KX7'
  have D8 := Lib.hid (rd_Whole rb (.slice ao nb cap) l T7.2 _ JX7.out.st (JX7.out.bts HBB.out))
  rw [← HT8.out] at D8
  clear hp7 D7 JX6 KX6 KY6 KX7' f6 z6
  go_wp2_with (fail)
  with_reducible refine D8.out.mono ?_
  rintro e w8 hp8
  have hx8 := hp8.1
  subst hx8
  have JX8 := Lib.hid (JX7.out.next hp8)
  have KX8 := Lib.hid (hp8.at.kept KX7.out (by omega))
  have KY8 := Lib.hid (hp8.at.kept KY7.out (by omega))
  clear hp8 D8 JX7 KX7 KY7 f7 z7
  go_wp2_with (fail)
  obtain ⟨gs, hgs⟩ : ∃ gs, gs = [T1.1, T2.1, T3.1, T4.1, T5.1, T6.1, T7.1, T8.1] := ⟨_, rfl⟩
  have hRH := rdHead l HT1.out HT2.out HT3.out HT4.out HT5.out HT6.out HT7.out HT8.out
  have hRO := rdHead_ok l
  rw [hRH] at hRO
  rw [← hgs] at hRH
  have hgn : (gs.getD 7 nilF).num = T8.1.num := by rw [hgs]; rfl
  have HOI : Hid (OI W0 rb xb (.slice ao nb cap) (refHd gs []) T8.2 [] (.slice none 0 0) w8) := Lib.hid ⟨JX8.out, by rw [hgs]; exact KX8.out, World.ownsRow_nil _ _ _ _⟩
  obtain ⟨RI, hri⟩ : ∃ R, R = refItemsR l T8.1.num (l.length + 1) [] T8.2 := ⟨_, rfl⟩
  have HOP2 : Hid ((op, oc) = (if RI.2.2 ≠ 0 ∨ RI.2.1 ≠ l.length then (zeroP, 20) else if fitP (refHd gs RI.1) then (refHd gs RI.1, 0) else (zeroP, 54))) := by
    show _ = _
    rw [HOP.out]
    unfold refOpenP
    rw [hRH]
    dsimp only
    rw [hgn, ← hri]
  have HRI0 := Lib.hid hri
  have HRO := Lib.hid hRO
  obtain ⟨c, hc⟩ : ∃ c, c = T8.1.num := ⟨_, rfl⟩
  obtain ⟨s0, hs0⟩ : ∃ s, s = T8.2 := ⟨_, rfl⟩
  rw [← hc, ← hs0] at HRI0
  rw [← hs0] at HOI HRO
  rw [← hc]
  have hnb : nb ≤ 100000000 := by have := HL.out; have := HNB.out; omega
  clear hgs hRH hRO hgn hri hc hs0 JX8 KX8 KY8 HOP HT1 HT2 HT3 HT4 HT5 HT6 HT7 HT8 HB
  go_loopw [7] (fun kv wr => ∃ (xs : List Itm) (sa sc f m cu : Nat) (au : Option Addr), kv = .int .i64 (m : Int) ∧ Hid (refItemsR l c f xs (sa, sc) = RI ∧ f + m = nb + 1 ∧ m = xs.length ∧ (sc = 0 → m ≤ sa ∧ sa ≤ nb ∧ ∀ x ∈ xs, x.name.length ≤ nb)) ∧ Hid (OI W0 rb xb (.slice ao nb cap) (refHd gs []) (sa, sc) xs (.slice au m cu) wr)) (fun kv _ => nb + 1 - (intOf kv).toNat)
  case atStart => exact ⟨[], s0.1, s0.2, nb + 1, 0, 0, none, rfl, ⟨by rw [HNB.out]; exact HRI0.out.symm, rfl, rfl, fun e => ⟨Nat.zero_le _, by rw [HNB.out]; exact HRO.out e, fun x h => by cases h⟩⟩, HOI⟩
  case round =>
    obtain ⟨xs, sa, sc, f, m, cu, au, rfl, HX, HI⟩ := hrel
    have hmf : m ≤ nb + 1 := by have := HX.out.2.1; omega
    have c2 : wr.cell? ⟨rb, 2, none⟩ = some (.int .i64 (sc : Int)) := by
      obtain ⟨a, h1, -⟩ := HI.out.rd.st
      exact cell_of_row _ _ 2 _ _ _ h1
    by_cases hsc : sc = 0
    · have hc0 : ((sc : Int) == 0) = true := by simp [hsc]
      have hc1 : ((sc : Int) != 0) = false := by simp [hsc]
      have h1 : wr.cell? ⟨rb, 1, none⟩ = some (.int .i64 (sa : Int)) := by
        obtain ⟨a, h1, h2⟩ := HI.out.rd.st
        obtain rfl : a = sa := h2 hsc
        exact cell_of_row _ _ 1 _ _ _ h1
      subst hsc
      by_cases hlt : (m : Int) < c
      · obtain ⟨⟨x, s'⟩, hR⟩ : ∃ R, R = rdItem l (sa, 0) := ⟨_, rfl⟩
        have hsa := HX.out.2.2.2 rfl
        have hms := hsa.1
        have hsn := hsa.2.1
        obtain ⟨f, rfl⟩ : ∃ f', f = f' + 1 := ⟨f - 1, by have := HX.out.2.1; omega⟩
        have HST : Hid (refItemsR l c f (xs ++ [x]) s' = RI) := by
          show _ = _
          rw [← HX.out.1, refItemsR, if_pos ⟨by rw [← HX.out.2.2.1]; exact hlt, rfl⟩, ← hR]
        have HOK : Hid (s'.2 = 0 → sa + 19 ≤ s'.1 ∧ s'.1 ≤ nb ∧ x.name.length ≤ nb) := by
          show _ → _
          intro e
          have h := rdItem_ok l sa (by rw [← HNB.out]; exact hsn) (by rw [← hR]; exact e)
          rw [← hR, ← HNB.out] at h
          exact h
        have HRI : Hid (∀ W, OI W0 rb xb (.slice ao nb cap) (refHd gs []) (sa, 0) xs (.slice au m cu) W → Calls Tryd.prog 72 #[(.pointer (some ⟨rb, 0, none⟩))] W fun e w' => RdPost rb (.slice ao nb cap) W s' (.agg x.cells.toArray) e w') := Lib.hid fun W hW => by
          have h := rd_item rb (.slice ao nb cap) l (sa, 0) W hW.rd.st (hW.rd.bts HBB.out) (fun _ => by rw [← HNB.out]; exact hsn) (by have := HL.out; omega)
          rw [← hR] at h
          exact h
        have HXN := Lib.hid hsa.2.2
        clear hR hsa
        go_wp2_with (fail)
        refine wpIn_wide (n := 5).1 (wpIn_flowM (F0 := Fence.wide) (n0 := 5) (fun _ => trivial) (fun h => by cases h) (by kernel_rfl) (by kernel_rfl) 8 7 (by kernel_rfl) (fun j => ([0, 1, 2, 3, 4, 5, 6] : List Nat).getD j 0) (fun j => ([46, 47, 48, 49, 50, 51, 52] : List Nat).getD j 0) (by kernel_rfl) (by kernel_rfl) (by kernel_rfl) (by kernel_rfl) (by kernel_rfl) (by kernel_rfl) (by kernel_rfl) (fun j zv => ([(fun zv => zv = (.pointer (some ⟨xb, 7, none⟩))), (fun zv => zv = (.slice au m cu)), (fun zv => zv = (.pointer (some ⟨rb, 0, none⟩))), (fun zv => zv = (.agg x.cells.toArray)), (fun zv => ∃ g, zv = .slice (some ⟨g, 0, none⟩) 1 1), (fun zv => ∃ g cap, zv = .slice (some ⟨g, 0, none⟩) (m + 1) cap), (fun zv => zv = (.pointer (some ⟨xb, 7, none⟩)))] : List (Value → Prop)).getD j (fun _ => True) zv) (fun d vs W => DJ W0 rb xb (.slice ao nb cap) (refHd gs []) (sa, 0) s' xs x (.slice au m cu) (d 1) (d 3) (d 4) (d 5) (d 7) (vs 4) (vs 5) W) ?h0q ?stepq ?finq)
        case h0q => exact fun vs => DJ.start _ _ _ _ HI.out
        case stepq =>
          intro i o a W d vs hi ho hdi hJ hf hr hF
          replace hi : i < 8 := hi
          rcases (show i = 0 ∨ i = 1 ∨ i = 2 ∨ i = 3 ∨ i = 4 ∨ i = 5 ∨ i = 6 ∨ i = 7 by omega) with rfl | rfl | rfl | rfl | rfl | rfl | rfl | rfl
          · replace ho := op_at ho (by rfl)
            subst ho
            have f5 : a.tmps.getD 5 undef = (.pointer (some ⟨xb, 0, none⟩)) := hf 5 (by kernel_rfl)
            exact .inl ⟨(fun k b h => by cases h), .inl ⟨0, by decide, rfl, (.pointer (some ⟨xb, 7, none⟩)), W, (by simp [go_sem, Act.eval, f5]), rfl, hJ⟩⟩
          · replace ho := op_at ho (by rfl)
            subst ho
            have d0 : a.tmps.getD 46 undef = (.pointer (some ⟨xb, 7, none⟩)) := by have h1 := hF 0 (by decide) (hr 0 (by kernel_rfl)); exact h1.2.trans h1.1
            have c7 : W.cell? ⟨xb, 7, none⟩ = some (.slice au m cu) := cell_of_row _ _ 7 _ _ _ (hJ.load hdi)
            exact .inl ⟨(fun k b h => by cases h), .inl ⟨1, by decide, rfl, (.slice au m cu), W, (by simp [go_sem, Act.eval, d0, c7]), rfl, hJ.loaded⟩⟩
          · replace ho := op_at ho (by rfl)
            subst ho
            have f4 : a.tmps.getD 4 undef = (.pointer (some ⟨rb, 0, none⟩)) := hf 4 (by kernel_rfl)
            exact .inl ⟨(fun k b h => by cases h), .inl ⟨2, by decide, rfl, (.pointer (some ⟨rb, 0, none⟩)), W, (by simp [go_sem, Act.eval, f4]), rfl, hJ⟩⟩
          · replace ho := op_at ho (by rfl)
            subst ho
            have d2 : a.tmps.getD 48 undef = (.pointer (some ⟨rb, 0, none⟩)) := by have h1 := hF 2 (by decide) (hr 2 (by kernel_rfl)); exact h1.2.trans h1.1
            refine .inl ⟨(fun k b h => by cases h), .inr (.inr ⟨3, by decide, rfl, 72, #[(.pointer (some ⟨rb, 0, none⟩))], W, (by simp [go_sem, Act.eval, d2]), ?_⟩)⟩
            rw [hdi] at hJ
            refine (callsIn_wide.2 (HRI.out W (hJ.a0 rfl))).mono ?_
            rintro e W' hp
            have he := hp.1
            subst he
            exact ⟨_, rfl, rfl, hJ.read hrbx hp⟩
          · replace ho := op_at ho (by rfl)
            subst ho
            have d3 : a.tmps.getD 49 undef = (.agg x.cells.toArray) := by have h1 := hF 3 (by decide) (hr 3 (by kernel_rfl)); exact h1.2.trans h1.1
            have t3 : d 3 = true := hr 3 (by kernel_rfl)
            rw [hdi] at hJ
            exact .inl ⟨(fun k b h => by cases h), .inl ⟨4, by decide, rfl, .slice (some ⟨W.heap.size, 0, none⟩) 1 1, W.alloc (.cells x.cells.toArray 38), (exec_buildSlice _ _ _ rfl #[(0, .agg x.cells.toArray)] (by simp only [List.map_toArray, List.map_cons, List.map_nil, Act.eval, d3]) _ _ (build_itm x W)), ⟨_, rfl⟩, hJ.builds t3 rfl⟩⟩
          · replace ho := op_at ho (by rfl)
            subst ho
            have d1 : a.tmps.getD 47 undef = (.slice au m cu) := by have h1 := hF 1 (by decide) (hr 1 (by kernel_rfl)); exact h1.2.trans h1.1
            obtain ⟨g4, e4⟩ := hF 4 (by decide) (hr 4 (by kernel_rfl))
            replace e4 : a.tmps.getD 50 undef = vs 4 := e4
            replace g4 : (fun zv => ∃ g, zv = .slice (some ⟨g, 0, none⟩) 1 1) (vs 4) := g4
            have t4 : d 4 = true := hr 4 (by kernel_rfl)
            have t1 : d 1 = true := hr 1 (by kernel_rfl)
            rw [hdi] at hJ
            obtain ⟨g, hg, hgr⟩ := hJ.a4 t4 rfl
            rw [hg] at e4
            have hO := hJ.a3 (hJ.o43 t4) rfl
            obtain ⟨i0, ji, jz0, jz1, jz2⟩ := info_parts info_item
            obtain ⟨gz, capz, W8, hrunz, nz, gz8, -⟩ := op_append_row 22 38 i0 _ 19 160 Tryd.underlying22 ji jz0 jz1 jz2 rfl (by decide) W (xb + 1) (.slice au m cu) xs.length _ g 1 x.cells hO.own hgr rfl (itm_cells x) (by decide) (by have := HX.out.2.2.1; omega) (by have := HX.out.2.2.1; omega) (by have := (Array.getElem?_eq_some_iff.1 hO.kx).1; omega)
            rw [← HX.out.2.2.1] at hrunz nz
            have nz' : OwnX W8 (xb + 1) (.slice (some ⟨gz, 0, none⟩) (m + 1) capz) (xs ++ [x]) := by
              show World.ownsRow _ _ _ _ _ _ _
              rw [List.length_append, List.flatMap_append, ← HX.out.2.2.1]
              simp only [List.flatMap_cons, List.flatMap_nil, List.append_nil]
              exact nz
            exact .inl ⟨(fun k b h => by cases h), .inl ⟨5, by decide, rfl, .slice (some ⟨gz, 0, none⟩) (m + 1) capz, W8, hrunz a _ 47 50 d1 e4 rfl rfl, ⟨_, _, rfl⟩, hJ.appends t1 t4 hwx gz8 nz'⟩⟩
          · replace ho := op_at ho (by rfl)
            subst ho
            have f5 : a.tmps.getD 5 undef = (.pointer (some ⟨xb, 0, none⟩)) := hf 5 (by kernel_rfl)
            exact .inl ⟨(fun k b h => by cases h), .inl ⟨6, by decide, rfl, (.pointer (some ⟨xb, 7, none⟩)), W, (by simp [go_sem, Act.eval, f5]), rfl, hJ⟩⟩
          · replace ho := op_at ho (by rfl)
            subst ho
            obtain ⟨g5, e5⟩ := hF 5 (by decide) (hr 5 (by kernel_rfl))
            replace e5 : a.tmps.getD 51 undef = vs 5 := e5
            replace g5 : (fun zv => ∃ g cap, zv = .slice (some ⟨g, 0, none⟩) (m + 1) cap) (vs 5) := g5
            have d6 : a.tmps.getD 52 undef = (.pointer (some ⟨xb, 7, none⟩)) := by have h1 := hF 6 (by decide) (hr 6 (by kernel_rfl)); exact h1.2.trans h1.1
            have t5 : d 5 = true := hr 5 (by kernel_rfl)
            rw [hdi] at hJ
            obtain ⟨gz, capz, hz⟩ := g5
            have hA := hJ.a5 t5 rfl
            have c7 : W.cell? ⟨xb, 7, none⟩ = some (.slice au m cu) := cell_of_row _ _ 7 _ _ _ hA.kx
            have z7 : W.frozen? ⟨xb, 7, none⟩ = false := frozen_of_row _ _ 7 _ _ hA.kx
            exact .inl ⟨(fun k b h => by cases h), .inr (.inl ⟨rfl, W.setCell ⟨xb, 7, none⟩ (vs 5), (exec_store 22 _ _ rfl (.pointer (some ⟨xb, 7, none⟩)) (vs 5) (by simp [Act.eval, d6]) (by simp [Act.eval, e5]) (by rw [hz]; simp [go_sem, c7, z7])), hJ.stores t5 hwx⟩)⟩
        case finq =>
          intro d vs Wq hall hJ hF
          have h0 : vs 0 = (.pointer (some ⟨xb, 7, none⟩)) := hF 0 (by decide)
          have h1 : vs 1 = (.slice au m cu) := hF 1 (by decide)
          have h2 : vs 2 = (.pointer (some ⟨rb, 0, none⟩)) := hF 2 (by decide)
          have h3 : vs 3 = (.agg x.cells.toArray) := hF 3 (by decide)
          have h4 : (fun zv => ∃ g, zv = .slice (some ⟨g, 0, none⟩) 1 1) (vs 4) := hF 4 (by decide)
          have h5 : (fun zv => ∃ g cap, zv = .slice (some ⟨g, 0, none⟩) (m + 1) cap) (vs 5) := hF 5 (by decide)
          have h6 : vs 6 = (.pointer (some ⟨xb, 7, none⟩)) := hF 6 (by decide)
          clear hF
          have hOI := hJ.a7 (hall 7 (by decide))
          obtain ⟨gz, capz, hz⟩ := h5
          rw [hz] at hOI
          have HOI2 := Lib.hid hOI
          clear hJ hall hOI h4 hz
          show (_ : Exit → Act → World → Prop) Exit.normal (puts _ vs 7 _) Wq
          simp only [puts, h0, h1, h2, h3, h6, List.getD_cons_zero, List.getD_cons_succ]
          clear h0 h1 h2 h3 h6
          go_simp
          go_wp2_with (fail)
          go_roundw
          case rel => exact ⟨xs ++ [x], s'.1, s'.2, f, m + 1, capz, some ⟨gz, 0, none⟩, by go_num, (by
            have h1 := HX.out
            refine ⟨HST.out, by omega, by simp [h1.2.2.1], fun e => ?_⟩
            have h2 := HOK.out e
            refine ⟨by omega, h2.2.1, fun y hy => ?_⟩
            rcases List.mem_append.1 hy with hy | hy
            · exact HXN.out y hy
            · rw [List.mem_singleton] at hy
              subst hy
              exact h2.2.2), HOI2⟩
          case measure => simp [intOf] <;> omega
      · have hO := HOP2.out
        rw [← HX.out.1] at hO
        have hIT : refItemsR l c f xs (sa, 0) = (xs, (sa, 0)) := by
          cases f with
          | zero => rfl
          | succ f => rw [refItemsR, if_neg (fun h => hlt (by rw [HX.out.2.2.1]; exact h.1))]
        rw [hIT] at hO
        dsimp only at hO
        have HLX := Lib.hid (OI.low HI.out HB0.out hwrb)
        have HKR := Lib.hid (HI.out.rd.kept KYZ.out hrr)
        by_cases hae : sa = nb
        · rw [if_neg (by rw [← HNB.out, hae]; simp)] at hO
          have hims := OwnX.ims HI.out.own
          have hfit := rfit_any (refHd gs xs) (.slice au m cu) wr hims.1 (fun x hx => by have := (HX.out.2.2.2 rfl).2.2 x hx; omega)
          rw [show (refHd gs xs).cells (.slice au m cu) = (refHd gs []).cells (.slice au m cu) from rfl] at hfit
          have HFIT := Lib.hid hfit
          obtain ⟨bf, hbf⟩ : ∃ b, b = fitP (refHd gs xs) := ⟨_, rfl⟩
          rw [← hbf] at hO HFIT
          have HO2 := Lib.hid hO
          have hae1 : ((sa : Int) != (nb : Int)) = false := by rw [hae]; simp
          clear hO hIT hfit hims hbf hae
          go_upto_region 16 with (fail)
          refine wp_region_lit ?_
          refine wpList_run (w' := wr) rfl (exec_load_row 24 _ rfl xb _ _ (.struct (Tryd.prog.fieldsOf 24)) rfl HI.out.kx (by kernel_rfl) rfl (by kernel_rfl)) ?_
          go_wp2_with (fail)
          with_reducible refine HFIT.out.mono ?_
          rintro e W3 ⟨rfl, hB⟩
          have HLX3 := Lib.hid (HLX.out.trans (hB.mono HLX.out.size))
          have HKR3 := Lib.hid (stays HKR.out hB)
          have HKX3 := Lib.hid (stays HI.out.kx hB)
          have HOX3 := Lib.hid (HI.out.own.below hB)
          clear HFIT hB HLX HKR
          have HLX := HLX3
          have HKR := HKR3
          cases bf with
          | false =>
            have HE : Hid (op = zeroP ∧ oc = 54) := ⟨congrArg Prod.fst HO2.out, congrArg Prod.snd HO2.out⟩
            go_upto_region 17 with (fail)
            refine wp_region_lit ?_
            refine wpList_run (v := .agg #[.int .i64 0, .int .i64 0, .int .i64 0, .int .i64 0, .int .i64 0, .int .i64 0, .int .i64 0, .slice none 0 0]) (w' := W3) rfl (by kernel_rfl) ?_
            refine wpList_skip (w' := W3.setCells rx 0 [.int .i64 0, .int .i64 0, .int .i64 0, .int .i64 0, .int .i64 0, .int .i64 0, .int .i64 0, .slice none 0 0]) rfl rfl (exec_store 24 _ _ rfl _ _ rfl rfl (run_store_row _ rx 0 _ _ 24 #[.int .i64 0, .int .i64 0, .int .i64 0, .int .i64 0, .int .i64 0, .int .i64 0, .int .i64 0, .slice none 0 0] HKR.out (by simp) (by kernel_rfl) (by simp [Value.oneCell']))) ?_
            refine wpList_run (v := .int .i64 54) (w' := W3.setCells rx 0 [.int .i64 0, .int .i64 0, .int .i64 0, .int .i64 0, .int .i64 0, .int .i64 0, .int .i64 0, .slice none 0 0]) rfl (by kernel_rfl) ?_
            refine wpList_nil ?_
            go_simp
            go_wp2
            have hst := setCells_block 24 rx [.int .i64 0, .int .i64 0, .int .i64 0, .int .i64 0, .int .i64 0, .int .i64 0, .int .i64 0, .slice none 0 0] 0 _ _ HKR.out
            exact bodyPost_ret (v := .tuple #[.agg #[.int .i64 0, .int .i64 0, .int .i64 0, .int .i64 0, .int .i64 0, .int .i64 0, .int .i64 0, .slice none 0 0], .int .i64 54]) (results_ropen rfl rfl (by rfl) hst) rfl ⟨zeroP, .slice none 0 0, by rw [HE.out.2]; rfl, World.ownsRow_nil _ _ _ _, HE.out.1.symm, setCells_below hwrx _ _ _ _ HLX.out⟩
          | true =>
            have HE : Hid (op = refHd gs xs ∧ oc = 0) := ⟨congrArg Prod.fst HO2.out, congrArg Prod.snd HO2.out⟩
            go_upto_region 18 with (fail)
            refine wp_region_lit ?_
            refine wpList_run (w' := W3) rfl (exec_load_row 24 _ rfl xb _ _ (.struct (Tryd.prog.fieldsOf 24)) rfl HKX3.out (by kernel_rfl) rfl (by kernel_rfl)) ?_
            refine wpList_skip (w' := W3.setCells rx 0 ((refHd gs xs).cells (.slice au m cu))) rfl rfl (exec_store 24 _ _ rfl (.pointer (some ⟨rx, 0, none⟩)) (.agg ((refHd gs xs).cells (.slice au m cu)).toArray) rfl rfl (run_store_row _ rx 0 _ _ 24 ((refHd gs xs).cells (.slice au m cu)).toArray HKR.out (by simp) (by kernel_rfl) (by simp [Value.oneCell']))) ?_
            refine wpList_run (v := .int .i64 0) (w' := W3.setCells rx 0 ((refHd gs xs).cells (.slice au m cu))) rfl (by kernel_rfl) ?_
            refine wpList_nil ?_
            go_simp
            go_wp2
            have hst : (W3.setCells rx 0 ((refHd gs xs).cells (.slice au m cu))).heap[rx]? = some (.cells ((refHd gs xs).cells (.slice au m cu)).toArray 24 (0, 0)) := by rw [← splice8]; exact setCells_block 24 rx ((refHd gs xs).cells (.slice au m cu)) 0 _ _ HKR.out
            have hox := owns_mono (OwnX.sets HOX3.out ((refHd gs xs).cells (.slice au m cu)) 0 (b := rx) (by omega)) (show w.heap.size ≤ xb + 1 by omega)
            exact bodyPost_ret (v := .tuple #[.agg ((refHd gs xs).cells (.slice au m cu)).toArray, .int .i64 0]) (results_ropen rfl rfl (by rfl) hst) rfl ⟨refHd gs xs, .slice au m cu, by rw [HE.out.2]; rfl, hox, HE.out.1.symm, setCells_below hwrx _ _ _ _ HLX.out⟩
        · rw [if_pos (.inr (by rw [← HNB.out]; exact hae))] at hO
          have HE : Hid (op = zeroP ∧ oc = 20) := ⟨congrArg Prod.fst hO, congrArg Prod.snd hO⟩
          have hae1 : ((sa : Int) != (nb : Int)) = true := by rw [bne_iff_ne]; omega
          clear hO hIT hae
          go_upto_region 15 with (fail)
          refine wp_region_lit ?_
          refine wpList_run (v := .agg #[.int .i64 0, .int .i64 0, .int .i64 0, .int .i64 0, .int .i64 0, .int .i64 0, .int .i64 0, .slice none 0 0]) (w' := wr) rfl (by kernel_rfl) ?_
          refine wpList_skip (w' := wr.setCells rx 0 [.int .i64 0, .int .i64 0, .int .i64 0, .int .i64 0, .int .i64 0, .int .i64 0, .int .i64 0, .slice none 0 0]) rfl rfl (exec_store 24 _ _ rfl _ _ rfl rfl (run_store_row _ rx 0 _ _ 24 #[.int .i64 0, .int .i64 0, .int .i64 0, .int .i64 0, .int .i64 0, .int .i64 0, .int .i64 0, .slice none 0 0] HKR.out (by simp) (by kernel_rfl) (by simp [Value.oneCell']))) ?_
          refine wpList_run (v := .int .i64 20) (w' := wr.setCells rx 0 [.int .i64 0, .int .i64 0, .int .i64 0, .int .i64 0, .int .i64 0, .int .i64 0, .int .i64 0, .slice none 0 0]) rfl (by kernel_rfl) ?_
          refine wpList_nil ?_
          go_simp
          go_wp2
          have hst := setCells_block 24 rx [.int .i64 0, .int .i64 0, .int .i64 0, .int .i64 0, .int .i64 0, .int .i64 0, .int .i64 0, .slice none 0 0] 0 _ _ HKR.out
          exact bodyPost_ret (v := .tuple #[.agg #[.int .i64 0, .int .i64 0, .int .i64 0, .int .i64 0, .int .i64 0, .int .i64 0, .int .i64 0, .slice none 0 0], .int .i64 20]) (results_ropen rfl rfl (by rfl) hst) rfl ⟨zeroP, .slice none 0 0, by rw [HE.out.2]; rfl, World.ownsRow_nil _ _ _ _, HE.out.1.symm, setCells_below hwrx _ _ _ _ HLX.out⟩
    · have hc0 : ((sc : Int) == 0) = false := by rw [beq_eq_false_iff_ne]; omega
      have hc1 : ((sc : Int) != 0) = true := by rw [bne_iff_ne]; omega
      have hO := HOP2.out
      rw [← HX.out.1, refItems_bad l c f xs (sa, sc) hsc, if_pos (.inl hsc)] at hO
      have HE : Hid (op = zeroP ∧ oc = 20) := ⟨congrArg Prod.fst hO, congrArg Prod.snd hO⟩
      clear hO
      have HLX := Lib.hid (OI.low HI.out HB0.out hwrb)
      have HKR := Lib.hid (HI.out.rd.kept KYZ.out hrr)
      by_cases hlt : (m : Int) < c
      · go_upto_region 15 with (fail)
        refine wp_region_lit ?_
        refine wpList_run (v := .agg #[.int .i64 0, .int .i64 0, .int .i64 0, .int .i64 0, .int .i64 0, .int .i64 0, .int .i64 0, .slice none 0 0]) (w' := wr) rfl (by kernel_rfl) ?_
        refine wpList_skip (w' := wr.setCells rx 0 [.int .i64 0, .int .i64 0, .int .i64 0, .int .i64 0, .int .i64 0, .int .i64 0, .int .i64 0, .slice none 0 0]) rfl rfl (exec_store 24 _ _ rfl _ _ rfl rfl (run_store_row _ rx 0 _ _ 24 #[.int .i64 0, .int .i64 0, .int .i64 0, .int .i64 0, .int .i64 0, .int .i64 0, .int .i64 0, .slice none 0 0] HKR.out (by simp) (by kernel_rfl) (by simp [Value.oneCell']))) ?_
        refine wpList_run (v := .int .i64 20) (w' := wr.setCells rx 0 [.int .i64 0, .int .i64 0, .int .i64 0, .int .i64 0, .int .i64 0, .int .i64 0, .int .i64 0, .slice none 0 0]) rfl (by kernel_rfl) ?_
        refine wpList_nil ?_
        go_simp
        go_wp2
        have hst := setCells_block 24 rx [.int .i64 0, .int .i64 0, .int .i64 0, .int .i64 0, .int .i64 0, .int .i64 0, .int .i64 0, .slice none 0 0] 0 _ _ HKR.out
        exact bodyPost_ret (v := .tuple #[.agg #[.int .i64 0, .int .i64 0, .int .i64 0, .int .i64 0, .int .i64 0, .int .i64 0, .int .i64 0, .slice none 0 0], .int .i64 20]) (results_ropen rfl rfl (by rfl) hst) rfl ⟨zeroP, .slice none 0 0, by rw [HE.out.2]; rfl, World.ownsRow_nil _ _ _ _, HE.out.1.symm, setCells_below hwrx _ _ _ _ HLX.out⟩
      · go_upto_region 15 with (fail)
        refine wp_region_lit ?_
        refine wpList_run (v := .agg #[.int .i64 0, .int .i64 0, .int .i64 0, .int .i64 0, .int .i64 0, .int .i64 0, .int .i64 0, .slice none 0 0]) (w' := wr) rfl (by kernel_rfl) ?_
        refine wpList_skip (w' := wr.setCells rx 0 [.int .i64 0, .int .i64 0, .int .i64 0, .int .i64 0, .int .i64 0, .int .i64 0, .int .i64 0, .slice none 0 0]) rfl rfl (exec_store 24 _ _ rfl _ _ rfl rfl (run_store_row _ rx 0 _ _ 24 #[.int .i64 0, .int .i64 0, .int .i64 0, .int .i64 0, .int .i64 0, .int .i64 0, .int .i64 0, .slice none 0 0] HKR.out (by simp) (by kernel_rfl) (by simp [Value.oneCell']))) ?_
        refine wpList_run (v := .int .i64 20) (w' := wr.setCells rx 0 [.int .i64 0, .int .i64 0, .int .i64 0, .int .i64 0, .int .i64 0, .int .i64 0, .int .i64 0, .slice none 0 0]) rfl (by kernel_rfl) ?_
        refine wpList_nil ?_
        go_simp
        go_wp2
        have hst := setCells_block 24 rx [.int .i64 0, .int .i64 0, .int .i64 0, .int .i64 0, .int .i64 0, .int .i64 0, .int .i64 0, .slice none 0 0] 0 _ _ HKR.out
        exact bodyPost_ret (v := .tuple #[.agg #[.int .i64 0, .int .i64 0, .int .i64 0, .int .i64 0, .int .i64 0, .int .i64 0, .int .i64 0, .slice none 0 0], .int .i64 20]) (results_ropen rfl rfl (by rfl) hst) rfl ⟨zeroP, .slice none 0 0, by rw [HE.out.2]; rfl, World.ownsRow_nil _ _ _ _, HE.out.1.symm, setCells_below hwrx _ _ _ _ HLX.out⟩

end Go.Proofs.YtgnpjenpehfjbaaDoor

