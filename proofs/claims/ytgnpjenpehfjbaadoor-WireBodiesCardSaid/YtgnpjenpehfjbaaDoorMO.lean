/- Wire: what the rounds of read keep (by program: wip/tools/gen_wire30.py).
Wire: read (by program: wip/tools/gen_wire30.py). -/
import Derived.Test.YtgnpjenpehfjbaaDoorMI
import Derived.Test.YtgnpjenpehfjbaaDoorMB
import Derived.Test.YtgnpjenpehfjbaaDoorMC
set_option linter.unusedSimpArgs false
set_option linter.unusedVariables false
namespace Go.Proofs.YtgnpjenpehfjbaaDoor
open Go.RowKit

abbrev OwnK (w : World) (B : Nat) (v : Value) (ks : List Int) : Prop := w.ownsRow B 3 1 v ks.length (ks.map fun k => Value.int .i64 k)
theorem info_int : (Tryd.prog.info? 3).map (fun i => (i.zero, i.size, i.bytes)) = some (some (.int .i64 0), 1, 8) := by kernel_rfl
theorem OwnK.below {w w' : World} {B : Nat} {v : Value} {ks : List Int} (h : OwnK w B v ks) (hb : Below w.heap.size w w') : OwnK w' B v ks :=
  World.ownsRow.kept h (row := none) ⟨hb.os, hb.tape, hb.output, hb.size, fun k hk _ => hb.block k hk⟩ (by
    cases hv : v.ownBlock with
    | none => exact .inl rfl
    | some k => exact .inr (by simp))
theorem OwnK.ints {w : World} {B : Nat} {v : Value} {ks : List Int} (h : OwnK w B v ks) : Ints w w.heap.size v ks := by
  rcases h.2 with ⟨h1, h2⟩ | ⟨g, cap, cur, rfl, hg, hh, hc, hm, hs, ht⟩
  · have hl : ks = [] := List.eq_nil_of_length_eq_zero (by omega)
    subst hl h1
    exact ⟨none, 0, rfl, by simp, by simp, fun h => absurd rfl h⟩
  · refine ⟨_, cap, rfl, hc, by omega, fun hne => ⟨g, 0, rfl, (Array.getElem?_eq_some_iff.1 hh).1, fun i hi => ?_⟩⟩
    rw [Nat.zero_add, World.ownsRow.cellAt h _ (by omega), List.getElem?_map, List.getElem?_eq_getElem hi, List.getD_eq_getElem?_getD, List.getElem?_eq_getElem hi]
    rfl
/-- a row kept while other blocks turn -/
theorem owns_same {w w' : World} {B sz n : Nat} {e : TypeId} {v : Value} {xs : List Value} (h : w.ownsRow B e sz v n xs) (hk : ∀ k, v.ownBlock = some k → w'.heap[k]? = w.heap[k]?) : w'.ownsRow B e sz v n xs := by
  obtain ⟨h1, h2⟩ := h
  refine ⟨h1, ?_⟩
  rcases h2 with h2 | ⟨g, cap, cur, rfl, hb, hg, r⟩
  · exact .inl h2
  · exact .inr ⟨g, cap, cur, rfl, hb, (hk g rfl).trans hg, r⟩
theorem owns_kind {w : World} {B sz n : Nat} {e : TypeId} {v : Value} {xs : List Value} (h : w.ownsRow B e sz v n xs) (k : Nat) (hk : v.ownBlock = some k) : ∃ cur, w.heap[k]? = some (.cells cur e (0, 0)) := by
  rcases h.2 with ⟨rfl, -⟩ | ⟨g, cap, cur, rfl, hb, hg, r⟩
  · cases hk
  · cases hk
    exact ⟨_, hg⟩
theorem wpListIn_run {F : Fence} {n : Nat} {P : Program} {ops : Array Oper} {rest : List Oper} {o : Oper} {a : Act} {Q : Exit → Act → World → Prop} {w w' : World} {v : Value} (hfn : ∀ f, F.fn f) (hgd : o.guard = none) (hnd : ∀ c, o.op ≠ .defer c) (hr : (execOp a.eval o).run P w = .ok (.value v) w') (h : wpListIn F n P ops Q rest (a.put o.dst v) w') : wpListIn F n P ops Q (o :: rest) a w :=
  wpListIn_plain hgd fun K hK => by
    unfold Oper.wpIn
    refine ⟨fun f _ => hfn f, ?_⟩
    rw [Oper.semAt_eq _ _ _ hnd, hr]
    exact hK _ _ h
/-- append(s, a row of m elements), as one operation, whatever the frame -/
theorem op_append_row (t e : TypeId) (i0 : TypeInfo) (z : Value) (size bytes : Nat) (ht : Tryd.prog.underlying t = some (.slice e)) (hi : Tryd.prog.info? e = some i0) (hz0 : i0.zero = some z) (hz1 : i0.size = size) (hz2 : i0.bytes = bytes) (hzs : z.cells.size = size) (hsz : 0 < size)
    (w : World) (base : Nat) (v : Value) (n : Nat) (xs : List Value) (g m : Nat) (news : List Value) (hown : w.ownsRow base e size v n xs) (hg : w.heap[g]? = some (.cells news.toArray e (0, 0))) (hn : news.length = m * size) (h1 : ∀ u ∈ news, u.oneCell' = true) (hm : 0 < m) (hl : (n + m) * bytes ≤ 140737488355328) (hl2 : n + m ≤ 1000000000) (hbase : base ≤ w.heap.size) :
    ∃ g' cap' w', (∀ (a : Act) (o : Oper) (s x : Nat), a.tmps.getD s undef = v → a.tmps.getD x undef = .slice (some ⟨g, 0, none⟩) m m → o.op = .call { callee := .builtin .append, args := #[.tmp s, .tmp x], argTypes := #[t, t] } → o.type = t → (execOp a.eval o).run Tryd.prog w = .ok (.value (.slice (some ⟨g', 0, none⟩) (n + m) cap')) w') ∧ w'.ownsRow base e size (.slice (some ⟨g', 0, none⟩) (n + m) cap') (n + m) (xs ++ news) ∧ w.grownBy w' v.ownBlock ∧ (v.ownBlock = some g' ∨ g' = w.heap.size) := by
  obtain ⟨g', cap', w', hr, h2, h3, h4, -⟩ := run_append_lies (P := Tryd.prog) w t t base e i0 z size bytes ht hi hz0 hz1 hz2 hzs hsz v n xs hown ⟨g, 0, none⟩ m m news hn
    (by
      intro j y hj
      have := cell_of_row w g j _ _ _ hg
      have e : (⟨g, 0, none⟩ : Addr).add j = ⟨g, j, none⟩ := by unfold Addr.add; split <;> simp_all
      rw [e, this]
      simpa using hj) h1 hm (by unfold maxLen; omega) hl hbase _ rfl
  refine ⟨g', cap', w', fun a o s x hs hx ho hty => ?_, h2, h3, h4⟩
  unfold execOp
  simp only [ho, hty, resolve, invoke, builtin, Sem.run_bind, Sem.run_pure, Result.andThen_ok, List.map_toArray, List.map_cons, List.map_nil, Act.eval, hs, hx, hr]
/-- behind k rounds of read's first loop -/
structure RIs (w : World) (ps : List Plc) (v1 v2 : Value) (W : World) : Prop where
  low : Below w.heap.size w W
  b1 : W.heap[w.heap.size]? = some (.cells #[v1] 109 (0, 0))
  b2 : W.heap[w.heap.size + 1]? = some (.cells #[v2] 58 (0, 0))
  o1 : OwnP W (w.heap.size + 2) v1 ps
  o2 : OwnK W (w.heap.size + 2) v2 (ps.map Plc.kind)
def RI (w : World) (ps : List Plc) (k : Nat) (W : World) : Prop := ∃ v1 v2, RIs w (ps.take k) v1 v2 W
theorem RIs.below {w : World} {ps : List Plc} {v1 v2 : Value} {W W' : World} (h : RIs w ps v1 v2 W) (hb : Below W.heap.size W W') : RIs w ps v1 v2 W' :=
  ⟨h.low.trans (hb.mono h.low.size), stays h.b1 hb, stays h.b2 hb, h.o1.below hb, h.o2.below hb⟩
theorem RI.below {w : World} {ps : List Plc} {k : Nat} {W W' : World} (h : RI w ps k W) (hb : Below W.heap.size W W') : RI w ps k W' := by
  obtain ⟨v1, v2, h⟩ := h
  exact ⟨v1, v2, h.below hb⟩
theorem RI.putO {w : World} {ps : List Plc} {k : Nat} {W : World} (h : RI w ps k W) {l : Nat} {o : Obj} (o' : Obj) (hn : w.heap.size ≤ l) (hl : W.heap[l]? = some o) (hc : o.isCells = false) : RI w ps k (W.putObj l o') := by
  obtain ⟨v1, v2, h⟩ := h
  exact ⟨v1, v2, h.low.grown (grownBy_putObj' W l o') h.low.size (fun k e => by cases e; exact hn), row_put o' h.b1 hl hc, row_put o' h.b2 hl hc, ownsRow_putObj h.o1 o' hl hc, ownsRow_putObj h.o2 o' hl hc⟩
/-- what a round of read may turn -/
def ReadT (p : Nat) (W : World) (k : Nat) : Prop := BoxT p W k ∨ BoxT (p + 1) W k
/-- ONE ROUND of read's first loop, in plain words -/
theorem read_step {w W W1 W2 W3 W4 W5 : World} {ps : List Plc} {p : Plc} {v1 v2 v1' v2' : Value} (h : RIs w ps v1 v2 W) (hb1 : Below W.heap.size W W1) (g2 : W1.grownBy W2 v1.ownBlock) (n1 : OwnP W2 (w.heap.size + 2) v1' (ps ++ [p])) (l1 : ∀ g, v1'.ownBlock = some g → v1.ownBlock = some g ∨ W1.heap.size ≤ g)
    (e3 : W3 = W2.setCell ⟨w.heap.size, 0, none⟩ v1') (hb4 : Below W3.heap.size W3 W4) (g5 : W4.grownBy W5 v2.ownBlock) (n2 : OwnK W5 (w.heap.size + 2) v2' (ps.map Plc.kind ++ [p.kind])) (l2 : ∀ g, v2'.ownBlock = some g → v2.ownBlock = some g ∨ W4.heap.size ≤ g) :
    KeepsOthers W (W5.setCell ⟨w.heap.size + 1, 0, none⟩ v2') ∧ KeptT (ReadT w.heap.size) W (W5.setCell ⟨w.heap.size + 1, 0, none⟩ v2') ∧ RIs w (ps ++ [p]) v1' v2' (W5.setCell ⟨w.heap.size + 1, 0, none⟩ v2') := by
  have s1 := (Array.getElem?_eq_some_iff.1 h.b1).1
  have s2 := (Array.getElem?_eq_some_iff.1 h.b2).1
  have z1 := hb1.size
  have z2 := g2.size
  have z3 : W3.heap.size = W2.heap.size := by rw [e3]; simp [World.setCell]
  have z4 := hb4.size
  have z5 := g5.size
  have ge1 : ∀ k, v1.ownBlock = some k → w.heap.size + 2 ≤ k ∧ k < W.heap.size := fun k e => World.ownsRow.lt h.o1 k e
  have ge2 : ∀ k, v2.ownBlock = some k → w.heap.size + 2 ≤ k ∧ k < W.heap.size := fun k e => World.ownsRow.lt h.o2 k e
  have ge1' : ∀ k, v1'.ownBlock = some k → w.heap.size + 2 ≤ k ∧ k < W2.heap.size := fun k e => World.ownsRow.lt n1 k e
  have ge2' : ∀ k, v2'.ownBlock = some k → w.heap.size + 2 ≤ k ∧ k < W5.heap.size := fun k e => World.ownsRow.lt n2 k e
  have ne2 : ∀ k, k < W1.heap.size → v1.ownBlock ≠ some k → W2.heap[k]? = W1.heap[k]? := fun k hk hn => g2.block k hk (fun e => hn e.symm)
  have ne5 : ∀ k, k < W4.heap.size → v2.ownBlock ≠ some k → W5.heap[k]? = W4.heap[k]? := fun k hk hn => g5.block k hk (fun e => hn e.symm)
  have ne3 : ∀ k, k ≠ w.heap.size → W3.heap[k]? = W2.heap[k]? := fun k hk => by rw [e3]; exact set_other _ _ _ _ _ hk
  have ne6 : ∀ k, k ≠ w.heap.size + 1 → (W5.setCell ⟨w.heap.size + 1, 0, none⟩ v2').heap[k]? = W5.heap[k]? := fun k hk => set_other _ _ _ _ _ hk
  have p2W2 : W2.heap[w.heap.size]? = some (.cells #[v1] 109 (0, 0)) := (ne2 _ (by omega) (fun e => by have := ge1 _ e; omega)).trans (stays h.b1 hb1)
  have p3 : W3.heap[w.heap.size]? = some (.cells #[v1'] 109 (0, 0)) := by rw [e3]; exact set_block W2 _ 0 _ _ v1' p2W2
  have q3 : W3.heap[w.heap.size + 1]? = some (.cells #[v2] 58 (0, 0)) := (ne3 _ (by omega)).trans ((ne2 _ (by omega) (fun e => by have := ge1 _ e; omega)).trans (stays h.b2 hb1))
  have p5 : W5.heap[w.heap.size]? = some (.cells #[v1'] 109 (0, 0)) := (ne5 _ (by omega) (fun e => by have := ge2 _ e; omega)).trans (stays p3 hb4)
  have q5 : W5.heap[w.heap.size + 1]? = some (.cells #[v2] 58 (0, 0)) := (ne5 _ (by omega) (fun e => by have := ge2 _ e; omega)).trans (stays q3 hb4)
  have r1 : OwnP W5 (w.heap.size + 2) v1' (ps ++ [p]) := by
    refine owns_same n1 fun k hk => ?_
    have hk2 := ge1' k hk
    have hne : v2.ownBlock ≠ some k := fun e => by
      obtain ⟨c, hc⟩ := owns_kind n1 k hk
      obtain ⟨c', hc'⟩ := owns_kind h.o2 k e
      have h4 := ge2 k e
      have hne1 : v1.ownBlock ≠ some k := fun e1 => by
        obtain ⟨c'', hc''⟩ := owns_kind h.o1 k e1
        rw [hc'] at hc''
        cases hc''
      have : W2.heap[k]? = W.heap[k]? := (ne2 k (by omega) hne1).trans (hb1.block k h4.2)
      rw [this, hc'] at hc
      cases hc
    exact (ne5 k (by omega) hne).trans ((hb4.block k (by omega)).trans (ne3 k (by omega)))
  have lowW : Below w.heap.size w (W5.setCell ⟨w.heap.size + 1, 0, none⟩ v2') := by
    have hk : ∀ k, k < w.heap.size → (W5.setCell ⟨w.heap.size + 1, 0, none⟩ v2').heap[k]? = w.heap[k]? := fun k hk => by
      rw [ne6 k (by omega), ne5 k (by omega) (fun e => by have := ge2 _ e; omega), hb4.block k (by omega), ne3 k (by omega), ne2 k (by omega) (fun e => by have := ge1 _ e; omega), hb1.block k (by omega), h.low.block k hk]
    exact ⟨g5.os.trans (hb4.os.trans ((by rw [e3]; rfl : W3.os = W2.os).trans (g2.os.trans (hb1.os.trans h.low.os)))), g5.tape.trans (hb4.tape.trans ((by rw [e3]; rfl : W3.tape = W2.tape).trans (g2.tape.trans (hb1.tape.trans h.low.tape)))), g5.output.trans (hb4.output.trans ((by rw [e3]; rfl : W3.output = W2.output).trans (g2.output.trans (hb1.output.trans h.low.output)))), by have := h.low.size; simp [World.setCell]; omega, hk⟩
  have keep : ∀ k, k < W.heap.size → k ≠ w.heap.size → k ≠ w.heap.size + 1 → v1.ownBlock ≠ some k → v2.ownBlock ≠ some k → (W5.setCell ⟨w.heap.size + 1, 0, none⟩ v2').heap[k]? = W.heap[k]? := fun k hk h1 h2 h3 h4 => by
    rw [ne6 k h2, ne5 k (by omega) h4, hb4.block k (by omega), ne3 k h1, ne2 k (by omega) h3, hb1.block k hk]
  have B1 : (W5.setCell ⟨w.heap.size + 1, 0, none⟩ v2').heap[w.heap.size]? = some (.cells #[v1'] 109 (0, 0)) := (ne6 _ (by omega)).trans p5
  have B2 : (W5.setCell ⟨w.heap.size + 1, 0, none⟩ v2').heap[w.heap.size + 1]? = some (.cells #[v2'] 58 (0, 0)) := set_block W5 _ 0 _ _ v2' q5
  have hsz : (W5.setCell ⟨w.heap.size + 1, 0, none⟩ v2').heap.size = W5.heap.size := by simp [World.setCell]
  refine ⟨⟨by omega, fun k o hk ho => ?_⟩, ⟨by omega, fun k hk hn => ?_, fun k hk => ?_⟩, ⟨lowW, B1, B2, ownsRow_setCell_below (a := ⟨w.heap.size + 1, 0, none⟩) r1 (Nat.lt_succ_self _) v2', by
    rw [List.map_append]
    exact ownsRow_setCell_below (a := ⟨w.heap.size + 1, 0, none⟩) n2 (Nat.lt_succ_self _) v2'⟩⟩
  · have hkl := (Array.getElem?_eq_some_iff.1 hk).1
    rw [keep k hkl (fun e => by subst e; rw [h.b1] at hk; cases hk; cases ho) (fun e => by subst e; rw [h.b2] at hk; cases hk; cases ho) (fun e => by obtain ⟨c, hc⟩ := owns_kind h.o1 k e; rw [hc] at hk; cases hk; cases ho) (fun e => by obtain ⟨c, hc⟩ := owns_kind h.o2 k e; rw [hc] at hk; cases hk; cases ho)]
    exact hk
  · exact keep k hk (fun e => hn (.inl (.inl e))) (fun e => hn (.inr (.inl e))) (fun e => hn (.inl (.inr ⟨_, _, h.b1, e⟩))) (fun e => hn (.inr (.inr ⟨_, _, h.b2, e⟩)))
  · rcases hk with (rfl | ⟨v', t', hb', hkk⟩) | (rfl | ⟨v', t', hb', hkk⟩)
    · exact .inl (.inl (.inl rfl))
    · rw [B1] at hb'
      cases hb'
      rcases l1 k hkk with h1 | h1
      · exact .inl (.inl (.inr ⟨_, _, h.b1, h1⟩))
      · exact .inr (by omega)
    · exact .inl (.inr (.inl rfl))
    · rw [B2] at hb'
      cases hb'
      rcases l2 k hkk with h1 | h1
      · exact .inl (.inr (.inr ⟨_, _, h.b2, h1⟩))
      · exact .inr (by omega)

end Go.Proofs.YtgnpjenpehfjbaaDoor

namespace Go.Proofs.YtgnpjenpehfjbaaDoor
open Go.RowKit

attribute [local go_sem] Oper.semAt_some

theorem set_any (p : Plc) (f : Fld) (cs : Array Value) (t : TypeId) (w : World) (hs : p.sort ≤ 3) (h : w.heap[p.b]? = some (.cells cs t (0, 0))) (ho : p.o < cs.size) :
    Calls Tryd.prog 78 #[p.val, f.val] w fun e w' => (∃ v, e = .returned v) ∧ Below w.heap.size (w.setCell ⟨p.b, p.o, none⟩ (p.cellOf f)) w' := by
  obtain ⟨kind, st, b, o⟩ := p
  rcases (show st = 0 ∨ st = 1 ∨ st = 2 ∨ st = 3 by have : st ≤ 3 := hs; omega) with rfl | rfl | rfl | rfl
  · exact set_0 kind f.kind f.num ⟨f.text.toArray⟩ f.is_ b o cs t w h ho
  · exact set_1 kind f.kind f.num ⟨f.text.toArray⟩ f.is_ b o cs t w h ho
  · exact set_2 kind f.kind f.num ⟨f.text.toArray⟩ f.is_ b o cs t w h ho
  · exact set_3 kind f.kind f.num ⟨f.text.toArray⟩ f.is_ b o cs t w h ho
def setsW (w : World) (l : List (Plc × Fld)) : World := l.foldl (fun W pf => W.setCell ⟨pf.1.b, pf.1.o, none⟩ (pf.1.cellOf pf.2)) w
theorem setsW_snoc (w : World) (l : List (Plc × Fld)) (p : Plc) (f : Fld) : setsW w (l ++ [(p, f)]) = (setsW w l).setCell ⟨p.b, p.o, none⟩ (p.cellOf f) := by unfold setsW; rw [List.foldl_append]; rfl
theorem setsW_size (l : List (Plc × Fld)) : ∀ w, (setsW w l).heap.size = w.heap.size := by
  induction l with
  | nil => intro w; rfl
  | cons a r ih => intro w; show (setsW _ r).heap.size = _; rw [ih]; simp [World.setCell]
theorem setsW_at (l : List (Plc × Fld)) : ∀ (w : World) (b : Nat) (cs : Array Value) (t : TypeId), w.heap[b]? = some (.cells cs t (0, 0)) → ∃ cs' : Array Value, (setsW w l).heap[b]? = some (.cells cs' t (0, 0)) ∧ cs'.size = cs.size := by
  induction l with
  | nil => intro w b cs t h; exact ⟨cs, h, rfl⟩
  | cons a r ih =>
    intro w b cs t h
    obtain ⟨p, f⟩ := a
    by_cases e : b = p.b
    · subst e
      obtain ⟨cs', h1, h2⟩ := ih (w.setCell ⟨p.b, p.o, none⟩ (p.cellOf f)) p.b _ t (set_block w p.b p.o cs t _ h)
      exact ⟨cs', h1, by rw [h2]; simp⟩
    · exact ih (w.setCell ⟨p.b, p.o, none⟩ (p.cellOf f)) b cs t ((set_other _ _ _ _ _ e).trans h)
theorem readF_len (l : List UInt8) (ks : List Int) : ∀ acc a, (readF l ks acc a).2.2 = 0 → (readF l ks acc a).1.length = acc.length + ks.length := by
  induction ks with
  | nil => intro acc a _; simp [readF]
  | cons k r ih =>
    intro acc a h
    unfold readF at h ⊢
    by_cases hk : (fieldR l k a).2.2 ≠ 0
    · rw [if_pos hk] at h; exact absurd h hk
    · rw [if_neg hk] at h ⊢
      rw [ih _ _ h]
      simp
      omega
theorem fld_row {W : World} {B : Nat} {v : Value} {fs : List Fld} (h : OwnF W B v fs) (hp : 0 < fs.length) : ∃ g cap, v = .slice (some ⟨g, 0, none⟩) fs.length cap ∧ B ≤ g ∧ g < W.heap.size ∧ ∀ i f, fs[i]? = some f → W.rangeAt g (i * 4) f.cells := by
  obtain ⟨g, cap, rfl, hg, hlt⟩ := h.form (by omega)
  refine ⟨g, cap, rfl, hg, hlt, fun i f hf j u hu => ?_⟩
  have hj : j < 4 := (List.getElem?_eq_some_iff.1 hu).1
  have hi := (List.getElem?_eq_some_iff.1 hf).1
  rw [World.ownsRow.cellAt h _ (by omega), flat_get fs i f hf j hj]
  exact hu
theorem plc_row {W : World} {B : Nat} {v : Value} {ps : List Plc} (h : OwnP W B v ps) (hp : 0 < ps.length) : ∃ g cap, v = .slice (some ⟨g, 0, none⟩) ps.length cap ∧ B ≤ g ∧ g < W.heap.size ∧ RowP W g ps := by
  obtain ⟨g, cap, rfl, hg, hlt⟩ := h.form (by omega)
  refine ⟨g, cap, rfl, hg, hlt, fun i p hp j u hu => ?_⟩
  have hj : j < 5 := (List.getElem?_eq_some_iff.1 hu).1
  have hi := (List.getElem?_eq_some_iff.1 hp).1
  rw [World.ownsRow.cellAt h _ (by omega), flat_plc ps i p hp j hj]
  exact hu
theorem take_plc (ps : List Plc) (k : Nat) (h : k < ps.length) : ps.take (k + 1) = ps.take k ++ [ps.getD k nilP] := by
  rw [List.take_add_one, getP h]; rfl
/-- behind k sets -/
structure SI (w W7 : World) (ps : List Plc) (fs : List Fld) (k : Nat) (W : World) : Prop where
  low : Below w.heap.size (setsW w ((ps.zip fs).take k)) W
  hi : ∀ j, w.heap.size ≤ j → j < W7.heap.size → W.heap[j]? = W7.heap[j]?
  sz : W7.heap.size ≤ W.heap.size
theorem SI.step {w W7 : World} {ps : List Plc} {fs : List Fld} {k : Nat} {W W1 W2 : World} (h : SI w W7 ps fs k W) (hk : k < ps.length) (hf : fs.length = ps.length) (hb : Below W.heap.size W W1) (cs : Array Value) (t : TypeId) (hc : (setsW w ((ps.zip fs).take k)).heap[(ps.getD k nilP).b]? = some (.cells cs t (0, 0))) (hlt : (ps.getD k nilP).b < w.heap.size)
    (h2 : Below W1.heap.size (W1.setCell ⟨(ps.getD k nilP).b, (ps.getD k nilP).o, none⟩ ((ps.getD k nilP).cellOf (fs.getD k nilF))) W2) : SI w W7 ps fs (k + 1) W2 := by
  have e : (ps.zip fs).take (k + 1) = (ps.zip fs).take k ++ [(ps.getD k nilP, fs.getD k nilF)] := by
    rw [List.take_add_one]
    have : (ps.zip fs)[k]? = some (ps.getD k nilP, fs.getD k nilF) := by
      rw [List.getElem?_zip_eq_some]
      exact ⟨getP hk, by show _ = some (fs.getD k nilF); rw [List.getD_eq_getElem?_getD, List.getElem?_eq_getElem (by omega)]; rfl⟩
    rw [this]; rfl
  have s0 := setsW_size ((ps.zip fs).take k) w
  have low1 : Below (setsW w ((ps.zip fs).take k)).heap.size (setsW w ((ps.zip fs).take k)) W1 := by rw [s0]; exact h.low.trans (hb.mono (by have := h.low.size; omega))
  have b1 := below_set (o := (ps.getD k nilP).o) (v := (ps.getD k nilP).cellOf (fs.getD k nilF)) low1 hc
  have z1 := h.sz
  have z2 := hb.size
  have z3 := h2.size
  have z4 : (W1.setCell ⟨(ps.getD k nilP).b, (ps.getD k nilP).o, none⟩ ((ps.getD k nilP).cellOf (fs.getD k nilF))).heap.size = W1.heap.size := by simp [World.setCell]
  have z5 := h.low.size
  refine ⟨?_, fun j hj hj7 => ?_, by omega⟩
  · rw [e, setsW_snoc]
    rw [s0] at b1
    exact b1.trans (h2.mono (by omega))
  · rw [h2.block j (by omega), set_other _ _ _ _ _ (by omega), hb.block j (by omega), h.hi j hj hj7]

set_option maxRecDepth 100000 in
set_option maxHeartbeats 8000000 in
theorem read_any (gf : Nat) (lb : Array Value) (ps : List Plc) (Inv : World → Prop) (Sp : List Nat → Prop) (eg : ∀ args w, (callFunc gf args).run Tryd.prog w = .ok (.enter gf args) w)
    (hit : ∀ m, IteratesT Fence.wide m Tryd.prog gf lb (encP ps) Inv (fun pre k _ => pre = List.range k ∧ k < ps.length) (fun xs => xs = List.range ps.length) Sp)
    (v : Value) (l : List UInt8) (w : World) (hb : Bts w w.heap.size v l) (hl : l.length ≤ 1000000000) (hn : ps.length ≤ 1000) (hInv : ∀ W, Below w.heap.size w W → Inv W)
    (htg : ∀ k, k < ps.length → (ps.getD k nilP).sort ≤ 3 ∧ ∃ (cs : Array Value) (t : TypeId), w.heap[(ps.getD k nilP).b]? = some (.cells cs t (0, 0)) ∧ (ps.getD k nilP).o < cs.size) :
    Calls Tryd.prog 69 #[v, .func (.func gf) #[] lb] w fun e w' =>
      ((readF l (ps.map Plc.kind) [] 0).2.2 ≠ 0 ∧ e = .returned (.tuple #[.int .i64 0, .bool false]) ∧ Below w.heap.size w w') ∨
      ((readF l (ps.map Plc.kind) [] 0).2.2 = 0 ∧ e = .returned (.tuple #[.int .i64 ((readF l (ps.map Plc.kind) [] 0).2.1 : Nat), .bool true]) ∧ Below w.heap.size (setsW w (ps.zip (readF l (ps.map Plc.kind) [] 0).1)) w') := by
  obtain ⟨R, hR⟩ : ∃ R, R = readF l (ps.map Plc.kind) [] 0 := ⟨_, rfl⟩
  rw [← hR]
  obtain ⟨fs, rn, re⟩ := R
  have HR := Lib.hid hR
  clear hR
  dsimp only
  have HINV := Lib.hid hInv
  have HTG := Lib.hid htg
  have HB := Lib.hid hb
  have HL := Lib.hid hl
  have HPL := Lib.hid hn
  obtain ⟨ba, bc, hv, -⟩ := id hb
  obtain ⟨nb, hnb⟩ : ∃ n, n = l.length := ⟨_, rfl⟩
  rw [← hnb] at hv
  subst hv
  have HNB := Lib.hid hnb
  clear hInv htg hb hl hnb
  obtain ⟨g0, k0⟩ := new_block w (.cells #[.slice none 0 0] 109)
  obtain ⟨g1, k1⟩ := new_block (w.alloc (.cells #[.slice none 0 0] 109)) (.cells #[.slice none 0 0] 58)
  simp only [World.size_alloc] at k1
  have h0 : RI w ps 0 ((w.alloc (.cells #[.slice none 0 0] 109)).alloc (.cells #[.slice none 0 0] 58)) :=
    ⟨_, _, g0.trans (g1.mono g0.size), stays k0 g1, k1, by rw [List.take_zero]; exact World.ownsRow_nil _ _ _ _, by rw [List.take_zero]; exact World.ownsRow_nil _ _ _ _⟩
  have H0 := Lib.hid h0
  clear g0 k0 g1 k1 h0
  refine (callsIn_wide (n := 5)).1 ?_
  refine callsIn_of_wp_marks Tryd.func69 rfl trivial ?_ rfl
  simp only [Tryd.ntmps69, List.size_toArray, List.length_cons, List.length_nil, Nat.reduceAdd, Nat.reduceSub, Array.replicate_succ, Array.replicate_zero, List.push_toArray, List.append_toArray, List.nil_append, List.cons_append]
  gi_wp2
  obtain ⟨W0, hW0⟩ : ∃ W0, W0 = (w.alloc (.cells #[.slice none 0 0] 109)).alloc (.cells #[.slice none 0 0] 58) := ⟨_, rfl⟩
  rw [← hW0] at H0 ⊢
  have SZ0 : Hid (W0.heap.size = w.heap.size + 2) := by show _ = _; rw [hW0]; simp
  clear hW0
  refine wpIn_range_T (F := Fence.wide) (n := 5) rfl (by omega) (gf := gf) (lb := lb) ?hg trivial eg (hit 4) (fun x => rfl) ?hRput
    (fun pre W => RI w ps pre.length W) (fun _ _ _ => False) (ReadT w.heap.size) ?hT1 ?hT2 ?hT3 ?hI ?hIp ?hIxp ?hInv ?h0
    (A := ?A) (fun (k : Nat) (u : Nat) (kd : Int) (x0 x1 x2 x3 : Option Addr) W => (ps.getD k nilP).val = .agg #[.int .i64 kd, .pointer x0, .pointer x1, .pointer x2, .pointer x3] ∧ W.heap[u]? = some (.cells #[.int .i64 kd, .pointer x0, .pointer x1, .pointer x2, .pointer x3] 106 (0, 0)) ∧ w.heap.size + 1 < u ∧ ∀ v1, W.heap[w.heap.size]? = some (.cells #[v1] 109 (0, 0)) → v1.ownBlock ≠ some u) ?hAxp ?assign ?body ?done ?stop
  case hg => rfl
  case hRput => exact fun pre x W l o o' h _ _ => h
  case hT1 =>
    rintro s' A ⟨v1, v2, h⟩ k ((rfl | ⟨v', t', hb', hk⟩) | (rfl | ⟨v', t', hb', hk⟩))
    · exact (Array.getElem?_eq_some_iff.1 h.b1).1
    · rw [h.b1] at hb'
      cases hb'
      exact (World.ownsRow.lt h.o1 k hk).2
    · exact (Array.getElem?_eq_some_iff.1 h.b2).1
    · rw [h.b2] at hb'
      cases hb'
      exact (World.ownsRow.lt h.o2 k hk).2
  case hT2 =>
    rintro s' A B ⟨v1, v2, h⟩ hb k (hk | hk)
    · exact .inl (hk.same (hb.block _ (Array.getElem?_eq_some_iff.1 h.b1).1))
    · exact .inr (hk.same (hb.block _ (Array.getElem?_eq_some_iff.1 h.b2).1))
  case hT3 =>
    rintro s' A l o o' ⟨v1, v2, h⟩ hl ho hc k (hk | hk)
    · refine .inl (hk.same (World.putObj_heap_other fun e => ?_))
      have h1 := h.b1
      rw [e, ho] at h1
      cases h1
      cases hc
    · refine .inr (hk.same (World.putObj_heap_other fun e => ?_))
      have h1 := h.b2
      rw [e, ho] at h1
      cases h1
      cases hc
  case hI => exact fun s' A B h hb => h.below hb
  case hIp => exact fun s' A l o o' h hl ho hc => h.putO o' (by have := SZ0.out; omega) ho hc
  case hIxp => exact fun c s' A l o o' h _ _ _ => h
  case hInv => exact fun s' A h => HINV.out _ (by obtain ⟨v1, v2, h⟩ := h; exact h.low)
  case h0 => exact H0.out
  case hAxp =>
    rintro k u kd x0 x1 x2 x3 A l o o' ⟨h2, h3, h4, h5⟩ hl ho hc
    refine ⟨h2, row_put o' h3 ho hc, h4, fun v1 hv1 => h5 v1 ?_⟩
    by_cases e : l = w.heap.size
    · have := SZ0.out; omega
    · rw [World.putObj_heap_other (by omega)] at hv1; exact hv1
  case assign =>
    rintro yl pre k W K hQ hR hK
    obtain ⟨⟨kd, st, pb, po⟩, hp⟩ : ∃ q, q = ps.getD k nilP := ⟨_, rfl⟩
    obtain ⟨x0, h0x⟩ : ∃ x, x = (if st = 0 then some (⟨pb, po, none⟩ : Addr) else none) := ⟨_, rfl⟩
    obtain ⟨x1, h1x⟩ : ∃ x, x = (if st = 1 then some (⟨pb, po, none⟩ : Addr) else none) := ⟨_, rfl⟩
    obtain ⟨x2, h2x⟩ : ∃ x, x = (if st = 2 then some (⟨pb, po, none⟩ : Addr) else none) := ⟨_, rfl⟩
    obtain ⟨x3, h3x⟩ : ∃ x, x = (if st = 3 then some (⟨pb, po, none⟩ : Addr) else none) := ⟨_, rfl⟩
    have hv : (⟨kd, st, pb, po⟩ : Plc).val = .agg #[.int .i64 kd, .pointer x0, .pointer x1, .pointer x2, .pointer x3] := by unfold Plc.val Plc.cells Plc.ptr; rw [h0x, h1x, h2x, h3x]
    simp only [encP]
    rw [← hp, hv]
    have HV : Hid ((ps.getD k nilP).val = .agg #[.int .i64 kd, .pointer x0, .pointer x1, .pointer x2, .pointer x3]) := by show _ = _; rw [← hp, hv]
    have HK := Lib.hid hK
    have HQ := Lib.hid hQ
    clear hK hQ hp hv h0x h1x h2x h3x
    gi_wp2
    have hQ1 := HQ.out.below (new_block W (.cells #[.int .i64 kd, .pointer x0, .pointer x1, .pointer x2, .pointer x3] 106)).1
    have k1 := (new_block W (.cells #[.int .i64 kd, .pointer x0, .pointer x1, .pointer x2, .pointer x3] 106)).2
    have hko := (new_block W (.cells #[.int .i64 kd, .pointer x0, .pointer x1, .pointer x2, .pointer x3] 106)).1
    obtain ⟨v1, v2, hq⟩ := HQ.out
    have hlt : w.heap.size + 1 < W.heap.size := (Array.getElem?_eq_some_iff.1 hq.b2).1
    have hno : ∀ v1, (W.alloc (.cells #[.int .i64 kd, .pointer x0, .pointer x1, .pointer x2, .pointer x3] 106)).heap[w.heap.size]? = some (.cells #[v1] 109 (0, 0)) → v1.ownBlock ≠ some W.heap.size := fun v' hv' e => by
      rw [stays hq.b1 hko] at hv'
      cases hv'
      have := (World.ownsRow.lt hq.o1 _ e).2
      omega
    generalize W.heap.size = u at *
    exact HK.out u kd x0 x1 x2 x3 _ hko hQ1 hR ⟨HV.out, k1, hlt, hno⟩
  case body =>
    rintro yl pre k u kd x0 x1 x2 x3 W ⟨v1, v2, hq⟩ ⟨hpre, hk⟩ ⟨hval, hrow, hu, hno⟩
    have hlen : pre.length = k := by rw [hpre]; simp
    rw [hlen] at hq
    have HLN : Hid ((pre ++ [k]).length = k + 1) := by show _ = _; simp [hlen]
    have HK : Hid (k < ps.length) := hk
    have hlk : (ps.take k).length ≤ 1000 := by have := List.length_take_le k ps; have := HPL.out; rw [List.length_take]; omega
    obtain ⟨p, hp⟩ : ∃ p, p = ps.getD k nilP := ⟨_, rfl⟩
    rw [← hp] at hval
    have hpc : p.cells = [.int .i64 kd, .pointer x0, .pointer x1, .pointer x2, .pointer x3] := by
      unfold Plc.val at hval
      injection hval with h
      have := congrArg Array.toList h
      simpa using this
    have hkd : p.kind = kd := by unfold Plc.cells at hpc; injection hpc with h1 _; injection h1
    have HP := Lib.hid hp
    have HQ := Lib.hid hq
    have hnu := hno v1 hq.b1
    obtain ⟨i0, hi, hz0, hz1, hz2⟩ := info_parts info_place
    obtain ⟨j0, ji, jz0, jz1, jz2⟩ := info_parts info_int
    obtain ⟨b1, kb1⟩ := new_block W (.cells #[.int .i64 kd, .pointer x0, .pointer x1, .pointer x2, .pointer x3] 106)
    obtain ⟨ga, capa, W2, hrun1, n1, g2, l1⟩ := op_append_row 109 106 i0 _ 5 40 Tryd.underlying109 hi hz0 hz1 hz2 rfl (by decide) (W.alloc (.cells #[.int .i64 kd, .pointer x0, .pointer x1, .pointer x2, .pointer x3] 106)) (w.heap.size + 2) v1 (ps.take k).length _ W.heap.size 1 [.int .i64 kd, .pointer x0, .pointer x1, .pointer x2, .pointer x3] (hq.o1.below b1) kb1 rfl (by intro u hu; rw [← hpc] at hu; exact plc_cells p u hu) (by decide) (by omega) (by omega) (by have := (Array.getElem?_eq_some_iff.1 hq.b2).1; simp; omega)
    obtain ⟨ao1, cap1, hv1⟩ := owns_form hq.o1
    obtain ⟨ao2, cap2, hv2⟩ := owns_form hq.o2
    have hml : ((ps.take k).map Plc.kind).length = (ps.take k).length := List.length_map _
    rw [hml] at hv2
    obtain ⟨m, hm⟩ : ∃ m, m = (ps.take k).length := ⟨_, rfl⟩
    rw [← hm] at hv1 hv2 hlk n1 hrun1
    have n1' : OwnP W2 (w.heap.size + 2) (.slice (some ⟨ga, 0, none⟩) (m + 1) capa) (ps.take k ++ [p]) := by
      show World.ownsRow _ _ _ _ _ _ _
      rw [List.length_append, List.flatMap_append, ← hm]
      simp only [List.flatMap_cons, List.flatMap_nil, List.append_nil, hpc]
      exact n1
    have p2l := (Array.getElem?_eq_some_iff.1 hq.b2).1
    have ul := (Array.getElem?_eq_some_iff.1 hrow).1
    have ge1 : ∀ k, v1.ownBlock = some k → w.heap.size + 2 ≤ k := fun k e => (World.ownsRow.lt hq.o1 k e).1
    have kp : ∀ j, j < W.heap.size → v1.ownBlock ≠ some j → W2.heap[j]? = W.heap[j]? := fun j hj hn => (g2.block j (by simp; omega) (fun e => hn e.symm)).trans (b1.block j hj)
    have q1 := (kp w.heap.size (by omega) (fun e => by have := ge1 _ e; omega)).trans hq.b1
    have q2 := (kp (w.heap.size + 1) p2l (fun e => by have := ge1 _ e; omega)).trans hq.b2
    have qu := (kp u ul hnu).trans hrow
    obtain ⟨W3, hW3⟩ : ∃ W3, W3 = W2.setCell ⟨w.heap.size, 0, none⟩ (.slice (some ⟨ga, 0, none⟩) (m + 1) capa) := ⟨_, rfl⟩
    have z3 : W3.heap.size = W2.heap.size := by rw [hW3]; simp [World.setCell]
    have z2 := g2.size
    simp only [World.size_alloc] at z2
    have r2 : W3.heap[w.heap.size + 1]? = some (.cells #[v2] 58 (0, 0)) := by rw [hW3]; exact (set_other _ _ _ _ _ (by omega)).trans q2
    have ru : W3.heap[u]? = some (.cells #[.int .i64 kd, .pointer x0, .pointer x1, .pointer x2, .pointer x3] 106 (0, 0)) := by rw [hW3]; exact (set_other _ _ _ _ _ (by omega)).trans qu
    obtain ⟨b4, kb4⟩ := new_block W3 (.cells #[.int .i64 kd] 3)
    have o2' : OwnK W3 (w.heap.size + 2) v2 ((ps.take k).map Plc.kind) := by
      refine owns_same hq.o2 fun j hj => ?_
      have h4 := World.ownsRow.lt hq.o2 j hj
      have hne1 : v1.ownBlock ≠ some j := fun e1 => by
        obtain ⟨c, hc⟩ := owns_kind hq.o1 j e1
        obtain ⟨c', hc'⟩ := owns_kind hq.o2 j hj
        rw [hc'] at hc
        cases hc
      rw [hW3, set_other _ _ _ _ _ (by omega)]
      exact kp j h4.2 hne1
    obtain ⟨gb, capb, W5, hrun2, n2, g5, l2⟩ := op_append_row 58 3 j0 _ 1 8 Tryd.underlying58 ji jz0 jz1 jz2 rfl (by decide) (W3.alloc (.cells #[.int .i64 kd] 3)) (w.heap.size + 2) v2 ((ps.take k).map Plc.kind).length _ W3.heap.size 1 [.int .i64 kd] (o2'.below b4) kb4 rfl (by intro u hu; simp at hu; subst hu; rfl) (by decide) (by rw [hml]; omega) (by rw [hml]; omega) (by simp; omega)
    rw [hml, ← hm] at hrun2 n2
    rw [z3, hW3] at hrun2
    have n2' : OwnK W5 (w.heap.size + 2) (.slice (some ⟨gb, 0, none⟩) (m + 1) capb) ((ps.take k).map Plc.kind ++ [p.kind]) := by
      show World.ownsRow _ _ _ _ _ _ _
      rw [List.length_append, List.map_append, hml, ← hm, hkd]
      exact n2
    have ge2 : ∀ k, v2.ownBlock = some k → w.heap.size + 2 ≤ k := fun k e => (World.ownsRow.lt hq.o2 k e).1
    have s2 := (g5.block (w.heap.size + 1) (by simp; omega) (fun e => by have := ge2 _ e.symm; omega)).trans (stays r2 b4)
    have hstep := read_step hq b1 g2 n1' (fun g e => by
      simp only [Value.ownBlock, Option.some.injEq] at e
      subst e
      rcases l1 with l1 | l1
      · exact .inl l1
      · exact .inr (by omega)) hW3 b4 g5 n2' (fun g e => by
      simp only [Value.ownBlock, Option.some.injEq] at e
      subst e
      rcases l2 with l2 | l2
      · exact .inl l2
      · exact .inr (by omega))
    have HSTEP := Lib.hid hstep
    have HPK : Hid (ps.take (k + 1) = ps.take k ++ [p]) := by show _ = _; rw [take_plc ps k HK.out, ← HP.out]
    have HB1 := Lib.hid hq.b1
    have HR1 := Lib.hid hrun1
    have HR2 := Lib.hid hrun2
    have HW3 := Lib.hid hW3
    have c1 := cell_of_row _ _ 0 _ _ _ hq.b1
    have cu0 := cell_of_row _ _ 0 _ _ _ hrow
    have cu1 := cell_of_row _ _ 1 _ _ _ hrow
    have cu2 := cell_of_row _ _ 2 _ _ _ hrow
    have cu3 := cell_of_row _ _ 3 _ _ _ hrow
    have cu4 := cell_of_row _ _ 4 _ _ _ hrow
    have d1 := cell_of_row _ _ 0 _ _ _ q1
    have f1 := frozen_of_row _ _ 0 _ _ q1
    have d2 := cell_of_row _ _ 0 _ _ _ r2
    have du := cell_of_row _ _ 0 _ _ _ ru
    have d5 := cell_of_row _ _ 0 _ _ _ s2
    have f5 := frozen_of_row _ _ 0 _ _ s2
    rw [hW3] at d2 du
    rw [hv1] at c1 d1
    rw [hv2] at d2 d5
    rw [hv1] at HR1
    rw [hv2] at HR2
    simp only [List.getElem?_toArray, List.getElem?_cons_zero] at c1 d1 d2 d5
    clear hstep hrun1 hrun2 hq hno hnu hrow hpre hk hval hpc hkd hp n1 n1' n2 n2' g2 g5 l1 l2 b1 kb1 b4 kb4 o2' p2l ul ge1 ge2 kp q1 q2 qu r2 ru s2 z2 z3 hi hz0 hz1 hz2 ji jz0 jz1 jz2 hml hlk hm hlen hn hv1 hv2 hW3
    gi_wp2_with (gi_at_builtin; (first | (refine wpListIn_run (fun _ => trivial) rfl (by intro c hc; cases hc) (HR1.out _ _ 16 18 rfl rfl rfl rfl) ?_) | (refine wpListIn_run (fun _ => trivial) rfl (by intro c hc; cases hc) (HR2.out _ _ 20 23 rfl rfl rfl rfl) ?_)))
    obtain ⟨e1, e2, e3⟩ := HSTEP.out
    refine ⟨e1, e2, ?_⟩
    show RI w ps (pre ++ [k]).length _
    rw [HLN.out]
    unfold RI
    rw [HPK.out]
    exact ⟨_, _, e3⟩
  case done =>
    rintro D xs W rfl ⟨v1, v2, hq⟩ hD hDn
    rw [List.length_range, List.take_length] at hq
    have HD := Lib.hid hD
    have HDN : Hid (w.heap.size ≤ D) := by show _ ≤ _; have := SZ0.out; omega
    obtain ⟨ks, hks⟩ : ∃ ks, ks = ps.map Plc.kind := ⟨_, rfl⟩
    have hkl : ks.length = ps.length := by rw [hks]; simp
    have ho2 := hq.o2
    rw [← hks] at ho2
    obtain ⟨ao1, cap1, hv1⟩ := owns_form hq.o1
    obtain ⟨ao2, cap2, hv2⟩ := owns_form ho2
    rw [hkl] at hv2
    obtain ⟨n, hn⟩ : ∃ n, n = ps.length := ⟨_, rfl⟩
    rw [← hn] at hv1 hv2
    subst hv1 hv2
    have HQ := Lib.hid hq
    have HKS := Lib.hid hks
    have HN := Lib.hid hn
    have hcon := Lib.hid (code_Read (.slice ba nb bc) (.slice ao2 n cap2) l ks W (HB.out.below hq.low hq.low.size) ho2.ints HL.out (by rw [hkl]; have := HPL.out; omega))
    rw [hks, ← HR.out] at hcon
    dsimp only at hcon
    have c1 := cell_of_row _ _ 0 _ _ _ hq.b2
    clear hq hD hDn hks hkl ho2 hn
    gi_wp2_with (fail)
    refine ⟨trivial, ?_⟩
    refine (callsIn_wide.2 hcon.out).mono ?_
    rintro e W7 ⟨lv, rfl, hB, ho⟩
    have LW7 := Lib.hid (HQ.out.low.trans (hB.mono HQ.out.low.size))
    have HD7 := Lib.hid (stays HD.out hB)
    have KB1 := Lib.hid (stays HQ.out.b1 hB)
    have HO1 := Lib.hid (HQ.out.o1.below hB)
    have HLV := Lib.hid ho
    have SW7 : Hid (w.heap.size ≤ W.heap.size) := HQ.out.low.size
    clear hcon hB ho c1 HQ
    by_cases hre : re = 0
    case neg =>
      have e1 : ¬ ((re : Int) = 0) := by omega
      gi_wp2_with (fail)
      have hdd : Below w.heap.size w (W7.putObj D (.deferred none)) := LW7.out.grown (grownBy_putObj' W7 D _) LW7.out.size (fun k e => by cases e; exact HDN.out)
      exact marks_ret1 rfl HD7.out (v := .tuple #[.int .i64 0, .bool false]) (by simp [results, Tryd.results69, go_sem]) (.inl ⟨hre, rfl, hdd⟩)
    have hre0 : (re : Int) = 0 := by omega
    have hfl : fs.length = n := by
      have h1 := readF_len l (ps.map Plc.kind) [] 0 (by rw [← HR.out]; exact hre)
      rw [← HR.out] at h1
      rw [HN.out]
      simpa using h1
    obtain ⟨aol, capl, hlv⟩ := owns_form HLV.out
    rw [hfl] at hlv
    subst hlv
    have HFL := Lib.hid hfl
    have HRE := Lib.hid hre
    have c1 := cell_of_row _ _ 0 _ _ _ KB1.out
    clear hfl hre
    gi_wp2_with (fail)
    clear c1
    gi_loopw [36] (fun i wr => ∃ k : Nat, k ≤ n ∧ i = .int .i64 (k : Int) ∧ Hid (SI w W7 ps fs k wr)) (fun i _ => n - (intOf i).toNat)
    case atStart => exact ⟨0, by omega, rfl, LW7.out, (fun j _ _ => rfl), Nat.le_refl _⟩
    case round =>
      obtain ⟨k, hk, rfl, HS⟩ := hrel
      have hnm : n ≤ 1000 := by rw [HN.out]; exact HPL.out
      by_cases hlt : k < n
      · have hkx : k < ps.length := by have := HN.out; omega
        obtain ⟨g1, cap1', hv1, hg1, hl1, hrow1⟩ := plc_row HO1.out (by omega)
        injection hv1 with hv1 hv1n hv1c
        subst hv1 hv1c
        clear hv1n
        obtain ⟨g2, capl', hv2, hg2, hl2, hrow2⟩ := fld_row HLV.out (by have := HFL.out; omega)
        injection hv2 with hv2 hv2n hv2c
        subst hv2 hv2c
        clear hv2n
        have hSW := SW7.out
        have same1 : wr.heap[g1]? = W7.heap[g1]? := HS.out.hi g1 (by omega) hl1
        have same2 : wr.heap[g2]? = W7.heap[g2]? := HS.out.hi g2 (by omega) hl2
        obtain ⟨p, hp⟩ : ∃ p, p = ps.getD k nilP := ⟨_, rfl⟩
        obtain ⟨f, hf⟩ : ∃ f, f = fs.getD k nilF := ⟨_, rfl⟩
        obtain ⟨ht1, cs, t, ht2, ht3⟩ := HTG.out k hkx
        rw [← hp] at ht1 ht2 ht3
        have hbl := (Array.getElem?_eq_some_iff.1 ht2).1
        obtain ⟨cs', hs1, hs2⟩ := setsW_at ((ps.zip fs).take k) w _ _ _ ht2
        have hr1 : ∀ j u, p.cells[j]? = some u → wr.cell? ⟨g1, k * 5 + j, none⟩ = some u := fun j u hu => (cell_same same1).trans (hrow1 k p (by rw [hp]; exact getP hkx) j u hu)
        have hr2 : ∀ j u, f.cells[j]? = some u → wr.cell? ⟨g2, k * 4 + j, none⟩ = some u := fun j u hu => (cell_same same2).trans (hrow2 k f (by rw [hf, List.getD_eq_getElem?_getD, List.getElem?_eq_getElem (by have := HFL.out; omega)]; rfl) j u hu)
        obtain ⟨x0, h0x⟩ : ∃ x, x = (if p.sort = 0 then some (⟨p.b, p.o, none⟩ : Addr) else none) := ⟨_, rfl⟩
        obtain ⟨x1, h1x⟩ : ∃ x, x = (if p.sort = 1 then some (⟨p.b, p.o, none⟩ : Addr) else none) := ⟨_, rfl⟩
        obtain ⟨x2, h2x⟩ : ∃ x, x = (if p.sort = 2 then some (⟨p.b, p.o, none⟩ : Addr) else none) := ⟨_, rfl⟩
        obtain ⟨x3, h3x⟩ : ∃ x, x = (if p.sort = 3 then some (⟨p.b, p.o, none⟩ : Addr) else none) := ⟨_, rfl⟩
        obtain ⟨kd, hkd⟩ : ∃ x, x = p.kind := ⟨_, rfl⟩
        have hcs : p.cells = [.int .i64 kd, .pointer x0, .pointer x1, .pointer x2, .pointer x3] := by unfold Plc.cells Plc.ptr; rw [h0x, h1x, h2x, h3x, hkd]
        have hpv : p.val = .agg #[.int .i64 kd, .pointer x0, .pointer x1, .pointer x2, .pointer x3] := by unfold Plc.val; rw [hcs]
        rw [hcs] at hr1
        obtain ⟨fk, hfk⟩ : ∃ x, x = f.kind := ⟨_, rfl⟩
        obtain ⟨fn, hfn⟩ : ∃ x, x = f.num := ⟨_, rfl⟩
        obtain ⟨ft, hft⟩ : ∃ x : ByteArray, x = ⟨f.text.toArray⟩ := ⟨_, rfl⟩
        obtain ⟨fb, hfb⟩ : ∃ x, x = f.is_ := ⟨_, rfl⟩
        have hfc : f.cells = [.int .i64 fk, .int .i64 fn, .string ft, .bool fb] := by rw [hfk, hfn, hft, hfb]; rfl
        have hfv : f.val = .agg #[.int .i64 fk, .int .i64 fn, .string ft, .bool fb] := by rw [hfk, hfn, hft, hfb]; rfl
        rw [hfc] at hr2
        have c0 := hr1 0 _ rfl
        have c1 := hr1 1 _ rfl
        have c2 := hr1 2 _ rfl
        have c3 := hr1 3 _ rfl
        have c4 := hr1 4 _ rfl
        rw [Nat.add_zero] at c0
        have e0 := hr2 0 _ rfl
        have e1 := hr2 1 _ rfl
        have e2 := hr2 2 _ rfl
        have e3 := hr2 3 _ rfl
        rw [Nat.add_zero] at e0
        have hki : 0 ≤ (k : Int) ∧ (k : Int) < (n : Int) := by omega
        obtain ⟨bw, ku⟩ := new_block wr (.cells #[.int .i64 kd, .pointer x0, .pointer x1, .pointer x2, .pointer x3] 106)
        have hwl : w.heap.size ≤ wr.heap.size := by have := HS.out.low.size; rw [setsW_size] at this; exact this
        have h7 := HS.out.sz
        have hset : ∀ W, Below (wr.alloc (.cells #[.int .i64 kd, .pointer x0, .pointer x1, .pointer x2, .pointer x3] 106)).heap.size (wr.alloc (.cells #[.int .i64 kd, .pointer x0, .pointer x1, .pointer x2, .pointer x3] 106)) W → Calls Tryd.prog 78 #[.agg #[.int .i64 kd, .pointer x0, .pointer x1, .pointer x2, .pointer x3], .agg #[.int .i64 fk, .int .i64 fn, .string ft, .bool fb]] W fun e w' => (∃ v, e = .returned v) ∧ Below (wr.alloc (.cells #[.int .i64 kd, .pointer x0, .pointer x1, .pointer x2, .pointer x3] 106)).heap.size ((wr.alloc (.cells #[.int .i64 kd, .pointer x0, .pointer x1, .pointer x2, .pointer x3] 106)).setCell ⟨p.b, p.o, none⟩ (p.cellOf f)) w' := by
          intro W hb
          have hat : (wr.alloc (.cells #[.int .i64 kd, .pointer x0, .pointer x1, .pointer x2, .pointer x3] 106)).heap[p.b]? = some (.cells cs' t (0, 0)) := (bw.block _ (by omega)).trans ((HS.out.low.block _ hbl).trans hs1)
          have h1 := set_any p f cs' t W ht1 (stays hat hb) (by rw [hs2]; exact ht3)
          rw [hpv, hfv] at h1
          refine h1.mono ?_
          rintro e w' ⟨h2, h3⟩
          exact ⟨h2, (below_set hb hat).trans (h3.mono hb.size)⟩
        have HSET := Lib.hid hset
        have HBW := Lib.hid bw
        have HKU := Lib.hid ku
        have HP := Lib.hid hp
        have HF := Lib.hid hf
        have HS1 := Lib.hid hs1
        have HBL := Lib.hid hbl
        have HE := Lib.hid (And.intro e0 (And.intro e1 (And.intro e2 e3)))
        have HG2 : Hid (g2 < wr.heap.size) := by show _ < _; omega
        clear hset bw ku hp hf hs1 hbl e0 e1 e2 e3 hr1 hr2 hcs hpv hfc hfv h0x h1x h2x h3x hkd hfk hfn hft hfb hs2 ht1 ht2 ht3 same1 same2 hg1 hl1 hrow1 hg2 hl2 hrow2 hkx hwl h7 hSW
        gi_wp2_with (fail)
        obtain ⟨wb, hwb⟩ : ∃ W, W = wr.alloc (.cells #[.int .i64 kd, .pointer x0, .pointer x1, .pointer x2, .pointer x3] 106) := ⟨_, rfl⟩
        rw [← hwb] at HSET HBW HKU ⊢
        obtain ⟨ub, hub⟩ : ∃ b, b = wr.heap.size := ⟨_, rfl⟩
        rw [← hub] at HKU
        simp only [← hub]
        clear hwb hub c0 c1 c2 c3 c4
        refine wpIn_flowM (F0 := Fence.wide) (n0 := _) (fun _ => trivial) (fun h => by cases h) (by kernel_rfl) (by kernel_rfl) 6 6 (by kernel_rfl) (fun j => ([0, 1, 2, 3, 4, 5] : List Nat).getD j 0) (fun j => ([41, 42, 43, 44, 45, 46] : List Nat).getD j 0) (by kernel_rfl) (by kernel_rfl) (by kernel_rfl) (by kernel_rfl) (by kernel_rfl) (by kernel_rfl) (by kernel_rfl) (fun j zv => ([(fun zv => zv = (.agg #[.int .i64 kd, .pointer x0, .pointer x1, .pointer x2, .pointer x3])), (fun zv => zv = (.slice (some ⟨g2, 0, none⟩) n capl)), (fun zv => zv = (.int .i64 (k : Int))), (fun zv => zv = (.pointer (some ⟨g2, k * 4, none⟩))), (fun zv => zv = (.agg #[.int .i64 fk, .int .i64 fn, .string ft, .bool fb])), (fun _ => True)] : List (Value → Prop)).getD j (fun _ => True) zv) (fun d _ W => (d 5 = false → Below wb.heap.size wb W) ∧ (d 5 = true → Below wb.heap.size (wb.setCell ⟨p.b, p.o, none⟩ (p.cellOf f)) W) ∧ (d 5 = true → d 0 = true ∧ d 4 = true)) ?h0s ?steps ?fins
        case h0s => exact fun vs => ⟨fun _ => (Below.refl _ _).drew, (fun h => by cases h), (fun h => by cases h)⟩
        case steps =>
          intro i o a W d vs hi ho hdi hJ hf hr hF
          replace hi : i < 6 := hi
          rcases (show i = 0 ∨ i = 1 ∨ i = 2 ∨ i = 3 ∨ i = 4 ∨ i = 5 by omega) with rfl | rfl | rfl | rfl | rfl | rfl
          · replace ho := op_at ho (by rfl)
            subst ho
            have f13 : a.tmps.getD 13 undef = (.pointer (some ⟨ub, 0, none⟩)) := hf 13 (by kernel_rfl)
            have h5 : d 5 = false := by cases h : d 5 with | false => rfl | true => have h1 := hJ.2.2 h; rw [hdi] at h1; cases h1.1
            have hk := stays HKU.out (hJ.1 h5)
            have c0 := cell_of_row _ _ 0 _ _ _ hk
            have c1 := cell_of_row _ _ 1 _ _ _ hk
            have c2 := cell_of_row _ _ 2 _ _ _ hk
            have c3 := cell_of_row _ _ 3 _ _ _ hk
            have c4 := cell_of_row _ _ 4 _ _ _ hk
            exact .inl ⟨(fun k b h => by cases h), .inl ⟨0, by decide, rfl, (.agg #[.int .i64 kd, .pointer x0, .pointer x1, .pointer x2, .pointer x3]), W, (by simp [go_sem, Act.eval, f13, c0, c1, c2, c3, c4]), rfl, ⟨hJ.1, hJ.2.1, fun h => ⟨rfl, (hJ.2.2 h).2⟩⟩⟩⟩
          · replace ho := op_at ho (by rfl)
            subst ho
            have f9 : a.tmps.getD 9 undef = (.slice (some ⟨g2, 0, none⟩) n capl) := hf 9 (by kernel_rfl)
            exact .inl ⟨(fun k b h => by cases h), .inl ⟨1, by decide, rfl, (.slice (some ⟨g2, 0, none⟩) n capl), W, (by simp [go_sem, Act.eval, f9]), rfl, hJ⟩⟩
          · replace ho := op_at ho (by rfl)
            subst ho
            have f12 : a.tmps.getD 12 undef = (.int .i64 (k : Int)) := hf 12 (by kernel_rfl)
            exact .inl ⟨(fun k b h => by cases h), .inl ⟨2, by decide, rfl, (.int .i64 (k : Int)), W, (by simp [go_sem, Act.eval, f12]), rfl, hJ⟩⟩
          · replace ho := op_at ho (by rfl)
            subst ho
            have d1 : a.tmps.getD 42 undef = (.slice (some ⟨g2, 0, none⟩) n capl) := by have h1 := hF 1 (by decide) (hr 1 (by kernel_rfl)); exact h1.2.trans h1.1
            have d2 : a.tmps.getD 43 undef = (.int .i64 (k : Int)) := by have h1 := hF 2 (by decide) (hr 2 (by kernel_rfl)); exact h1.2.trans h1.1
            exact .inl ⟨(fun k b h => by cases h), .inl ⟨3, by decide, rfl, (.pointer (some ⟨g2, k * 4, none⟩)), W, (by simp [go_sem, Act.eval, d1, d2, hki]), rfl, hJ⟩⟩
          · replace ho := op_at ho (by rfl)
            subst ho
            have d3 : a.tmps.getD 44 undef = (.pointer (some ⟨g2, k * 4, none⟩)) := by have h1 := hF 3 (by decide) (hr 3 (by kernel_rfl)); exact h1.2.trans h1.1
            have h5 : d 5 = false := by cases h : d 5 with | false => rfl | true => have h1 := hJ.2.2 h; rw [hdi] at h1; cases h1.2
            have hlo := HBW.out.trans ((hJ.1 h5).mono HBW.out.size)
            have e0 := (hlo.cell (p := ⟨g2, k * 4, none⟩) HG2.out).trans HE.out.1
            have e1 := (hlo.cell (p := ⟨g2, k * 4 + 1, none⟩) HG2.out).trans HE.out.2.1
            have e2 := (hlo.cell (p := ⟨g2, k * 4 + 2, none⟩) HG2.out).trans HE.out.2.2.1
            have e3 := (hlo.cell (p := ⟨g2, k * 4 + 3, none⟩) HG2.out).trans HE.out.2.2.2
            exact .inl ⟨(fun k b h => by cases h), .inl ⟨4, by decide, rfl, (.agg #[.int .i64 fk, .int .i64 fn, .string ft, .bool fb]), W, (by simp [go_sem, Act.eval, d3, e0, e1, e2, e3]), rfl, ⟨hJ.1, hJ.2.1, fun h => ⟨(hJ.2.2 h).1, rfl⟩⟩⟩⟩
          · replace ho := op_at ho (by rfl)
            subst ho
            have d0 : a.tmps.getD 41 undef = (.agg #[.int .i64 kd, .pointer x0, .pointer x1, .pointer x2, .pointer x3]) := by have h1 := hF 0 (by decide) (hr 0 (by kernel_rfl)); exact h1.2.trans h1.1
            have d4 : a.tmps.getD 45 undef = (.agg #[.int .i64 fk, .int .i64 fn, .string ft, .bool fb]) := by have h1 := hF 4 (by decide) (hr 4 (by kernel_rfl)); exact h1.2.trans h1.1
            have t0 : d 0 = true := hr 0 (by kernel_rfl)
            have t4 : d 4 = true := hr 4 (by kernel_rfl)
            refine .inl ⟨(fun k b h => by cases h), .inr (.inr ⟨5, by decide, rfl, 78, #[(.agg #[.int .i64 kd, .pointer x0, .pointer x1, .pointer x2, .pointer x3]), (.agg #[.int .i64 fk, .int .i64 fn, .string ft, .bool fb])], W, (by simp [go_sem, Act.eval, d0, d4]), ?_⟩)⟩
            refine (callsIn_wide.2 (HSET.out W (hJ.1 hdi))).mono ?_
            rintro e W' ⟨⟨x, rfl⟩, hBe⟩
            exact ⟨x, rfl, trivial, (fun h => by cases h), (fun _ => hBe), fun _ => ⟨t0, t4⟩⟩
        case fins =>
          intro d vs Ws hall hJ hF
          have h0 : vs 0 = (.agg #[.int .i64 kd, .pointer x0, .pointer x1, .pointer x2, .pointer x3]) := hF 0 (by decide)
          have h1 : vs 1 = (.slice (some ⟨g2, 0, none⟩) n capl) := hF 1 (by decide)
          have h2 : vs 2 = (.int .i64 (k : Int)) := hF 2 (by decide)
          have h3 : vs 3 = (.pointer (some ⟨g2, k * 4, none⟩)) := hF 3 (by decide)
          have h4 : vs 4 = (.agg #[.int .i64 fk, .int .i64 fn, .string ft, .bool fb]) := hF 4 (by decide)
          have h5 : (fun _ => True) (vs 5) := hF 5 (by decide)
          clear hF
          have hfin := hJ.2.1 (hall 5 (by decide))
          clear hJ hall h5
          show (_ : Exit → Act → World → Prop) Exit.normal (puts _ vs 6 _) Ws
          simp only [puts, h0, h1, h2, h3, h4, List.getD_cons_zero, List.getD_cons_succ]
          clear h0 h1 h2 h3 h4
          have HS2 := Lib.hid (HS.out.step (by have := HN.out; omega) (by have := HN.out; have := HFL.out; omega) HBW.out _ _ (by rw [← HP.out]; exact HS1.out) (by rw [← HP.out]; exact HBL.out) (by rw [← HP.out, ← HF.out]; exact hfin))
          clear hfin HSET HBW HKU HS1 HBL HE HG2
          go_simp
          gi_wp2_with (fail)
          go_roundw
          case rel => exact ⟨k + 1, by omega, by go_num, HS2⟩
          case measure => simp [intOf] <;> omega
      · have hkn : ¬ ((k : Int) < (n : Int)) := by omega
        have hke : k = n := by omega
        have hz : (ps.zip fs).take k = ps.zip fs := List.take_of_length_le (by rw [List.length_zip]; have := HN.out; have := HFL.out; omega)
        have hlow := HS.out.low
        rw [hz] at hlow
        have hD9 : wr.heap[D]? = some (.deferred (some [])) := (HS.out.hi D HDN.out (Array.getElem?_eq_some_iff.1 HD7.out).1).trans HD7.out
        have HD9 := Lib.hid hD9
        have HLOW := Lib.hid hlow
        clear hlt hke hz hlow hD9 hk
        gi_wp2_with (fail)
        have hdd : Below w.heap.size (setsW w (ps.zip fs)) (wr.putObj D (.deferred none)) := HLOW.out.grown (grownBy_putObj' wr D _) (by have := HLOW.out.size; rw [setsW_size] at this; exact this) (fun k e => by cases e; exact HDN.out)
        exact marks_ret1 rfl HD9.out (v := .tuple #[.int .i64 (rn : Nat), .bool true]) (by simp [results, Tryd.results69, go_sem]) (.inr ⟨HRE.out, rfl, hdd⟩)
  case stop => exact fun D c pre W _ h _ _ => h.elim

end Go.Proofs.YtgnpjenpehfjbaaDoor

