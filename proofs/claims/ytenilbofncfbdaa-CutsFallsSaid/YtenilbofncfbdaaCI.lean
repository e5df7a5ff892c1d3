/- Cuts: the search in depth: sizes and bounds on its way: plain. No program here.
Cuts: the search in depth, walked (by program: wip/tools/gen_cv1.py). -/
import Derived.Test.YtenilbofncfbdaaCA
import Derived.Test.YtenilbofncfbdaaCE
set_option linter.unusedSimpArgs false
set_option linter.unusedVariables false
namespace Go.Proofs.Ytenilbofncfbdaa

/-- the rows' lengths; the clock is no more than the nodes met -/
structure DW (n m : Nat) (s : Ds) : Prop where
  ml : s.met.length = n
  ll : s.low.length = n
  bl : s.br.length = m
  jl : s.jo.length = n
  ck : s.clock + unmet s n ≤ n
/-- the search goes on -/
def Vle (s s' : Ds) : Prop := ∀ x, vis s x → vis s' x
theorem Vle.refl (s : Ds) : Vle s s := fun _ h => h
theorem Vle.trans {s s' s'' : Ds} (h : Vle s s') (g : Vle s' s'') : Vle s s'' := fun x hx => g x (h x hx)
theorem enter_vle (s : Ds) (v : Nat) : Vle s (enterD s v) := by
  intro x hx
  unfold vis enterD at *
  by_cases e : x = v
  · subst e
    by_cases hl : x < s.met.length
    · rw [getD_set_same _ _ _ _ hl]; omega
    · rw [List.set_eq_of_length_le (by omega)]; exact hx
  · rw [getD_set_other _ _ _ _ _ (Ne.symm e)]; exact hx
theorem enter_vis {s : Ds} {v : Nat} (h : v < s.met.length) : vis (enterD s v) v := by
  show 0 < (s.met.set v (s.clock + 1)).getD v 0
  rw [getD_set_same _ _ _ _ h]
  omega
theorem enter_dw {n m : Nat} {s : Ds} {v : Nat} (h : DW n m s) (hv : v < n) (hno : ¬ vis s v) : DW n m (enterD s v) ∧ unmet (enterD s v) n < unmet s n := by
  have h1 := unmet_lt (enter_vle s v) hv hno (enter_vis (by rw [h.ml]; exact hv))
  refine ⟨⟨by simpa [enterD] using h.ml, by simpa [enterD] using h.ll, h.bl, h.jl, ?_⟩, h1⟩
  have := h.ck
  show s.clock + 1 + unmet (enterD s v) n ≤ n
  omega
/-- one neighbour -/
theorem step_dw {n m f : Nat} {rec : Nat → Int → Ds → Ds × Nat} (hrec : ∀ (s : Ds) (u : Nat) (k : Int), DW n m s → u < n → ¬ vis s u → unmet s n ≤ f → DW n m (rec u k s).1 ∧ Vle s (rec u k s).1) {v : Nat} {by_ : Int} {acc : Ds × Nat} {x : Nat × Nat} (h : DW n m acc.1) (hu : unmet acc.1 n ≤ f) (hx : x.1 < n) :
    DW n m (stepD rec v by_ acc x).1 ∧ Vle acc.1 (stepD rec v by_ acc x).1 ∧ unmet (stepD rec v by_ acc x).1 n ≤ f := by
  have key : DW n m (stepD rec v by_ acc x).1 ∧ Vle acc.1 (stepD rec v by_ acc x).1 := by
    unfold stepD
    by_cases h1 : (x.2 : Int) = by_
    · rw [if_pos h1]; exact ⟨h, Vle.refl _⟩
    · rw [if_neg h1]
      by_cases h2 : 0 < acc.1.met.getD x.1 0
      · rw [if_pos h2]
        exact ⟨⟨h.ml, by simpa using h.ll, h.bl, h.jl, h.ck⟩, fun y hy => hy⟩
      · rw [if_neg h2]
        obtain ⟨a, b⟩ := hrec acc.1 x.1 (x.2 : Int) h hx h2 hu
        refine ⟨⟨a.ml, by simpa [childD] using a.ll, by simpa [childD] using a.bl, ?_, a.ck⟩, b⟩
        unfold childD
        show (if _ then _ else _ : List Bool).length = n
        split
        · simpa using a.jl
        · exact a.jl
  exact ⟨key.1, key.2, Nat.le_trans (unmet_le key.2) hu⟩
theorem fold_dw {n m f : Nat} {rec : Nat → Int → Ds → Ds × Nat} (hrec : ∀ (s : Ds) (u : Nat) (k : Int), DW n m s → u < n → ¬ vis s u → unmet s n ≤ f → DW n m (rec u k s).1 ∧ Vle s (rec u k s).1) {v : Nat} {by_ : Int} : ∀ (l : List (Nat × Nat)) (acc : Ds × Nat), (∀ x ∈ l, x.1 < n) → DW n m acc.1 → unmet acc.1 n ≤ f →
    DW n m (l.foldl (stepD rec v by_) acc).1 ∧ Vle acc.1 (l.foldl (stepD rec v by_) acc).1 ∧ unmet (l.foldl (stepD rec v by_) acc).1 n ≤ f := by
  intro l
  induction l with
  | nil => intro acc _ h hu; exact ⟨h, Vle.refl _, hu⟩
  | cons x r ih =>
    intro acc hl h hu
    obtain ⟨a, b, c⟩ := step_dw hrec (v := v) (by_ := by_) h hu (hl x List.mem_cons_self)
    obtain ⟨d, e, g⟩ := ih _ (fun y hy => hl y (List.mem_cons_of_mem _ hy)) a c
    exact ⟨d, b.trans e, g⟩
theorem visit_dw {L : Prs} {n m : Nat} (hf : FitL n L) : ∀ (f : Nat) (s : Ds) (v : Nat) (by_ : Int), DW n m s → v < n → ¬ vis s v → unmet s n ≤ f → DW n m (visitD L f v by_ s).1 ∧ Vle s (visitD L f v by_ s).1 := by
  intro f
  induction f with
  | zero => intro s v by_ _ hv hno hu; have := unmet_pos hv hno; omega
  | succ f ih =>
    intro s v by_ h hv hno hu
    obtain ⟨h1, h2⟩ := enter_dw h hv hno
    obtain ⟨a, b, -⟩ := fold_dw (f := f) (rec := visitD L f) (fun s u k h1 h2 h3 h4 => ih s u k h1 h2 h3 h4) (v := v) (by_ := by_) (nbF L v) (enterD s v, 0) (fun x hx => (edge_lt hf (mem_nb.1 hx)).1) h1 (by show unmet (enterD s v) n ≤ f; omega)
    exact ⟨a, (enter_vle s v).trans b⟩
/-- what holds within a visit, behind the neighbours pre -/
theorem pre_dw {L : Prs} {n m f : Nat} (hf : FitL n L) {s : Ds} {v : Nat} {by_ : Int} (h : DW n m s) (hv : v < n) (hno : ¬ vis s v) (hu : unmet s n ≤ f + 1) {pre rest : List (Nat × Nat)} (hsp : nbF L v = pre ++ rest) :
    DW n m (pre.foldl (stepD (visitD L f) v by_) (enterD s v, 0)).1 ∧ unmet (pre.foldl (stepD (visitD L f) v by_) (enterD s v, 0)).1 n ≤ f := by
  obtain ⟨h1, h2⟩ := enter_dw h hv hno
  obtain ⟨a, -, c⟩ := fold_dw (f := f) (rec := visitD L f) (fun s u k h1 h2 h3 h4 => visit_dw hf f s u k h1 h2 h3 h4) (v := v) (by_ := by_) pre (enterD s v, 0) (fun x hx => (edge_lt hf (mem_nb.1 (by rw [hsp]; exact List.mem_append_left _ hx))).1) h1 (by show unmet (enterD s v) n ≤ f; omega)
  exact ⟨a, c⟩
theorem fold_cnt {rec : Nat → Int → Ds → Ds × Nat} {v : Nat} {by_ : Int} : ∀ (l : List (Nat × Nat)) (acc : Ds × Nat), (l.foldl (stepD rec v by_) acc).2 ≤ acc.2 + l.length := by
  intro l
  induction l with
  | nil => intro acc; simp
  | cons x r ih =>
    intro acc
    refine Nat.le_trans (ih _) ?_
    have : (stepD rec v by_ acc x).2 ≤ acc.2 + 1 := by
      unfold stepD
      split
      · omega
      · split <;> simp
    simp only [List.length_cons]
    omega
theorem nb_len {L : Prs} {v : Nat} : (nbF L v).length ≤ 2 * L.length := by
  unfold nbF nbLo nbHi
  rw [List.length_append, List.length_map, List.length_map]
  have h1 := List.length_filter_le (fun x : (Nat × Nat) × Nat => x.1.2 == v) L.zipIdx
  have h2 := List.length_filter_le (fun x : (Nat × Nat) × Nat => x.1.1 == v) L.zipIdx
  rw [List.length_zipIdx] at h1 h2
  omega
theorem root_dw {L : Prs} {n : Nat} (hf : FitL n L) {s : Ds} {v : Nat} (hv : v < n) (h : DW n L.length s) : DW n L.length (rootD L n s v) := by
  unfold rootD
  by_cases h0 : s.met.getD v 0 = 0
  · rw [if_pos h0]
    have hno : ¬ vis s v := by unfold vis; omega
    obtain ⟨a, -⟩ := visit_dw hf (n + 1) s v (-1) h hv hno (by have := h.ck; omega)
    split
    · exact ⟨a.ml, a.ll, a.bl, by simpa using a.jl, a.ck⟩
    · exact a
  · rw [if_neg h0]; exact h
theorem start_dw (n m : Nat) : DW n m ⟨List.replicate n 0, List.replicate n 0, 0, List.replicate m false, List.replicate n false⟩ :=
  ⟨by simp, by simp, by simp, by simp, by
    show 0 + unmet _ n ≤ n
    unfold unmet
    have := List.length_filter_le (fun x => decide (¬ vis ⟨List.replicate n 0, List.replicate n 0, 0, List.replicate m false, List.replicate n false⟩ x)) (List.range n)
    rw [List.length_range] at this
    omega⟩

end Go.Proofs.Ytenilbofncfbdaa

namespace Go.Proofs.Ytenilbofncfbdaa
open Go.RowKit

attribute [local go_sem] Oper.semAt_some

/-- the search in memory: its record sb, its rows mb, qb, eb, jb, the boxes b2 (the search), b3 (the links), b4 (the function); the links lie below B -/
structure SW (B : Nat) (lv : Value) (n : Nat) (L : Prs) (sb mb qb eb jb b2 b3 b4 : Nat) (s : Ds) (W : World) : Prop where
 rc : W.heap[sb]? = some (.cells #[lv, .slice (some ⟨mb, 0, none⟩) n n, .slice (some ⟨qb, 0, none⟩) n n, .int .i64 (s.clock : Int), .slice (some ⟨eb, 0, none⟩) L.length L.length, .slice (some ⟨jb, 0, none⟩) n n] 62 (0, 0))
 met : RowI W mb (nI s.met)
 low : RowI W qb (nI s.low)
 br : RowB W eb s.br
 jo : RowB W jb s.jo
 x2 : W.heap[b2]? = some (.cells #[.pointer (some ⟨sb, 0, none⟩)] 59 (0, 0))
 x3 : W.heap[b3]? = some (.cells #[lv] 22 (0, 0))
 x4 : W.heap[b4]? = some (.cells #[.func (.func 48) #[] #[.pointer (some ⟨b2, 0, none⟩), .pointer (some ⟨b3, 0, none⟩), .pointer (some ⟨b4, 0, none⟩)]] 70 (0, 0))
 l : Lis W B lv L
 ge : B ≤ sb ∧ B ≤ mb ∧ B ≤ qb ∧ B ≤ eb ∧ B ≤ jb
 n1 : mb ≠ qb
 n2 : eb ≠ jb
 ml : s.met.length = n
 ll : s.low.length = n
 bl : s.br.length = L.length
 jl : s.jo.length = n
section
variable {B : Nat} {lv : Value} {n : Nat} {L : Prs} {sb mb qb eb jb b2 b3 b4 : Nat} {s : Ds} {W : World}
theorem SW.lt (h : SW B lv n L sb mb qb eb jb b2 b3 b4 s W) : sb < W.heap.size ∧ mb < W.heap.size ∧ qb < W.heap.size ∧ eb < W.heap.size ∧ jb < W.heap.size ∧ B ≤ W.heap.size := by
 have h1 := (Array.getElem?_eq_some_iff.1 h.rc).1
 exact ⟨h1, h.met.lt, h.low.lt, h.br.lt, h.jo.lt, by have := h.ge.1; omega⟩
theorem SW.of {W' : World} (h : SW B lv n L sb mb qb eb jb b2 b3 b4 s W) (hl : Below B W W') (hk : ∀ (k : Nat) (cs : Array Value) (ty : TypeId) (fr : Nat × Nat), W.heap[k]? = some (.cells cs ty fr) → W'.heap[k]? = W.heap[k]?) : SW B lv n L sb mb qb eb jb b2 b3 b4 s W' :=
 ⟨(hk _ _ _ _ h.rc).trans h.rc, h.met.of (hk _ _ _ _ h.met), h.low.of (hk _ _ _ _ h.low), h.br.of (hk _ _ _ _ h.br), h.jo.of (hk _ _ _ _ h.jo), (hk _ _ _ _ h.x2).trans h.x2, (hk _ _ _ _ h.x3).trans h.x3, (hk _ _ _ _ h.x4).trans h.x4, h.l.below hl (Nat.le_refl _), h.ge, h.n1, h.n2, h.ml, h.ll, h.bl, h.jl⟩
theorem SW.below {W' : World} (h : SW B lv n L sb mb qb eb jb b2 b3 b4 s W) (hb : Below W.heap.size W W') : SW B lv n L sb mb qb eb jb b2 b3 b4 s W' :=
 h.of (hb.mono h.lt.2.2.2.2.2) fun k _ _ _ hk => hb.block k (Array.getElem?_eq_some_iff.1 hk).1
theorem SW.put {l : Nat} {o o' : Obj} (h : SW B lv n L sb mb qb eb jb b2 b3 b4 s W) (hl : B ≤ l) (ho : W.heap[l]? = some o) (hc : o.isCells = false) : SW B lv n L sb mb qb eb jb b2 b3 b4 s (W.putObj l o') :=
 h.of ((Below.refl _ W).grown (grownBy_putObj' W l o') (by have := h.lt; omega) (fun k e => by cases e; omega)) fun k _ _ _ hk => (row_put o' hk ho hc).trans hk.symm
/-- a row's block is set: the other blocks -/
theorem SW.setMet {v x : Nat} (h : SW B lv n L sb mb qb eb jb b2 b3 b4 s W) : SW B lv n L sb mb qb eb jb b2 b3 b4 { s with met := s.met.set v x } (W.setCell ⟨mb, v, none⟩ (.int .i64 (x : Int))) := by
 have hm : W.heap[mb]? = some (.cells ((nI s.met).map intV).toArray 3 (0, 0)) := h.met
 have e : ∀ c, c ≠ mb → (W.setCell ⟨mb, v, none⟩ (.int .i64 (x : Int))).heap[c]? = W.heap[c]? := fun c h1 => Below.heap_setCell _ _ _ _ h1
 refine ⟨(e _ (blk_ne h.rc hm (by decide))).trans h.rc, ?_, h.low.of (e _ (Ne.symm h.n1)), h.br.of (e _ (blk_ne h.br hm (by decide))), h.jo.of (e _ (blk_ne h.jo hm (by decide))), (e _ (blk_ne h.x2 hm (by decide))).trans h.x2, (e _ (blk_ne h.x3 hm (by decide))).trans h.x3, (e _ (blk_ne h.x4 hm (by decide))).trans h.x4, h.l.below (bel_set h.ge.2.1 (Below.refl _ _)) (Nat.le_refl _), h.ge, h.n1, h.n2, by simpa using h.ml, h.ll, h.bl, h.jl⟩
 have := RowI.set h.met v (x : Int)
 rw [show (nI s.met).set v (x : Int) = nI (s.met.set v x) by simp [nI, List.map_set]] at this
 exact this
theorem SW.setLow {v x : Nat} (h : SW B lv n L sb mb qb eb jb b2 b3 b4 s W) : SW B lv n L sb mb qb eb jb b2 b3 b4 { s with low := s.low.set v x } (W.setCell ⟨qb, v, none⟩ (.int .i64 (x : Int))) := by
 have hm : W.heap[qb]? = some (.cells ((nI s.low).map intV).toArray 3 (0, 0)) := h.low
 have e : ∀ c, c ≠ qb → (W.setCell ⟨qb, v, none⟩ (.int .i64 (x : Int))).heap[c]? = W.heap[c]? := fun c h1 => Below.heap_setCell _ _ _ _ h1
 refine ⟨(e _ (blk_ne h.rc hm (by decide))).trans h.rc, h.met.of (e _ h.n1), ?_, h.br.of (e _ (blk_ne h.br hm (by decide))), h.jo.of (e _ (blk_ne h.jo hm (by decide))), (e _ (blk_ne h.x2 hm (by decide))).trans h.x2, (e _ (blk_ne h.x3 hm (by decide))).trans h.x3, (e _ (blk_ne h.x4 hm (by decide))).trans h.x4, h.l.below (bel_set h.ge.2.2.1 (Below.refl _ _)) (Nat.le_refl _), h.ge, h.n1, h.n2, h.ml, by simpa using h.ll, h.bl, h.jl⟩
 have := RowI.set h.low v (x : Int)
 rw [show (nI s.low).set v (x : Int) = nI (s.low.set v x) by simp [nI, List.map_set]] at this
 exact this
theorem SW.setBr {k : Nat} {x : Bool} (h : SW B lv n L sb mb qb eb jb b2 b3 b4 s W) : SW B lv n L sb mb qb eb jb b2 b3 b4 { s with br := s.br.set k x } (W.setCell ⟨eb, k, none⟩ (.bool x)) := by
 have hm : W.heap[eb]? = some (.cells (s.br.map Value.bool).toArray 4 (0, 0)) := h.br
 have e : ∀ c, c ≠ eb → (W.setCell ⟨eb, k, none⟩ (.bool x)).heap[c]? = W.heap[c]? := fun c h1 => Below.heap_setCell _ _ _ _ h1
 exact ⟨(e _ (blk_ne h.rc hm (by decide))).trans h.rc, h.met.of (e _ (blk_ne h.met hm (by decide))), h.low.of (e _ (blk_ne h.low hm (by decide))), RowB.set h.br k x, h.jo.of (e _ (Ne.symm h.n2)), (e _ (blk_ne h.x2 hm (by decide))).trans h.x2, (e _ (blk_ne h.x3 hm (by decide))).trans h.x3, (e _ (blk_ne h.x4 hm (by decide))).trans h.x4, h.l.below (bel_set h.ge.2.2.2.1 (Below.refl _ _)) (Nat.le_refl _), h.ge, h.n1, h.n2, h.ml, h.ll, by simpa using h.bl, h.jl⟩
theorem SW.setJo {v : Nat} (h : SW B lv n L sb mb qb eb jb b2 b3 b4 s W) : SW B lv n L sb mb qb eb jb b2 b3 b4 { s with jo := s.jo.set v true } (W.setCell ⟨jb, v, none⟩ (.bool true)) := by
 have hm : W.heap[jb]? = some (.cells (s.jo.map Value.bool).toArray 4 (0, 0)) := h.jo
 have e : ∀ c, c ≠ jb → (W.setCell ⟨jb, v, none⟩ (.bool true)).heap[c]? = W.heap[c]? := fun c h1 => Below.heap_setCell _ _ _ _ h1
 exact ⟨(e _ (blk_ne h.rc hm (by decide))).trans h.rc, h.met.of (e _ (blk_ne h.met hm (by decide))), h.low.of (e _ (blk_ne h.low hm (by decide))), h.br.of (e _ h.n2), RowB.set h.jo v true, (e _ (blk_ne h.x2 hm (by decide))).trans h.x2, (e _ (blk_ne h.x3 hm (by decide))).trans h.x3, (e _ (blk_ne h.x4 hm (by decide))).trans h.x4, h.l.below (bel_set h.ge.2.2.2.2 (Below.refl _ _)) (Nat.le_refl _), h.ge, h.n1, h.n2, h.ml, h.ll, h.bl, by simpa using h.jl⟩
theorem SW.setCk {x : Nat} (h : SW B lv n L sb mb qb eb jb b2 b3 b4 s W) : SW B lv n L sb mb qb eb jb b2 b3 b4 { s with clock := x } (W.setCell ⟨sb, 3, none⟩ (.int .i64 (x : Int))) := by
 have hm := h.rc
 have e : ∀ c, c ≠ sb → (W.setCell ⟨sb, 3, none⟩ (.int .i64 (x : Int))).heap[c]? = W.heap[c]? := fun c h1 => Below.heap_setCell _ _ _ _ h1
 refine ⟨?_, h.met.of (e _ (blk_ne h.met hm (by decide))), h.low.of (e _ (blk_ne h.low hm (by decide))), h.br.of (e _ (blk_ne h.br hm (by decide))), h.jo.of (e _ (blk_ne h.jo hm (by decide))), (e _ (blk_ne h.x2 hm (by decide))).trans h.x2, (e _ (blk_ne h.x3 hm (by decide))).trans h.x3, (e _ (blk_ne h.x4 hm (by decide))).trans h.x4, h.l.below (bel_set h.ge.1 (Below.refl _ _)) (Nat.le_refl _), h.ge, h.n1, h.n2, h.ml, h.ll, h.bl, h.jl⟩
 simp [World.setCell, Array.getElem?_modify, hm]
end
/-- the five blocks may have turned, no other -/
structure K5 (sb mb qb eb jb : Nat) (W W' : World) : Prop where
 size : W.heap.size ≤ W'.heap.size
 same : ∀ c, c < W.heap.size → c ≠ sb → c ≠ mb → c ≠ qb → c ≠ eb → c ≠ jb → W'.heap[c]? = W.heap[c]?
theorem K5.refl (sb mb qb eb jb : Nat) (W : World) : K5 sb mb qb eb jb W W := ⟨Nat.le_refl _, fun _ _ _ _ _ _ _ => rfl⟩
theorem K5.trans {sb mb qb eb jb : Nat} {W W' W'' : World} (h : K5 sb mb qb eb jb W W') (g : K5 sb mb qb eb jb W' W'') : K5 sb mb qb eb jb W W'' :=
 ⟨Nat.le_trans h.size g.size, fun c h0 h1 h2 h3 h4 h5 => (g.same c (Nat.lt_of_lt_of_le h0 h.size) h1 h2 h3 h4 h5).trans (h.same c h0 h1 h2 h3 h4 h5)⟩
theorem K5.below {sb mb qb eb jb : Nat} {W W' : World} (h : Below W.heap.size W W') : K5 sb mb qb eb jb W W' := ⟨h.size, fun c h0 _ _ _ _ _ => h.block c h0⟩
theorem K5.set {sb mb qb eb jb c i : Nat} {W : World} {x : Value} (h : c = sb ∨ c = mb ∨ c = qb ∨ c = eb ∨ c = jb) : K5 sb mb qb eb jb W (W.setCell ⟨c, i, none⟩ x) :=
 ⟨by simp, fun d _ h1 h2 h3 h4 h5 => Below.heap_setCell _ _ _ _ (by show d ≠ c; rintro rfl; rcases h with h | h | h | h | h <;> contradiction)⟩
theorem K5.others {B : Nat} {lv : Value} {n : Nat} {L : Prs} {sb mb qb eb jb b2 b3 b4 : Nat} {s : Ds} {W W' : World} (h : K5 sb mb qb eb jb W W') (hs : SW B lv n L sb mb qb eb jb b2 b3 b4 s W) : KeepsOthers W W' := by
 refine ⟨h.size, fun c o hc ho => (h.same c (Array.getElem?_eq_some_iff.1 hc).1 ?_ ?_ ?_ ?_ ?_).trans hc⟩
 ·rintro rfl; have := hs.rc; rw [hc] at this; cases this; simp [Obj.isCells] at ho
 ·rintro rfl; have : _ = _ := hs.met; rw [hc] at this; cases this; simp [Obj.isCells] at ho
 ·rintro rfl; have : _ = _ := hs.low; rw [hc] at this; cases this; simp [Obj.isCells] at ho
 ·rintro rfl; have : _ = _ := hs.br; rw [hc] at this; cases this; simp [Obj.isCells] at ho
 ·rintro rfl; have : _ = _ := hs.jo; rw [hc] at this; cases this; simp [Obj.isCells] at ho

theorem getN (l : List Nat) (i : Nat) : (nI l).getD i 0 = ((l.getD i 0 : Nat) : Int) := by
 by_cases h : i < l.length <;> simp [nI, List.getD, h]
theorem SW.aside {B : Nat} {lv : Value} {n : Nat} {L : Prs} {sb mb qb eb jb b2 b3 b4 : Nat} {s : Ds} {W : World} {c i : Nat} {x : Value} (h : SW B lv n L sb mb qb eb jb b2 b3 b4 s W) (hB : B ≤ c) (hc : c ≠ sb ∧ c ≠ mb ∧ c ≠ qb ∧ c ≠ eb ∧ c ≠ jb ∧ c ≠ b2 ∧ c ≠ b3 ∧ c ≠ b4) : SW B lv n L sb mb qb eb jb b2 b3 b4 s (W.setCell ⟨c, i, none⟩ x) := by
 have e : ∀ d, c ≠ d → (W.setCell ⟨c, i, none⟩ x).heap[d]? = W.heap[d]? := fun d h1 => Below.heap_setCell _ _ _ _ (Ne.symm h1)
 obtain ⟨h1, h2, h3, h4, h5, h6, h7, h8⟩ := hc
 exact ⟨(e _ h1).trans h.rc, h.met.of (e _ h2), h.low.of (e _ h3), h.br.of (e _ h4), h.jo.of (e _ h5), (e _ h6).trans h.x2, (e _ h7).trans h.x3, (e _ h8).trans h.x4, h.l.below (bel_set hB (Below.refl _ _)) (Nat.le_refl _), h.ge, h.n1, h.n2, h.ml, h.ll, h.bl, h.jl⟩
/-- the five blocks and one more may have turned, no other -/
structure K6 (sb mb qb eb jb p8 : Nat) (W W' : World) : Prop where
 size : W.heap.size ≤ W'.heap.size
 same : ∀ c, c < W.heap.size → c ≠ sb → c ≠ mb → c ≠ qb → c ≠ eb → c ≠ jb → c ≠ p8 → W'.heap[c]? = W.heap[c]?
theorem K5.six {sb mb qb eb jb p8 : Nat} {W W' : World} (h : K5 sb mb qb eb jb W W') : K6 sb mb qb eb jb p8 W W' := ⟨h.size, fun c h0 h1 h2 h3 h4 h5 _ => h.same c h0 h1 h2 h3 h4 h5⟩
theorem K6.trans {sb mb qb eb jb p8 : Nat} {W W' W'' : World} (h : K6 sb mb qb eb jb p8 W W') (g : K6 sb mb qb eb jb p8 W' W'') : K6 sb mb qb eb jb p8 W W'' :=
 ⟨Nat.le_trans h.size g.size, fun c h0 h1 h2 h3 h4 h5 h6 => (g.same c (Nat.lt_of_lt_of_le h0 h.size) h1 h2 h3 h4 h5 h6).trans (h.same c h0 h1 h2 h3 h4 h5 h6)⟩
theorem K6.set {sb mb qb eb jb p8 i : Nat} {W : World} {x : Value} : K6 sb mb qb eb jb p8 W (W.setCell ⟨p8, i, none⟩ x) :=
 ⟨by simp, fun d _ _ _ _ _ _ h6 => Below.heap_setCell _ _ _ _ h6⟩
/-- within a visit's rounds, behind the neighbours pre -/
structure VR (w : World) (B : Nat) (lv : Value) (n : Nat) (L : Prs) (sb mb qb eb jb b2 b3 b4 : Nat) (s : Ds) (v : Nat) (by_ : Int) (f p5 p6 p8 qn : Nat) (pre : List (Nat × Nat)) (W : World) : Prop where
 sw : SW B lv n L sb mb qb eb jb b2 b3 b4 (pre.foldl (stepD (visitD L f) v by_) (enterD s v, 0)).1 W
 x5 : W.heap[p5]? = some (.cells #[.int .i64 (v : Int)] 3 (0, 0))
 x6 : W.heap[p6]? = some (.cells #[.int .i64 by_] 3 (0, 0))
 x8 : W.heap[p8]? = some (.cells #[.int .i64 ((pre.foldl (stepD (visitD L f) v by_) (enterD s v, 0)).2 : Int)] 3 (0, 0))
 inv : InvN qn lv L v W
 low : Below B w W
 kp : K5 sb mb qb eb jb w W
 ge : w.heap.size ≤ p5 ∧ w.heap.size ≤ p6 ∧ w.heap.size ≤ p8 ∧ w.heap.size ≤ qn
 ne : p8 ≠ p5 ∧ p8 ≠ p6 ∧ p8 ≠ qn ∧ p8 ≠ qn + 1
 lt : sb < w.heap.size ∧ mb < w.heap.size ∧ qb < w.heap.size ∧ eb < w.heap.size ∧ jb < w.heap.size ∧ B ≤ w.heap.size
section
variable {w : World} {B : Nat} {lv : Value} {n : Nat} {L : Prs} {sb mb qb eb jb b2 b3 b4 : Nat} {s : Ds} {v : Nat} {by_ : Int} {f p5 p6 p8 qn : Nat} {pre : List (Nat × Nat)} {W : World}
theorem VR.below {W' : World} (h : VR w B lv n L sb mb qb eb jb b2 b3 b4 s v by_ f p5 p6 p8 qn pre W) (hb : Below W.heap.size W W') : VR w B lv n L sb mb qb eb jb b2 b3 b4 s v by_ f p5 p6 p8 qn pre W' :=
 ⟨h.sw.below hb, stays h.x5 hb, stays h.x6 hb, stays h.x8 hb, h.inv.below hb, h.low.trans (hb.mono h.sw.lt.2.2.2.2.2), h.kp.trans (K5.below hb), h.ge, h.ne, h.lt⟩
theorem VR.put {l : Nat} {o o' : Obj} (h : VR w B lv n L sb mb qb eb jb b2 b3 b4 s v by_ f p5 p6 p8 qn pre W) (hl : w.heap.size ≤ l) (ho : W.heap[l]? = some o) (hc : o.isCells = false) : VR w B lv n L sb mb qb eb jb b2 b3 b4 s v by_ f p5 p6 p8 qn pre (W.putObj l o') := by
 have hB := h.lt.2.2.2.2.2
 have hll := (Array.getElem?_eq_some_iff.1 ho).1
 exact ⟨h.sw.put (by omega) ho hc, row_put o' h.x5 ho hc, row_put o' h.x6 ho hc, row_put o' h.x8 ho hc, ⟨row_put o' h.inv.1 ho hc, row_put o' h.inv.2.1 ho hc, Lis.put h.inv.2.2 ho hc⟩, h.low.trans ((Below.refl _ W).grown (grownBy_putObj' W l o') (by omega) (fun k e => by cases e; omega)), ⟨Nat.le_trans h.kp.size (by simp [World.putObj]), fun c h0 h1 h2 h3 h4 h5 => (World.putObj_heap_other (by omega)).trans (h.kp.same c h0 h1 h2 h3 h4 h5)⟩, h.ge, h.ne, h.lt⟩
/-- one neighbour further -/
theorem VR.turn {W' : World} {x : Nat × Nat} (h : VR w B lv n L sb mb qb eb jb b2 b3 b4 s v by_ f p5 p6 p8 qn pre W) (hs : SW B lv n L sb mb qb eb jb b2 b3 b4 (stepD (visitD L f) v by_ (pre.foldl (stepD (visitD L f) v by_) (enterD s v, 0)) x).1 W') (hk : K6 sb mb qb eb jb p8 W W') (hb : Below B W W')
  (h8 : W'.heap[p8]? = some (.cells #[.int .i64 ((stepD (visitD L f) v by_ (pre.foldl (stepD (visitD L f) v by_) (enterD s v, 0)) x).2 : Int)] 3 (0, 0))) : VR w B lv n L sb mb qb eb jb b2 b3 b4 s v by_ f p5 p6 p8 qn (pre ++ [x]) W' := by
 have lt : ∀ {k : Nat} {o : Obj}, W.heap[k]? = some o → k < W.heap.size := fun hk => (Array.getElem?_eq_some_iff.1 hk).1
 have z := h.lt
 have g := h.ge
 have ne := h.ne
 have e : (pre ++ [x]).foldl (stepD (visitD L f) v by_) (enterD s v, 0) = stepD (visitD L f) v by_ (pre.foldl (stepD (visitD L f) v by_) (enterD s v, 0)) x := by rw [List.foldl_append]; rfl
 have same : ∀ {c : Nat} {o : Obj}, W.heap[c]? = some o → w.heap.size ≤ c → p8 ≠ c → W'.heap[c]? = some o := fun hc hw hp => (hk.same _ (lt hc) (by omega) (by omega) (by omega) (by omega) (by omega) (Ne.symm hp)).trans hc
 refine ⟨by rw [e]; exact hs, same h.x5 g.1 ne.1, same h.x6 g.2.1 ne.2.1, by rw [e]; exact h8, ⟨same h.inv.1 g.2.2.2 ne.2.2.1, same h.inv.2.1 (by omega) ne.2.2.2, hs.l.below (Below.refl _ _) hs.lt.2.2.2.2.2⟩, h.low.trans hb, ⟨Nat.le_trans h.kp.size hk.size, fun c h0 h1 h2 h3 h4 h5 => (hk.same c (Nat.lt_of_lt_of_le h0 h.kp.size) h1 h2 h3 h4 h5 (by omega)).trans (h.kp.same c h0 h1 h2 h3 h4 h5)⟩, g, ne, z⟩
theorem VR.others {W' : World} (h : VR w B lv n L sb mb qb eb jb b2 b3 b4 s v by_ f p5 p6 p8 qn pre W) (hk : K6 sb mb qb eb jb p8 W W') : KeepsOthers W W' := by
 have hs := h.sw
 refine ⟨hk.size, fun c o hc ho => (hk.same c (Array.getElem?_eq_some_iff.1 hc).1 ?_ ?_ ?_ ?_ ?_ ?_).trans hc⟩
 ·rintro rfl; have := hs.rc; rw [hc] at this; cases this; simp [Obj.isCells] at ho
 ·rintro rfl; have : _ = _ := hs.met; rw [hc] at this; cases this; simp [Obj.isCells] at ho
 ·rintro rfl; have : _ = _ := hs.low; rw [hc] at this; cases this; simp [Obj.isCells] at ho
 ·rintro rfl; have : _ = _ := hs.br; rw [hc] at this; cases this; simp [Obj.isCells] at ho
 ·rintro rfl; have : _ = _ := hs.jo; rw [hc] at this; cases this; simp [Obj.isCells] at ho
 ·rintro rfl; have := h.x8; rw [hc] at this; cases this; simp [Obj.isCells] at ho
end

set_option maxRecDepth 100000 in
set_option maxHeartbeats 8000000 in
theorem visit_any (B : Nat) (lv : Value) (n : Nat) (L : Prs) (sb mb qb eb jb b2 b3 b4 : Nat) (hf : FitL n L) (hn : n ≤ 16) (hL : L.length ≤ 1000) : ∀ (f : Nat) (w : World) (s : Ds) (v : Nat) (by_ : Int), SW B lv n L sb mb qb eb jb b2 b3 b4 s w → DW n L.length s → v < n → ¬ vis s v → unmet s n ≤ f → -1 ≤ by_ → by_ < 1000 →
  Calls Try.prog 48 #[.int .i64 (v : Int), .int .i64 by_, .pointer (some ⟨b2, 0, none⟩), .pointer (some ⟨b3, 0, none⟩), .pointer (some ⟨b4, 0, none⟩)] w fun e w' => e = .returned (.int .i64 ((visitD L f v by_ s).2 : Int)) ∧ SW B lv n L sb mb qb eb jb b2 b3 b4 (visitD L f v by_ s).1 w' ∧ Below B w w' ∧ K5 sb mb qb eb jb w w' := by
 intro f
 induction f with
 | zero => intro w s v by_ _ _ hv hno hu; have := unmet_pos hv hno; omega
 | succ f ih =>
  intro w s v by_ hsw hdw hv hno hu hb1 hb2
  have IH := Lib.hid ih
  clear ih
  have HF := Lib.hid hf
  have HDW := Lib.hid hdw
  have HNO := Lib.hid hno
  have HUN := Lib.hid hu
  have HV := Lib.hid hv
  obtain ⟨m, hm⟩ : ∃ m, m = L.length := ⟨_, rfl⟩
  have HM := Lib.hid hm
  rw [← hm] at hL
  have hvn : 0 ≤ (v : Int) ∧ (v : Int) < (n : Int) := by omega
  have hck : s.clock ≤ 16 := by have := hdw.ck; omega
  have cx2 := cell_of_row _ _ 0 _ _ _ hsw.x2
  have cr3 := cell_of_row _ _ 3 _ _ _ hsw.rc
  have fr3 := frozen_of_row _ _ 3 _ _ hsw.rc
  have hb2l : b2 < w.heap.size := (Array.getElem?_eq_some_iff.1 hsw.x2).1
  have hsbl : sb < w.heap.size := (Array.getElem?_eq_some_iff.1 hsw.rc).1
  obtain ⟨ck, hckv⟩ : ∃ ck, ck = s.clock := ⟨_, rfl⟩
  rw [← hckv] at hck cr3
  have HCK := Lib.hid hckv
  have HIN : Hid (-1 ≤ by_ ∧ by_ < 1000) := ⟨hb1, hb2⟩
  have HSW := Lib.hid hsw
  have HLT := Lib.hid hsw.lt
  clear hsw hdw hno hu hf hckv hb1 hb2
  refine (callsIn_wide (n := 5)).1 ?_
  refine callsIn_of_wp_marks Try.func48 rfl trivial ?_ rfl
  simp only [Try.ntmps48, List.size_toArray, List.length_cons, List.length_nil, Nat.reduceAdd, Nat.reduceSub, Array.replicate_succ, Array.replicate_zero, List.push_toArray, List.append_toArray, List.nil_append, List.cons_append]
  gi_wp2_with (fail)
  obtain ⟨c1, hc1⟩ : ∃ c1, c1 = ck + 1 := ⟨_, rfl⟩
  rw [show (ck : Int) + 1 = (c1 : Int) by omega]
  have hz0 : (w.setCell ⟨sb, 3, none⟩ (.int .i64 (c1 : Int))).heap.size = w.heap.size := by simp
  have m1 := new_block (w.setCell ⟨sb, 3, none⟩ (.int .i64 (c1 : Int))) (.cells #[.int .i64 (v : Int)] 3)
  have m2 := new_block ((w.setCell ⟨sb, 3, none⟩ (.int .i64 (c1 : Int))).alloc (.cells #[.int .i64 (v : Int)] 3)) (.cells #[.int .i64 by_] 3)
  simp only [World.size_alloc, hz0] at m1 m2
  obtain ⟨W1, hW1⟩ : ∃ W, W = ((w.setCell ⟨sb, 3, none⟩ (.int .i64 (c1 : Int))).alloc (.cells #[.int .i64 (v : Int)] 3)).alloc (.cells #[.int .i64 by_] 3) := ⟨_, rfl⟩
  have z1 : W1.heap.size = w.heap.size + 2 := by rw [hW1]; simp
  rw [← hW1] at m2 ⊢
  have mm := m1.1.trans (m2.1.mono (Nat.le_succ _))
  have hsw1 : SW B lv n L sb mb qb eb jb b2 b3 b4 { s with clock := c1 } W1 := HSW.out.setCk.below (by rw [hz0]; exact mm)
  have hk1 : K5 sb mb qb eb jb w W1 := (K5.set (.inl rfl)).trans (K5.below (by rw [hz0]; exact mm))
  have hb1 : Below B w W1 := (bel_set HSW.out.ge.1 (Below.refl _ _)).trans (mm.mono HLT.out.2.2.2.2.2)
  have hx5 : W1.heap[w.heap.size]? = some (.cells #[.int .i64 (v : Int)] 3 (0, 0)) := (m2.1.block _ (Nat.lt_succ_self _)).trans m1.2
  have hx6 : W1.heap[w.heap.size + 1]? = some (.cells #[.int .i64 by_] 3 (0, 0)) := m2.2
  obtain ⟨p5, hp5⟩ : ∃ q, q = w.heap.size := ⟨_, rfl⟩
  obtain ⟨p6, hp6⟩ : ∃ q, q = p5 + 1 := ⟨_, rfl⟩
  rw [← hp5] at hx5 hx6 ⊢
  rw [← hp6] at hx6 ⊢
  have HPS : Hid (w.heap.size ≤ p5 ∧ w.heap.size ≤ p6 ∧ p5 < W1.heap.size ∧ p6 < W1.heap.size) := ⟨by omega, by omega, by omega, by omega⟩
  have hnp : p5 ≠ mb ∧ p5 ≠ qb ∧ p6 ≠ mb ∧ p6 ≠ qb := by have := HLT.out; omega
  have HSW1 := Lib.hid hsw1
  have HK1 := Lib.hid hk1
  have HB1 := Lib.hid hb1
  have HX5 := Lib.hid hx5
  have HX6 := Lib.hid hx6
  have HNP := Lib.hid hnp
  have HC1 : Hid (c1 = s.clock + 1) := by show _ = _; rw [hc1, HCK.out]
  have hml : s.met.length = n := HSW.out.ml
  have hll : s.low.length = n := HSW.out.ll
  clear m1 m2 mm hsw1 hk1 hb1 hx5 hx6 hnp hz0 hW1 z1 hp5 hp6 hc1 cx2 cr3 fr3 hb2l hsbl HSW
  refine wpIn_flowM (F0 := Fence.wide) (n0 := 5) (fun _ => trivial) (fun h => by cases h) (by kernel_rfl) (by kernel_rfl) 22 20 (by kernel_rfl) (fun j => ([0, 1, 2, 3, 4, 5, 6, 7, 8, 9, 10, 11, 12, 13, 14, 15, 16, 17, 18, 20] : List Nat).getD j 0) (fun j => ([18, 19, 20, 21, 22, 23, 24, 25, 26, 27, 28, 29, 30, 31, 32, 33, 34, 35, 36, 37] : List Nat).getD j 0) (by kernel_rfl) (by kernel_rfl) (by kernel_rfl) (by kernel_rfl) (by kernel_rfl) (by kernel_rfl) (by kernel_rfl) (fun j zv => ([(fun zv => zv = (.pointer (some ⟨sb, 0, none⟩))), (fun zv => zv = (.pointer (some ⟨sb, 0, none⟩))), (fun zv => zv = (.pointer (some ⟨sb, 1, none⟩))), (fun zv => zv = (.slice (some ⟨mb, 0, none⟩) n n)), (fun zv => zv = (.int .i64 (v : Int))), (fun zv => zv = (.pointer (some ⟨sb, 0, none⟩))), (fun zv => zv = (.pointer (some ⟨sb, 0, none⟩))), (fun zv => zv = (.pointer (some ⟨sb, 2, none⟩))), (fun zv => zv = (.slice (some ⟨qb, 0, none⟩) n n)), (fun zv => zv = (.int .i64 (v : Int))), (fun zv => zv = (.pointer (some ⟨sb, 0, none⟩))), (fun zv => zv = (.pointer (some ⟨sb, 0, none⟩))), (fun zv => zv = (.pointer (some ⟨sb, 3, none⟩))), (fun zv => zv = (.int .i64 (c1 : Int))), (fun zv => zv = (.pointer (some ⟨sb, 0, none⟩))), (fun zv => zv = (.pointer (some ⟨sb, 0, none⟩))), (fun zv => zv = (.pointer (some ⟨sb, 3, none⟩))), (fun zv => zv = (.int .i64 (c1 : Int))), (fun zv => zv = (.pointer (some ⟨mb, v, none⟩))), (fun zv => zv = (.pointer (some ⟨qb, v, none⟩)))] : List (Value → Prop)).getD j (fun _ => True) zv) (fun d _ W => SW B lv n L sb mb qb eb jb b2 b3 b4 ⟨if d 19 = true then s.met.set v c1 else s.met, if d 21 = true then s.low.set v c1 else s.low, c1, s.br, s.jo⟩ W ∧ W.heap[p5]? = some (.cells #[.int .i64 (v : Int)] 3 (0, 0)) ∧ W.heap[p6]? = some (.cells #[.int .i64 by_] 3 (0, 0)) ∧ K5 sb mb qb eb jb W1 W ∧ Below B W1 W ∧ W.heap.size = W1.heap.size) ?h0x ?stepx ?finx
  case h0x => exact fun _ => ⟨HSW1.out.below (bdN _ _ 1), HX5.out, HX6.out, K5.below (bdN _ _ 1), (Below.refl _ _).drew, rfl⟩
  case stepx =>
   intro i o a W d vs hi ho hdi hJ hf hr hF
   replace hi : i < 22 := hi
   rcases (show i = 0 ∨ i = 1 ∨ i = 2 ∨ i = 3 ∨ i = 4 ∨ i = 5 ∨ i = 6 ∨ i = 7 ∨ i = 8 ∨ i = 9 ∨ i = 10 ∨ i = 11 ∨ i = 12 ∨ i = 13 ∨ i = 14 ∨ i = 15 ∨ i = 16 ∨ i = 17 ∨ i = 18 ∨ i = 19 ∨ i = 20 ∨ i = 21 by omega) with rfl | rfl | rfl | rfl | rfl | rfl | rfl | rfl | rfl | rfl | rfl | rfl | rfl | rfl | rfl | rfl | rfl | rfl | rfl | rfl | rfl | rfl
   all_goals
    replace ho := op_at ho (by rfl)
    subst ho
   ·have f2 : a.tmps.getD 2 undef = (.pointer (some ⟨b2, 0, none⟩)) := hf 2 (by kernel_rfl)
    have cx := cell_of_row _ _ 0 _ _ _ hJ.1.x2
    exact .inl ⟨(fun k b h => by cases h), .inl ⟨0, by decide, rfl, (.pointer (some ⟨sb, 0, none⟩)), W, (by simp [go_sem, Act.eval, f2, cx]), rfl, ⟨(by rw [updC_ne (by omega), updC_ne (by omega)]; exact hJ.1), hJ.2⟩⟩⟩
   ·have d0 : a.tmps.getD 18 undef = (.pointer (some ⟨sb, 0, none⟩)) := fdn (hF 0 (by decide) (hr 0 (by kernel_rfl)))
    exact .inl ⟨(fun k b h => by cases h), .inl ⟨1, by decide, rfl, (.pointer (some ⟨sb, 0, none⟩)), W, (by simp [go_sem, Act.eval, d0]), rfl, ⟨(by rw [updC_ne (by omega), updC_ne (by omega)]; exact hJ.1), hJ.2⟩⟩⟩
   ·have d1 : a.tmps.getD 19 undef = (.pointer (some ⟨sb, 0, none⟩)) := fdn (hF 1 (by decide) (hr 1 (by kernel_rfl)))
    exact .inl ⟨(fun k b h => by cases h), .inl ⟨2, by decide, rfl, (.pointer (some ⟨sb, 1, none⟩)), W, (by simp [go_sem, Act.eval, d1]), rfl, ⟨(by rw [updC_ne (by omega), updC_ne (by omega)]; exact hJ.1), hJ.2⟩⟩⟩
   ·have d2 : a.tmps.getD 20 undef = (.pointer (some ⟨sb, 1, none⟩)) := fdn (hF 2 (by decide) (hr 2 (by kernel_rfl)))
    have cx := cell_of_row _ _ 1 _ _ _ hJ.1.rc
    exact .inl ⟨(fun k b h => by cases h), .inl ⟨3, by decide, rfl, (.slice (some ⟨mb, 0, none⟩) n n), W, (by simp [go_sem, Act.eval, d2, cx]), rfl, ⟨(by rw [updC_ne (by omega), updC_ne (by omega)]; exact hJ.1), hJ.2⟩⟩⟩
   ·have f5 : a.tmps.getD 5 undef = (.pointer (some ⟨p5, 0, none⟩)) := hf 5 (by kernel_rfl)
    have cx := cell_of_row _ _ 0 _ _ _ hJ.2.1
    exact .inl ⟨(fun k b h => by cases h), .inl ⟨4, by decide, rfl, (.int .i64 (v : Int)), W, (by simp [go_sem, Act.eval, f5, cx]), rfl, ⟨(by rw [updC_ne (by omega), updC_ne (by omega)]; exact hJ.1), hJ.2⟩⟩⟩
   ·have f2 : a.tmps.getD 2 undef = (.pointer (some ⟨b2, 0, none⟩)) := hf 2 (by kernel_rfl)
    have cx := cell_of_row _ _ 0 _ _ _ hJ.1.x2
    exact .inl ⟨(fun k b h => by cases h), .inl ⟨5, by decide, rfl, (.pointer (some ⟨sb, 0, none⟩)), W, (by simp [go_sem, Act.eval, f2, cx]), rfl, ⟨(by rw [updC_ne (by omega), updC_ne (by omega)]; exact hJ.1), hJ.2⟩⟩⟩
   ·have d5 : a.tmps.getD 23 undef = (.pointer (some ⟨sb, 0, none⟩)) := fdn (hF 5 (by decide) (hr 5 (by kernel_rfl)))
    exact .inl ⟨(fun k b h => by cases h), .inl ⟨6, by decide, rfl, (.pointer (some ⟨sb, 0, none⟩)), W, (by simp [go_sem, Act.eval, d5]), rfl, ⟨(by rw [updC_ne (by omega), updC_ne (by omega)]; exact hJ.1), hJ.2⟩⟩⟩
   ·have d6 : a.tmps.getD 24 undef = (.pointer (some ⟨sb, 0, none⟩)) := fdn (hF 6 (by decide) (hr 6 (by kernel_rfl)))
    exact .inl ⟨(fun k b h => by cases h), .inl ⟨7, by decide, rfl, (.pointer (some ⟨sb, 2, none⟩)), W, (by simp [go_sem, Act.eval, d6]), rfl, ⟨(by rw [updC_ne (by omega), updC_ne (by omega)]; exact hJ.1), hJ.2⟩⟩⟩
   ·have d7 : a.tmps.getD 25 undef = (.pointer (some ⟨sb, 2, none⟩)) := fdn (hF 7 (by decide) (hr 7 (by kernel_rfl)))
    have cx := cell_of_row _ _ 2 _ _ _ hJ.1.rc
    exact .inl ⟨(fun k b h => by cases h), .inl ⟨8, by decide, rfl, (.slice (some ⟨qb, 0, none⟩) n n), W, (by simp [go_sem, Act.eval, d7, cx]), rfl, ⟨(by rw [updC_ne (by omega), updC_ne (by omega)]; exact hJ.1), hJ.2⟩⟩⟩
   ·have f5 : a.tmps.getD 5 undef = (.pointer (some ⟨p5, 0, none⟩)) := hf 5 (by kernel_rfl)
    have cx := cell_of_row _ _ 0 _ _ _ hJ.2.1
    exact .inl ⟨(fun k b h => by cases h), .inl ⟨9, by decide, rfl, (.int .i64 (v : Int)), W, (by simp [go_sem, Act.eval, f5, cx]), rfl, ⟨(by rw [updC_ne (by omega), updC_ne (by omega)]; exact hJ.1), hJ.2⟩⟩⟩
   ·have f2 : a.tmps.getD 2 undef = (.pointer (some ⟨b2, 0, none⟩)) := hf 2 (by kernel_rfl)
    have cx := cell_of_row _ _ 0 _ _ _ hJ.1.x2
    exact .inl ⟨(fun k b h => by cases h), .inl ⟨10, by decide, rfl, (.pointer (some ⟨sb, 0, none⟩)), W, (by simp [go_sem, Act.eval, f2, cx]), rfl, ⟨(by rw [updC_ne (by omega), updC_ne (by omega)]; exact hJ.1), hJ.2⟩⟩⟩
   ·have d10 : a.tmps.getD 28 undef = (.pointer (some ⟨sb, 0, none⟩)) := fdn (hF 10 (by decide) (hr 10 (by kernel_rfl)))
    exact .inl ⟨(fun k b h => by cases h), .inl ⟨11, by decide, rfl, (.pointer (some ⟨sb, 0, none⟩)), W, (by simp [go_sem, Act.eval, d10]), rfl, ⟨(by rw [updC_ne (by omega), updC_ne (by omega)]; exact hJ.1), hJ.2⟩⟩⟩
   ·have d11 : a.tmps.getD 29 undef = (.pointer (some ⟨sb, 0, none⟩)) := fdn (hF 11 (by decide) (hr 11 (by kernel_rfl)))
    exact .inl ⟨(fun k b h => by cases h), .inl ⟨12, by decide, rfl, (.pointer (some ⟨sb, 3, none⟩)), W, (by simp [go_sem, Act.eval, d11]), rfl, ⟨(by rw [updC_ne (by omega), updC_ne (by omega)]; exact hJ.1), hJ.2⟩⟩⟩
   ·have d12 : a.tmps.getD 30 undef = (.pointer (some ⟨sb, 3, none⟩)) := fdn (hF 12 (by decide) (hr 12 (by kernel_rfl)))
    have cx := cell_of_row _ _ 3 _ _ _ hJ.1.rc
    exact .inl ⟨(fun k b h => by cases h), .inl ⟨13, by decide, rfl, (.int .i64 (c1 : Int)), W, (by simp [go_sem, Act.eval, d12, cx]), rfl, ⟨(by rw [updC_ne (by omega), updC_ne (by omega)]; exact hJ.1), hJ.2⟩⟩⟩
   ·have f2 : a.tmps.getD 2 undef = (.pointer (some ⟨b2, 0, none⟩)) := hf 2 (by kernel_rfl)
    have cx := cell_of_row _ _ 0 _ _ _ hJ.1.x2
    exact .inl ⟨(fun k b h => by cases h), .inl ⟨14, by decide, rfl, (.pointer (some ⟨sb, 0, none⟩)), W, (by simp [go_sem, Act.eval, f2, cx]), rfl, ⟨(by rw [updC_ne (by omega), updC_ne (by omega)]; exact hJ.1), hJ.2⟩⟩⟩
   ·have d14 : a.tmps.getD 32 undef = (.pointer (some ⟨sb, 0, none⟩)) := fdn (hF 14 (by decide) (hr 14 (by kernel_rfl)))
    exact .inl ⟨(fun k b h => by cases h), .inl ⟨15, by decide, rfl, (.pointer (some ⟨sb, 0, none⟩)), W, (by simp [go_sem, Act.eval, d14]), rfl, ⟨(by rw [updC_ne (by omega), updC_ne (by omega)]; exact hJ.1), hJ.2⟩⟩⟩
   ·have d15 : a.tmps.getD 33 undef = (.pointer (some ⟨sb, 0, none⟩)) := fdn (hF 15 (by decide) (hr 15 (by kernel_rfl)))
    exact .inl ⟨(fun k b h => by cases h), .inl ⟨16, by decide, rfl, (.pointer (some ⟨sb, 3, none⟩)), W, (by simp [go_sem, Act.eval, d15]), rfl, ⟨(by rw [updC_ne (by omega), updC_ne (by omega)]; exact hJ.1), hJ.2⟩⟩⟩
   ·have d16 : a.tmps.getD 34 undef = (.pointer (some ⟨sb, 3, none⟩)) := fdn (hF 16 (by decide) (hr 16 (by kernel_rfl)))
    have cx := cell_of_row _ _ 3 _ _ _ hJ.1.rc
    exact .inl ⟨(fun k b h => by cases h), .inl ⟨17, by decide, rfl, (.int .i64 (c1 : Int)), W, (by simp [go_sem, Act.eval, d16, cx]), rfl, ⟨(by rw [updC_ne (by omega), updC_ne (by omega)]; exact hJ.1), hJ.2⟩⟩⟩
   ·have d3 : a.tmps.getD 21 undef = (.slice (some ⟨mb, 0, none⟩) n n) := fdn (hF 3 (by decide) (hr 3 (by kernel_rfl)))
    have d4 : a.tmps.getD 22 undef = (.int .i64 (v : Int)) := fdn (hF 4 (by decide) (hr 4 (by kernel_rfl)))
    exact .inl ⟨(fun k b h => by cases h), .inl ⟨18, by decide, rfl, (.pointer (some ⟨mb, v, none⟩)), W, (by simp [go_sem, Act.eval, d3, d4, hvn]), rfl, ⟨(by rw [updC_ne (by omega), updC_ne (by omega)]; exact hJ.1), hJ.2⟩⟩⟩
   ·have d18 : a.tmps.getD 36 undef = (.pointer (some ⟨mb, v, none⟩)) := fdn (hF 18 (by decide) (hr 18 (by kernel_rfl)))
    have d13 : a.tmps.getD 31 undef = (.int .i64 (c1 : Int)) := fdn (hF 13 (by decide) (hr 13 (by kernel_rfl)))
    have cx := hJ.1.met.cell v (by have h0 := hJ.1.ml; simpa using (show v < _ by rw [h0]; exact hv))
    have fx := hJ.1.met.frozen v
    exact .inl ⟨(fun k b h => by cases h), .inr (.inl ⟨rfl, W.setCell ⟨mb, v, none⟩ (.int .i64 (c1 : Int)), (by simp [go_sem, Act.eval, d18, d13, cx, fx]), ⟨(by have h0 := hJ.1.setMet (v := v) (x := c1); rw [updC_eq, updC_ne (show (21 : Nat) ≠ 19 by omega)]; simp only [hdi] at h0; simpa using h0), (Below.heap_setCell _ _ _ _ HNP.out.1).trans hJ.2.1, (Below.heap_setCell _ _ _ _ HNP.out.2.2.1).trans hJ.2.2.1, hJ.2.2.2.1.trans (K5.set (by simp)), bel_set hJ.1.ge.2.1 hJ.2.2.2.2.1, by rw [← hJ.2.2.2.2.2]; simp⟩⟩)⟩
   ·have d8 : a.tmps.getD 26 undef = (.slice (some ⟨qb, 0, none⟩) n n) := fdn (hF 8 (by decide) (hr 8 (by kernel_rfl)))
    have d9 : a.tmps.getD 27 undef = (.int .i64 (v : Int)) := fdn (hF 9 (by decide) (hr 9 (by kernel_rfl)))
    exact .inl ⟨(fun k b h => by cases h), .inl ⟨19, by decide, rfl, (.pointer (some ⟨qb, v, none⟩)), W, (by simp [go_sem, Act.eval, d8, d9, hvn]), rfl, ⟨(by rw [updC_ne (by omega), updC_ne (by omega)]; exact hJ.1), hJ.2⟩⟩⟩
   ·have d20 : a.tmps.getD 37 undef = (.pointer (some ⟨qb, v, none⟩)) := fdn (hF 19 (by decide) (hr 20 (by kernel_rfl)))
    have d17 : a.tmps.getD 35 undef = (.int .i64 (c1 : Int)) := fdn (hF 17 (by decide) (hr 17 (by kernel_rfl)))
    have cx := hJ.1.low.cell v (by have h0 := hJ.1.ll; simpa using (show v < _ by rw [h0]; exact hv))
    have fx := hJ.1.low.frozen v
    exact .inl ⟨(fun k b h => by cases h), .inr (.inl ⟨rfl, W.setCell ⟨qb, v, none⟩ (.int .i64 (c1 : Int)), (by simp [go_sem, Act.eval, d20, d17, cx, fx]), ⟨(by have h0 := hJ.1.setLow (v := v) (x := c1); rw [updC_eq, updC_ne (show (19 : Nat) ≠ 21 by omega)]; simp only [hdi] at h0; simpa using h0), (Below.heap_setCell _ _ _ _ HNP.out.2.1).trans hJ.2.1, (Below.heap_setCell _ _ _ _ HNP.out.2.2.2).trans hJ.2.2.1, hJ.2.2.2.1.trans (K5.set (by simp)), bel_set hJ.1.ge.2.2.1 hJ.2.2.2.2.1, by rw [← hJ.2.2.2.2.2]; simp⟩⟩)⟩
  case finx =>
   intro d vs Wx hall hJ hF
   have h0 : vs 0 = (.pointer (some ⟨sb, 0, none⟩)) := hF 0 (by decide)
   have h1 : vs 1 = (.pointer (some ⟨sb, 0, none⟩)) := hF 1 (by decide)
   have h2 : vs 2 = (.pointer (some ⟨sb, 1, none⟩)) := hF 2 (by decide)
   have h3 : vs 3 = (.slice (some ⟨mb, 0, none⟩) n n) := hF 3 (by decide)
   have h4 : vs 4 = (.int .i64 (v : Int)) := hF 4 (by decide)
   have h5 : vs 5 = (.pointer (some ⟨sb, 0, none⟩)) := hF 5 (by decide)
   have h6 : vs 6 = (.pointer (some ⟨sb, 0, none⟩)) := hF 6 (by decide)
   have h7 : vs 7 = (.pointer (some ⟨sb, 2, none⟩)) := hF 7 (by decide)
   have h8 : vs 8 = (.slice (some ⟨qb, 0, none⟩) n n) := hF 8 (by decide)
   have h9 : vs 9 = (.int .i64 (v : Int)) := hF 9 (by decide)
   have h10 : vs 10 = (.pointer (some ⟨sb, 0, none⟩)) := hF 10 (by decide)
   have h11 : vs 11 = (.pointer (some ⟨sb, 0, none⟩)) := hF 11 (by decide)
   have h12 : vs 12 = (.pointer (some ⟨sb, 3, none⟩)) := hF 12 (by decide)
   have h13 : vs 13 = (.int .i64 (c1 : Int)) := hF 13 (by decide)
   have h14 : vs 14 = (.pointer (some ⟨sb, 0, none⟩)) := hF 14 (by decide)
   have h15 : vs 15 = (.pointer (some ⟨sb, 0, none⟩)) := hF 15 (by decide)
   have h16 : vs 16 = (.pointer (some ⟨sb, 3, none⟩)) := hF 16 (by decide)
   have h17 : vs 17 = (.int .i64 (c1 : Int)) := hF 17 (by decide)
   have h18 : vs 18 = (.pointer (some ⟨mb, v, none⟩)) := hF 18 (by decide)
   have h19 : vs 19 = (.pointer (some ⟨qb, v, none⟩)) := hF 19 (by decide)
   clear hF
   show (_ : Exit → Act → World → Prop) Exit.normal (puts _ vs 20 _) Wx
   simp only [puts, h0, h1, h2, h3, h4, h5, h6, h7, h8, h9, h10, h11, h12, h13, h14, h15, h16, h17, h18, h19, List.getD_cons_zero, List.getD_cons_succ]
   clear h0 h1 h2 h3 h4 h5 h6 h7 h8 h9 h10 h11 h12 h13 h14 h15 h16 h17 h18 h19
   have h19 := hall 19 (by decide)
   have h21 := hall 21 (by decide)
   rw [if_pos h19, if_pos h21] at hJ
   obtain ⟨hsw2, hx5, hx6, hk2, hb2, hz2⟩ := hJ
   simp only [Act.put, List.setIfInBounds_toArray, List.set_cons_succ, List.set_cons_zero]
   have HSW2 : Hid (SW B lv n L sb mb qb eb jb b2 b3 b4 (enterD s v) Wx) := by
    show SW _ _ _ _ _ _ _ _ _ _ _ _ _ _
    unfold enterD
    rw [← HC1.out]
    exact hsw2
   have HX5' := Lib.hid hx5
   have HX6' := Lib.hid hx6
   have HK2 := Lib.hid (HK1.out.trans hk2)
   have HB2 := Lib.hid (HB1.out.trans hb2)
   have HZ2 := Lib.hid hz2
   have cx3 := cell_of_row _ _ 0 _ _ _ hsw2.x3
   have c5 := cell_of_row _ _ 0 _ _ _ hx5
   have hb3l : b3 < Wx.heap.size := (Array.getElem?_eq_some_iff.1 hsw2.x3).1
   have hp5l : p5 < Wx.heap.size := (Array.getElem?_eq_some_iff.1 hx5).1
   have m3 := new_block Wx (.cells #[.int .i64 0] 3)
   have HM3 := Lib.hid m3
   have HLI : Hid (Lis (Wx.alloc (.cells #[.int .i64 0] 3)) (Wx.alloc (.cells #[.int .i64 0] 3)).heap.size lv L) := hsw2.l.below (m3.1.mono hsw2.lt.2.2.2.2.2) (Nat.le_trans hsw2.lt.2.2.2.2.2 m3.1.size)
   clear hsw2 hx5 hx6 hk2 hb2 hz2 hall h19 h21 m3 HSW1 HK1 HB1 HX5 HX6
   gi_wp2_with (fail)
   have hwz : w.heap.size ≤ Wx.heap.size := HK2.out.size
   have hsw3 : SW B lv n L sb mb qb eb jb b2 b3 b4 (enterD s v) (Wx.alloc (.cells #[.int .i64 0] 3)) := HSW2.out.below HM3.out.1
   have hk3 : K5 sb mb qb eb jb w (Wx.alloc (.cells #[.int .i64 0] 3)) := HK2.out.trans (K5.below HM3.out.1)
   have hb3 : Below B w (Wx.alloc (.cells #[.int .i64 0] 3)) := HB2.out.trans (HM3.out.1.mono HSW2.out.lt.2.2.2.2.2)
   obtain ⟨W3, hW3⟩ : ∃ W3, W3 = Wx.alloc (.cells #[.int .i64 0] 3) := ⟨_, rfl⟩
   obtain ⟨p8, hp8⟩ : ∃ q, q = Wx.heap.size := ⟨_, rfl⟩
   rw [← hW3] at hsw3 hk3 hb3 HM3 HLI ⊢
   rw [← hp8] at HM3 ⊢
   refine ⟨trivial, ?_⟩
   refine (callsIn_wide.2 (neigh_any lv L v W3 HLI.out)).mono ?_
   rintro e Wy ⟨qn, rfl, hqs, hinv, hbel⟩
   have hp8l : p8 < W3.heap.size := (Array.getElem?_eq_some_iff.1 HM3.out.2).1
   have hri : VR w B lv n L sb mb qb eb jb b2 b3 b4 s v by_ f p5 p6 p8 qn [] Wy :=
    ⟨hsw3.below hbel, stays (stays HX5'.out (by rw [← hp8]; exact HM3.out.1)) hbel, stays (stays HX6'.out (by rw [← hp8]; exact HM3.out.1)) hbel, stays HM3.out.2 hbel, hinv, hb3.trans (hbel.mono hsw3.lt.2.2.2.2.2), hk3.trans (K5.below hbel), ⟨HPS.out.1, HPS.out.2.1, by omega, by have := hk3.size; omega⟩, ⟨by have h1 := HPS.out.2.2.1; have h2 := HZ2.out; omega, by have h1 := HPS.out.2.2.2; have h2 := HZ2.out; omega, by omega, by omega⟩, HLT.out⟩
   have HRI := Lib.hid hri
   have HSY : Hid (w.heap.size ≤ Wy.heap.size) := hri.kp.size
   clear hqs hinv hbel hri hsw3 hk3 hb3 HSW2 HX5' HX6' HK2 HB2 HZ2 HM3 HLI hW3 hp8 hp8l cx3 c5 hb3l hp5l hwz
   gi_wp2_with (fail)
   refine wpIn_range_H (F := Fence.wide) (n := 5) rfl (by omega) (gf := 50) (lb := #[.pointer (some ⟨qn, 0, none⟩), .pointer (some ⟨qn + 1, 0, none⟩)]) ?hg trivial (enters_of Try.func50 (by kernel_rfl) rfl) (encs := encN) (Inv := InvN qn lv L v) (neigh_iter qn lv L v 4) (fun x => rfl) ?hRput
    (fun pre W => VR w B lv n L sb mb qb eb jb b2 b3 b4 s v by_ f p5 p6 p8 qn pre W)
    (fun _ _ _ => False)
    ?hI ?hIp ?hIxp ?hInv ?h0 (A := ?A) (fun (x : Nat × Nat) (u k : Nat) (_ _ _ _ : Unit) W => x = (u, k)) ?hAxp ?assign ?body ?done ?stop
   case hg => rfl
   case hRput => exact fun pre x W l o o' h _ _ => h
   case hI =>
    rintro s' A A' h1 hb
    exact h1.below hb
   case hIp =>
    rintro s' A l o o' h1 hl ho hc
    exact h1.put (by have := HSY.out; omega) ho hc
   case hIxp =>
    rintro c s' A l o o' h1 hl ho hc
    exact h1.elim
   case hInv => rintro s' W' h1; exact h1.inv
   case h0 => exact HRI.out
   case hAxp => exact fun x u k _ _ _ _ W l o o' h _ _ _ => h
   case assign =>
    rintro yl pre ⟨u, k⟩ W' K h1 hR hK
    have HK := Lib.hid hK
    have HP := Lib.hid h1
    have HR' := Lib.hid hR
    clear hK h1 hR
    simp only [encN]
    gi_wp2
    have d1 : Unit := ()
    have d2 : Unit := ()
    have d3 : Unit := ()
    have d4 : Unit := ()
    exact HK.out u k d1 d2 d3 d4 _ (KeepsOthers.refl _) HP.out HR'.out rfl
   case body =>
    rintro yl pre x u k d1 d2 d3 d4 W0 hyl ⟨rl, hrl⟩ h1 ⟨rest, hR⟩ rfl
    have hedge : Edge L k u v := mem_nb.1 (by rw [hR]; simp)
    obtain ⟨hu, -, huv⟩ := edge_lt HF.out hedge
    have hkm : k < m := by have := HM.out; have := hedge.1; omega
    have HRI1 := Lib.hid h1
    have HRL := Lib.hid hrl
    obtain ⟨hdw1, hum1⟩ := pre_dw (by_ := by_) HF.out HDW.out HV.out HNO.out HUN.out (pre := pre) (rest := (u, k) :: rest) hR
    have HDW1 := Lib.hid hdw1
    have HUM1 := Lib.hid hum1
    have hcn : (pre.foldl (stepD (visitD L f) v by_) (enterD s v, 0)).2 ≤ 2000 := by
     have h2 := fold_cnt (rec := visitD L f) (v := v) (by_ := by_) pre (enterD s v, 0)
     have h3 := nb_len (L := L) (v := v)
     have h4 : pre.length ≤ (nbF L v).length := by rw [hR]; simp
     have h5 := HM.out
     have h6 : (enterD s v, 0).2 = 0 := rfl
     omega
    obtain ⟨acc, hacc⟩ : ∃ acc, acc = pre.foldl (stepD (visitD L f) v by_) (enterD s v, 0) := ⟨_, rfl⟩
    have HT : Hid (∀ W', SW B lv n L sb mb qb eb jb b2 b3 b4 (stepD (visitD L f) v by_ acc (u, k)).1 W' → K6 sb mb qb eb jb p8 W0 W' → Below B W0 W' → W'.heap[p8]? = some (.cells #[.int .i64 ((stepD (visitD L f) v by_ acc (u, k)).2 : Int)] 3 (0, 0)) → VR w B lv n L sb mb qb eb jb b2 b3 b4 s v by_ f p5 p6 p8 qn (pre ++ [(u, k)]) W') := by
     intro W' a b c d
     rw [hacc] at a d
     exact HRI1.out.turn a b c d
    have hsw0 := h1.sw
    have hx8 := h1.x8
    rw [← hacc] at hsw0 hx8 HDW1 HUM1 hcn
    have HSW0 := Lib.hid hsw0
    have HX8 := Lib.hid hx8
    have c6 := cell_of_row _ _ 0 _ _ _ h1.x6
    have cx2 := cell_of_row _ _ 0 _ _ _ hsw0.x2
    have cr1 := cell_of_row _ _ 1 _ _ _ hsw0.rc
    have hun : 0 ≤ (u : Int) ∧ (u : Int) < (n : Int) := by omega
    have hkn : 0 ≤ (k : Int) ∧ (k : Int) < (m : Int) := by omega
    have cmu := hsw0.met.cell u (by simpa using (show u < _ by rw [hsw0.ml]; exact hu))
    rw [getN] at cmu
    obtain ⟨mu, hmu⟩ : ∃ x, x = acc.1.met.getD u 0 := ⟨_, rfl⟩
    rw [← hmu] at cmu
    have HMU := Lib.hid hmu
    clear h1 hR hedge hrl hdw1 hum1 hacc hsw0 hx8 hmu
    by_cases hkb : (k : Int) = by_
    ·have HST : Hid (stepD (visitD L f) v by_ acc (u, k) = acc) := by show _ = _; unfold stepD; rw [if_pos hkb]
     subst hkb
     gi_wp2_with (fail)
     exact ⟨KeepsOthers.refl _, HT.out _ (by rw [HST.out]; exact HSW0.out) ((K5.refl _ _ _ _ _ _).six) (Below.refl _ _) (by rw [HST.out]; exact HX8.out)⟩
    ·have hkbb : ((k : Int) == by_) = false := by simpa using hkb
     by_cases hmp : 0 < mu
     ·have HST : Hid (stepD (visitD L f) v by_ acc (u, k) = (⟨acc.1.met, acc.1.low.set v (min (acc.1.low.getD v 0) mu), acc.1.clock, acc.1.br, acc.1.jo⟩, acc.2)) := by
       show _ = _
       unfold stepD
       rw [if_neg hkb, if_pos (by rw [← HMU.out]; exact hmp), ← HMU.out]
      have cr2 : W0.drew.cell? ⟨sb, 2, none⟩ = some (.slice (some ⟨qb, 0, none⟩) n n) := cell_of_row _ _ 2 _ _ _ HSW0.out.rc
      have dx2 : W0.drew.cell? ⟨b2, 0, none⟩ = some (.pointer (some ⟨sb, 0, none⟩)) := cx2
      have dr1 : W0.drew.cell? ⟨sb, 1, none⟩ = some (.slice (some ⟨mb, 0, none⟩) n n) := cr1
      have dx5 : W0.drew.cell? ⟨p5, 0, none⟩ = some (.int .i64 (v : Int)) := cell_of_row _ _ 0 _ _ _ HRI1.out.x5
      have dmu : W0.drew.cell? ⟨mb, u, none⟩ = some (.int .i64 (mu : Int)) := cmu
      have dqv : W0.drew.cell? ⟨qb, v, none⟩ = some (.int .i64 ((acc.1.low.getD v 0 : Nat) : Int)) := by
       have h0 := HSW0.out.low.cell v (by simpa using (show v < _ by rw [HSW0.out.ll]; exact hv))
       rw [getN] at h0
       exact h0
      have dfv : W0.drew.frozen? ⟨qb, v, none⟩ = false := HSW0.out.low.frozen v
      obtain ⟨lo, hlo⟩ : ∃ x, x = acc.1.low.getD v 0 := ⟨_, rfl⟩
      rw [← hlo] at dqv HST
      clear hlo
      have hmin : (if mu < lo then (mu : Int) else (lo : Int)) = ((min lo mu : Nat) : Int) := by split <;> omega
      gi_wp2_with (fail)
      refine wpIn_flowM (F0 := (Fence.wide.inRound yl)) (n0 := 3) (fun _ => trivial) (fun h => by cases h) (by kernel_rfl) (by kernel_rfl) 22 21 (by kernel_rfl) (fun j => ([0, 1, 2, 3, 4, 5, 6, 7, 8, 9, 10, 11, 12, 13, 14, 15, 16, 17, 18, 19, 20] : List Nat).getD j 0) (fun j => ([54, 55, 56, 57, 58, 59, 60, 61, 62, 63, 64, 65, 66, 67, 68, 69, 70, 71, 72, 73, 74] : List Nat).getD j 0) (by kernel_rfl) (by kernel_rfl) (by kernel_rfl) (by kernel_rfl) (by kernel_rfl) (by kernel_rfl) (by kernel_rfl) (fun j zv => ([(fun zv => zv = (.pointer (some ⟨sb, 0, none⟩))), (fun zv => zv = (.pointer (some ⟨sb, 0, none⟩))), (fun zv => zv = (.pointer (some ⟨sb, 2, none⟩))), (fun zv => zv = (.slice (some ⟨qb, 0, none⟩) n n)), (fun zv => zv = (.int .i64 (v : Int))), (fun zv => zv = (.pointer (some ⟨sb, 0, none⟩))), (fun zv => zv = (.pointer (some ⟨sb, 0, none⟩))), (fun zv => zv = (.pointer (some ⟨sb, 2, none⟩))), (fun zv => zv = (.slice (some ⟨qb, 0, none⟩) n n)), (fun zv => zv = (.int .i64 (v : Int))), (fun zv => zv = (.pointer (some ⟨qb, v, none⟩))), (fun zv => zv = (.int .i64 (lo : Int))), (fun zv => zv = (.pointer (some ⟨sb, 0, none⟩))), (fun zv => zv = (.pointer (some ⟨sb, 0, none⟩))), (fun zv => zv = (.pointer (some ⟨sb, 1, none⟩))), (fun zv => zv = (.slice (some ⟨mb, 0, none⟩) n n)), (fun zv => zv = (.int .i64 (u : Int))), (fun zv => zv = (.pointer (some ⟨mb, u, none⟩))), (fun zv => zv = (.int .i64 (mu : Int))), (fun zv => zv = (.int .i64 ((min lo mu : Nat) : Int))), (fun zv => zv = (.pointer (some ⟨qb, v, none⟩)))] : List (Value → Prop)).getD j (fun _ => True) zv) (fun d _ W => (d 21 = false → W = W0.drew) ∧ (d 21 = true → W = W0.drew.setCell ⟨qb, v, none⟩ (.int .i64 ((min lo mu : Nat) : Int))) ∧ (d 21 = true → ∀ q, q < 21 → d q = true)) ?h0z ?stepz ?finz
      case h0z => exact fun _ => ⟨(fun _ => rfl), (fun h => by cases h), (fun h => by cases h)⟩
      case stepz =>
       intro i o a W d vs hi ho hdi hJ hf hr hF
       replace hi : i < 22 := hi
       rcases (show i = 0 ∨ i = 1 ∨ i = 2 ∨ i = 3 ∨ i = 4 ∨ i = 5 ∨ i = 6 ∨ i = 7 ∨ i = 8 ∨ i = 9 ∨ i = 10 ∨ i = 11 ∨ i = 12 ∨ i = 13 ∨ i = 14 ∨ i = 15 ∨ i = 16 ∨ i = 17 ∨ i = 18 ∨ i = 19 ∨ i = 20 ∨ i = 21 by omega) with rfl | rfl | rfl | rfl | rfl | rfl | rfl | rfl | rfl | rfl | rfl | rfl | rfl | rfl | rfl | rfl | rfl | rfl | rfl | rfl | rfl | rfl
       all_goals
        replace ho := op_at ho (by rfl)
        subst ho
       ·have f2 : a.tmps.getD 2 undef = (.pointer (some ⟨b2, 0, none⟩)) := hf 2 (by kernel_rfl)
        have nd : d 21 = false := by cases h : d 21 with | false => rfl | true => have h1 := hJ.2.2 h 0 (by decide); rw [hdi] at h1; cases h1
        have hW := hJ.1 nd
        subst hW
        exact .inl ⟨(fun k b h => by cases h), .inl ⟨0, by decide, rfl, (.pointer (some ⟨sb, 0, none⟩)), W0.drew, (by simp [go_sem, Act.eval, f2, dx2]), rfl, ⟨(fun _ => rfl), (fun h => by rw [updC_ne (by omega), nd] at h; cases h), (fun h => by rw [updC_ne (by omega), nd] at h; cases h)⟩⟩⟩
       ·have d0 : a.tmps.getD 54 undef = (.pointer (some ⟨sb, 0, none⟩)) := fdn (hF 0 (by decide) (hr 0 (by kernel_rfl)))
        have nd : d 21 = false := by cases h : d 21 with | false => rfl | true => have h1 := hJ.2.2 h 1 (by decide); rw [hdi] at h1; cases h1
        have hW := hJ.1 nd
        subst hW
        exact .inl ⟨(fun k b h => by cases h), .inl ⟨1, by decide, rfl, (.pointer (some ⟨sb, 0, none⟩)), W0.drew, (by simp [go_sem, Act.eval, d0]), rfl, ⟨(fun _ => rfl), (fun h => by rw [updC_ne (by omega), nd] at h; cases h), (fun h => by rw [updC_ne (by omega), nd] at h; cases h)⟩⟩⟩
       ·have d1 : a.tmps.getD 55 undef = (.pointer (some ⟨sb, 0, none⟩)) := fdn (hF 1 (by decide) (hr 1 (by kernel_rfl)))
        have nd : d 21 = false := by cases h : d 21 with | false => rfl | true => have h1 := hJ.2.2 h 2 (by decide); rw [hdi] at h1; cases h1
        have hW := hJ.1 nd
        subst hW
        exact .inl ⟨(fun k b h => by cases h), .inl ⟨2, by decide, rfl, (.pointer (some ⟨sb, 2, none⟩)), W0.drew, (by simp [go_sem, Act.eval, d1]), rfl, ⟨(fun _ => rfl), (fun h => by rw [updC_ne (by omega), nd] at h; cases h), (fun h => by rw [updC_ne (by omega), nd] at h; cases h)⟩⟩⟩
       ·have d2 : a.tmps.getD 56 undef = (.pointer (some ⟨sb, 2, none⟩)) := fdn (hF 2 (by decide) (hr 2 (by kernel_rfl)))
        have nd : d 21 = false := by cases h : d 21 with | false => rfl | true => have h1 := hJ.2.2 h 3 (by decide); rw [hdi] at h1; cases h1
        have hW := hJ.1 nd
        subst hW
        exact .inl ⟨(fun k b h => by cases h), .inl ⟨3, by decide, rfl, (.slice (some ⟨qb, 0, none⟩) n n), W0.drew, (by simp [go_sem, Act.eval, d2, cr2]), rfl, ⟨(fun _ => rfl), (fun h => by rw [updC_ne (by omega), nd] at h; cases h), (fun h => by rw [updC_ne (by omega), nd] at h; cases h)⟩⟩⟩
       ·have f5 : a.tmps.getD 5 undef = (.pointer (some ⟨p5, 0, none⟩)) := hf 5 (by kernel_rfl)
        have nd : d 21 = false := by cases h : d 21 with | false => rfl | true => have h1 := hJ.2.2 h 4 (by decide); rw [hdi] at h1; cases h1
        have hW := hJ.1 nd
        subst hW
        exact .inl ⟨(fun k b h => by cases h), .inl ⟨4, by decide, rfl, (.int .i64 (v : Int)), W0.drew, (by simp [go_sem, Act.eval, f5, dx5]), rfl, ⟨(fun _ => rfl), (fun h => by rw [updC_ne (by omega), nd] at h; cases h), (fun h => by rw [updC_ne (by omega), nd] at h; cases h)⟩⟩⟩
       ·have f2 : a.tmps.getD 2 undef = (.pointer (some ⟨b2, 0, none⟩)) := hf 2 (by kernel_rfl)
        have nd : d 21 = false := by cases h : d 21 with | false => rfl | true => have h1 := hJ.2.2 h 5 (by decide); rw [hdi] at h1; cases h1
        have hW := hJ.1 nd
        subst hW
        exact .inl ⟨(fun k b h => by cases h), .inl ⟨5, by decide, rfl, (.pointer (some ⟨sb, 0, none⟩)), W0.drew, (by simp [go_sem, Act.eval, f2, dx2]), rfl, ⟨(fun _ => rfl), (fun h => by rw [updC_ne (by omega), nd] at h; cases h), (fun h => by rw [updC_ne (by omega), nd] at h; cases h)⟩⟩⟩
       ·have d5 : a.tmps.getD 59 undef = (.pointer (some ⟨sb, 0, none⟩)) := fdn (hF 5 (by decide) (hr 5 (by kernel_rfl)))
        have nd : d 21 = false := by cases h : d 21 with | false => rfl | true => have h1 := hJ.2.2 h 6 (by decide); rw [hdi] at h1; cases h1
        have hW := hJ.1 nd
        subst hW
        exact .inl ⟨(fun k b h => by cases h), .inl ⟨6, by decide, rfl, (.pointer (some ⟨sb, 0, none⟩)), W0.drew, (by simp [go_sem, Act.eval, d5]), rfl, ⟨(fun _ => rfl), (fun h => by rw [updC_ne (by omega), nd] at h; cases h), (fun h => by rw [updC_ne (by omega), nd] at h; cases h)⟩⟩⟩
       ·have d6 : a.tmps.getD 60 undef = (.pointer (some ⟨sb, 0, none⟩)) := fdn (hF 6 (by decide) (hr 6 (by kernel_rfl)))
        have nd : d 21 = false := by cases h : d 21 with | false => rfl | true => have h1 := hJ.2.2 h 7 (by decide); rw [hdi] at h1; cases h1
        have hW := hJ.1 nd
        subst hW
        exact .inl ⟨(fun k b h => by cases h), .inl ⟨7, by decide, rfl, (.pointer (some ⟨sb, 2, none⟩)), W0.drew, (by simp [go_sem, Act.eval, d6]), rfl, ⟨(fun _ => rfl), (fun h => by rw [updC_ne (by omega), nd] at h; cases h), (fun h => by rw [updC_ne (by omega), nd] at h; cases h)⟩⟩⟩
       ·have d7 : a.tmps.getD 61 undef = (.pointer (some ⟨sb, 2, none⟩)) := fdn (hF 7 (by decide) (hr 7 (by kernel_rfl)))
        have nd : d 21 = false := by cases h : d 21 with | false => rfl | true => have h1 := hJ.2.2 h 8 (by decide); rw [hdi] at h1; cases h1
        have hW := hJ.1 nd
        subst hW
        exact .inl ⟨(fun k b h => by cases h), .inl ⟨8, by decide, rfl, (.slice (some ⟨qb, 0, none⟩) n n), W0.drew, (by simp [go_sem, Act.eval, d7, cr2]), rfl, ⟨(fun _ => rfl), (fun h => by rw [updC_ne (by omega), nd] at h; cases h), (fun h => by rw [updC_ne (by omega), nd] at h; cases h)⟩⟩⟩
       ·have f5 : a.tmps.getD 5 undef = (.pointer (some ⟨p5, 0, none⟩)) := hf 5 (by kernel_rfl)
        have nd : d 21 = false := by cases h : d 21 with | false => rfl | true => have h1 := hJ.2.2 h 9 (by decide); rw [hdi] at h1; cases h1
        have hW := hJ.1 nd
        subst hW
        exact .inl ⟨(fun k b h => by cases h), .inl ⟨9, by decide, rfl, (.int .i64 (v : Int)), W0.drew, (by simp [go_sem, Act.eval, f5, dx5]), rfl, ⟨(fun _ => rfl), (fun h => by rw [updC_ne (by omega), nd] at h; cases h), (fun h => by rw [updC_ne (by omega), nd] at h; cases h)⟩⟩⟩
       ·have d8 : a.tmps.getD 62 undef = (.slice (some ⟨qb, 0, none⟩) n n) := fdn (hF 8 (by decide) (hr 8 (by kernel_rfl)))
        have d9 : a.tmps.getD 63 undef = (.int .i64 (v : Int)) := fdn (hF 9 (by decide) (hr 9 (by kernel_rfl)))
        have nd : d 21 = false := by cases h : d 21 with | false => rfl | true => have h1 := hJ.2.2 h 10 (by decide); rw [hdi] at h1; cases h1
        have hW := hJ.1 nd
        subst hW
        exact .inl ⟨(fun k b h => by cases h), .inl ⟨10, by decide, rfl, (.pointer (some ⟨qb, v, none⟩)), W0.drew, (by simp [go_sem, Act.eval, d8, d9, hvn]), rfl, ⟨(fun _ => rfl), (fun h => by rw [updC_ne (by omega), nd] at h; cases h), (fun h => by rw [updC_ne (by omega), nd] at h; cases h)⟩⟩⟩
       ·have d10 : a.tmps.getD 64 undef = (.pointer (some ⟨qb, v, none⟩)) := fdn (hF 10 (by decide) (hr 10 (by kernel_rfl)))
        have nd : d 21 = false := by cases h : d 21 with | false => rfl | true => have h1 := hJ.2.2 h 11 (by decide); rw [hdi] at h1; cases h1
        have hW := hJ.1 nd
        subst hW
        exact .inl ⟨(fun k b h => by cases h), .inl ⟨11, by decide, rfl, (.int .i64 (lo : Int)), W0.drew, (by simp [go_sem, Act.eval, d10, dqv]), rfl, ⟨(fun _ => rfl), (fun h => by rw [updC_ne (by omega), nd] at h; cases h), (fun h => by rw [updC_ne (by omega), nd] at h; cases h)⟩⟩⟩
       ·have f2 : a.tmps.getD 2 undef = (.pointer (some ⟨b2, 0, none⟩)) := hf 2 (by kernel_rfl)
        have nd : d 21 = false := by cases h : d 21 with | false => rfl | true => have h1 := hJ.2.2 h 12 (by decide); rw [hdi] at h1; cases h1
        have hW := hJ.1 nd
        subst hW
        exact .inl ⟨(fun k b h => by cases h), .inl ⟨12, by decide, rfl, (.pointer (some ⟨sb, 0, none⟩)), W0.drew, (by simp [go_sem, Act.eval, f2, dx2]), rfl, ⟨(fun _ => rfl), (fun h => by rw [updC_ne (by omega), nd] at h; cases h), (fun h => by rw [updC_ne (by omega), nd] at h; cases h)⟩⟩⟩
       ·have d12 : a.tmps.getD 66 undef = (.pointer (some ⟨sb, 0, none⟩)) := fdn (hF 12 (by decide) (hr 12 (by kernel_rfl)))
        have nd : d 21 = false := by cases h : d 21 with | false => rfl | true => have h1 := hJ.2.2 h 13 (by decide); rw [hdi] at h1; cases h1
        have hW := hJ.1 nd
        subst hW
        exact .inl ⟨(fun k b h => by cases h), .inl ⟨13, by decide, rfl, (.pointer (some ⟨sb, 0, none⟩)), W0.drew, (by simp [go_sem, Act.eval, d12]), rfl, ⟨(fun _ => rfl), (fun h => by rw [updC_ne (by omega), nd] at h; cases h), (fun h => by rw [updC_ne (by omega), nd] at h; cases h)⟩⟩⟩
       ·have d13 : a.tmps.getD 67 undef = (.pointer (some ⟨sb, 0, none⟩)) := fdn (hF 13 (by decide) (hr 13 (by kernel_rfl)))
        have nd : d 21 = false := by cases h : d 21 with | false => rfl | true => have h1 := hJ.2.2 h 14 (by decide); rw [hdi] at h1; cases h1
        have hW := hJ.1 nd
        subst hW
        exact .inl ⟨(fun k b h => by cases h), .inl ⟨14, by decide, rfl, (.pointer (some ⟨sb, 1, none⟩)), W0.drew, (by simp [go_sem, Act.eval, d13]), rfl, ⟨(fun _ => rfl), (fun h => by rw [updC_ne (by omega), nd] at h; cases h), (fun h => by rw [updC_ne (by omega), nd] at h; cases h)⟩⟩⟩
       ·have d14 : a.tmps.getD 68 undef = (.pointer (some ⟨sb, 1, none⟩)) := fdn (hF 14 (by decide) (hr 14 (by kernel_rfl)))
        have nd : d 21 = false := by cases h : d 21 with | false => rfl | true => have h1 := hJ.2.2 h 15 (by decide); rw [hdi] at h1; cases h1
        have hW := hJ.1 nd
        subst hW
        exact .inl ⟨(fun k b h => by cases h), .inl ⟨15, by decide, rfl, (.slice (some ⟨mb, 0, none⟩) n n), W0.drew, (by simp [go_sem, Act.eval, d14, dr1]), rfl, ⟨(fun _ => rfl), (fun h => by rw [updC_ne (by omega), nd] at h; cases h), (fun h => by rw [updC_ne (by omega), nd] at h; cases h)⟩⟩⟩
       ·have f9 : a.tmps.getD 9 undef = (.int .i64 (u : Int)) := hf 9 (by kernel_rfl)
        have nd : d 21 = false := by cases h : d 21 with | false => rfl | true => have h1 := hJ.2.2 h 16 (by decide); rw [hdi] at h1; cases h1
        have hW := hJ.1 nd
        subst hW
        exact .inl ⟨(fun k b h => by cases h), .inl ⟨16, by decide, rfl, (.int .i64 (u : Int)), W0.drew, (by simp [go_sem, Act.eval, f9]), rfl, ⟨(fun _ => rfl), (fun h => by rw [updC_ne (by omega), nd] at h; cases h), (fun h => by rw [updC_ne (by omega), nd] at h; cases h)⟩⟩⟩
       ·have d15 : a.tmps.getD 69 undef = (.slice (some ⟨mb, 0, none⟩) n n) := fdn (hF 15 (by decide) (hr 15 (by kernel_rfl)))
        have d16 : a.tmps.getD 70 undef = (.int .i64 (u : Int)) := fdn (hF 16 (by decide) (hr 16 (by kernel_rfl)))
        have nd : d 21 = false := by cases h : d 21 with | false => rfl | true => have h1 := hJ.2.2 h 17 (by decide); rw [hdi] at h1; cases h1
        have hW := hJ.1 nd
        subst hW
        exact .inl ⟨(fun k b h => by cases h), .inl ⟨17, by decide, rfl, (.pointer (some ⟨mb, u, none⟩)), W0.drew, (by simp [go_sem, Act.eval, d15, d16, hun]), rfl, ⟨(fun _ => rfl), (fun h => by rw [updC_ne (by omega), nd] at h; cases h), (fun h => by rw [updC_ne (by omega), nd] at h; cases h)⟩⟩⟩
       ·have d17 : a.tmps.getD 71 undef = (.pointer (some ⟨mb, u, none⟩)) := fdn (hF 17 (by decide) (hr 17 (by kernel_rfl)))
        have nd : d 21 = false := by cases h : d 21 with | false => rfl | true => have h1 := hJ.2.2 h 18 (by decide); rw [hdi] at h1; cases h1
        have hW := hJ.1 nd
        subst hW
        exact .inl ⟨(fun k b h => by cases h), .inl ⟨18, by decide, rfl, (.int .i64 (mu : Int)), W0.drew, (by simp [go_sem, Act.eval, d17, dmu]), rfl, ⟨(fun _ => rfl), (fun h => by rw [updC_ne (by omega), nd] at h; cases h), (fun h => by rw [updC_ne (by omega), nd] at h; cases h)⟩⟩⟩
       ·have d11 : a.tmps.getD 65 undef = (.int .i64 (lo : Int)) := fdn (hF 11 (by decide) (hr 11 (by kernel_rfl)))
        have d18 : a.tmps.getD 72 undef = (.int .i64 (mu : Int)) := fdn (hF 18 (by decide) (hr 18 (by kernel_rfl)))
        have nd : d 21 = false := by cases h : d 21 with | false => rfl | true => have h1 := hJ.2.2 h 19 (by decide); rw [hdi] at h1; cases h1
        have hW := hJ.1 nd
        subst hW
        exact .inl ⟨(fun k b h => by cases h), .inl ⟨19, by decide, rfl, (.int .i64 ((min lo mu : Nat) : Int)), W0.drew, (by simp [go_sem, Act.eval, d11, d18, hmin]), rfl, ⟨(fun _ => rfl), (fun h => by rw [updC_ne (by omega), nd] at h; cases h), (fun h => by rw [updC_ne (by omega), nd] at h; cases h)⟩⟩⟩
       ·have d3 : a.tmps.getD 57 undef = (.slice (some ⟨qb, 0, none⟩) n n) := fdn (hF 3 (by decide) (hr 3 (by kernel_rfl)))
        have d4 : a.tmps.getD 58 undef = (.int .i64 (v : Int)) := fdn (hF 4 (by decide) (hr 4 (by kernel_rfl)))
        have nd : d 21 = false := by cases h : d 21 with | false => rfl | true => have h1 := hJ.2.2 h 20 (by decide); rw [hdi] at h1; cases h1
        have hW := hJ.1 nd
        subst hW
        exact .inl ⟨(fun k b h => by cases h), .inl ⟨20, by decide, rfl, (.pointer (some ⟨qb, v, none⟩)), W0.drew, (by simp [go_sem, Act.eval, d3, d4, hvn]), rfl, ⟨(fun _ => rfl), (fun h => by rw [updC_ne (by omega), nd] at h; cases h), (fun h => by rw [updC_ne (by omega), nd] at h; cases h)⟩⟩⟩
       ·have d20 : a.tmps.getD 74 undef = (.pointer (some ⟨qb, v, none⟩)) := fdn (hF 20 (by decide) (hr 20 (by kernel_rfl)))
        have d19 : a.tmps.getD 73 undef = (.int .i64 ((min lo mu : Nat) : Int)) := fdn (hF 19 (by decide) (hr 19 (by kernel_rfl)))
        have hW := hJ.1 hdi
        subst hW
        exact .inl ⟨(fun k b h => by cases h), .inr (.inl ⟨rfl, W0.drew.setCell ⟨qb, v, none⟩ (.int .i64 ((min lo mu : Nat) : Int)), (by simp [go_sem, Act.eval, d20, d19, dqv, dfv]), ⟨(fun h => by rw [updC_eq] at h; cases h), (fun _ => rfl), (fun _ q hq => by rw [updC_ne (by omega)]; rcases (show q = 0 ∨ q = 1 ∨ q = 2 ∨ q = 3 ∨ q = 4 ∨ q = 5 ∨ q = 6 ∨ q = 7 ∨ q = 8 ∨ q = 9 ∨ q = 10 ∨ q = 11 ∨ q = 12 ∨ q = 13 ∨ q = 14 ∨ q = 15 ∨ q = 16 ∨ q = 17 ∨ q = 18 ∨ q = 19 ∨ q = 20 by omega) with rfl | rfl | rfl | rfl | rfl | rfl | rfl | rfl | rfl | rfl | rfl | rfl | rfl | rfl | rfl | rfl | rfl | rfl | rfl | rfl | rfl <;> exact hr _ (by kernel_rfl))⟩⟩)⟩
      case finz =>
       intro d vs Wz hall hJ hF
       have h0 : vs 0 = (.pointer (some ⟨sb, 0, none⟩)) := hF 0 (by decide)
       have h1 : vs 1 = (.pointer (some ⟨sb, 0, none⟩)) := hF 1 (by decide)
       have h2 : vs 2 = (.pointer (some ⟨sb, 2, none⟩)) := hF 2 (by decide)
       have h3 : vs 3 = (.slice (some ⟨qb, 0, none⟩) n n) := hF 3 (by decide)
       have h4 : vs 4 = (.int .i64 (v : Int)) := hF 4 (by decide)
       have h5 : vs 5 = (.pointer (some ⟨sb, 0, none⟩)) := hF 5 (by decide)
       have h6 : vs 6 = (.pointer (some ⟨sb, 0, none⟩)) := hF 6 (by decide)
       have h7 : vs 7 = (.pointer (some ⟨sb, 2, none⟩)) := hF 7 (by decide)
       have h8 : vs 8 = (.slice (some ⟨qb, 0, none⟩) n n) := hF 8 (by decide)
       have h9 : vs 9 = (.int .i64 (v : Int)) := hF 9 (by decide)
       have h10 : vs 10 = (.pointer (some ⟨qb, v, none⟩)) := hF 10 (by decide)
       have h11 : vs 11 = (.int .i64 (lo : Int)) := hF 11 (by decide)
       have h12 : vs 12 = (.pointer (some ⟨sb, 0, none⟩)) := hF 12 (by decide)
       have h13 : vs 13 = (.pointer (some ⟨sb, 0, none⟩)) := hF 13 (by decide)
       have h14 : vs 14 = (.pointer (some ⟨sb, 1, none⟩)) := hF 14 (by decide)
       have h15 : vs 15 = (.slice (some ⟨mb, 0, none⟩) n n) := hF 15 (by decide)
       have h16 : vs 16 = (.int .i64 (u : Int)) := hF 16 (by decide)
       have h17 : vs 17 = (.pointer (some ⟨mb, u, none⟩)) := hF 17 (by decide)
       have h18 : vs 18 = (.int .i64 (mu : Int)) := hF 18 (by decide)
       have h19 : vs 19 = (.int .i64 ((min lo mu : Nat) : Int)) := hF 19 (by decide)
       have h20 : vs 20 = (.pointer (some ⟨qb, v, none⟩)) := hF 20 (by decide)
       clear hF
       show (_ : Exit → Act → World → Prop) Exit.normal (puts _ vs 21 _) Wz
       simp only [puts, h0, h1, h2, h3, h4, h5, h6, h7, h8, h9, h10, h11, h12, h13, h14, h15, h16, h17, h18, h19, h20, List.getD_cons_zero, List.getD_cons_succ]
       clear h0 h1 h2 h3 h4 h5 h6 h7 h8 h9 h10 h11 h12 h13 h14 h15 h16 h17 h18 h19 h20
       have hW := hJ.2.1 (hall 21 (by decide))
       subst hW
       simp only [Act.put, List.setIfInBounds_toArray, List.set_cons_succ, List.set_cons_zero]
       clear hJ hall cr2 dx2 dr1 dx5 dmu dqv dfv c6 cx2 cr1 cmu
       gi_wp2_with (fail)
       have hk6 : K6 sb mb qb eb jb p8 W0 (W0.drew.setCell ⟨qb, v, none⟩ (.int .i64 ((min lo mu : Nat) : Int))) := ((K5.below (bdN _ _ 1) : K5 sb mb qb eb jb W0 W0.drew).trans (K5.set (by simp))).six
       refine ⟨HRI1.out.others hk6, HT.out _ (by rw [HST.out]; exact (HSW0.out.below (bdN _ _ 1)).setLow) hk6 (bel_set HSW0.out.ge.2.2.1 (bdN _ _ 1)) ?_⟩
       rw [HST.out]
       refine (Below.heap_setCell _ _ _ _ ?_).trans HX8.out
       have h0 := HRI1.out.ge
       have h2 := HRI1.out.lt
       show p8 ≠ qb
       omega
     ·have hno2 : ¬ vis acc.1 u := by unfold vis; rw [← HMU.out]; exact hmp
      have HST : Hid (stepD (visitD L f) v by_ acc (u, k) = (childD (visitD L f u (k : Int) acc.1).1 v u k by_, acc.2 + 1)) := by
       show _ = _
       unfold stepD
       rw [if_neg hkb, if_neg (by rw [← HMU.out]; exact hmp)]
      have HIN2 : Hid (-1 ≤ (k : Int) ∧ (k : Int) < 1000) := by show _ ∧ _; omega
      have HNO2 := Lib.hid hno2
      have HDW2 := Lib.hid (visit_dw HF.out f acc.1 u (k : Int) HDW1.out hu hno2 HUM1.out).1
      obtain ⟨cn, hcnv⟩ : ∃ x, x = acc.2 := ⟨_, rfl⟩
      rw [← hcnv] at hcn HX8 HST
      have cx8 := cell_of_row _ _ 0 _ _ _ HX8.out
      have fx8 := frozen_of_row _ _ 0 _ _ HX8.out
      have hp8 : p8 ≠ sb ∧ p8 ≠ mb ∧ p8 ≠ qb ∧ p8 ≠ eb ∧ p8 ≠ jb ∧ p8 ≠ b2 ∧ p8 ≠ b3 ∧ p8 ≠ b4 := by
       have h0 := HRI1.out.ge
       have h2 := HRI1.out.lt
       exact ⟨by omega, by omega, by omega, by omega, by omega, blk_ne HX8.out HSW0.out.x2 (by decide), blk_ne HX8.out HSW0.out.x3 (by decide), blk_ne HX8.out HSW0.out.x4 (by decide)⟩
      have hsw1 : SW B lv n L sb mb qb eb jb b2 b3 b4 acc.1 (W0.setCell ⟨p8, 0, none⟩ (.int .i64 ((cn : Int) + 1))) := HSW0.out.aside (by have h0 := HRI1.out.ge; have h2 := HRI1.out.lt; omega) hp8
      have hx81 : (W0.setCell ⟨p8, 0, none⟩ (.int .i64 ((cn : Int) + 1))).heap[p8]? = some (.cells #[.int .i64 ((cn : Int) + 1)] 3 (0, 0)) := by
       have h0 := HX8.out
       simp [World.setCell, Array.getElem?_modify, h0]
      have cx4 : W0.cell? ⟨b4, 0, none⟩ = some (.func (.func 48) #[] #[.pointer (some ⟨b2, 0, none⟩), .pointer (some ⟨b3, 0, none⟩), .pointer (some ⟨b4, 0, none⟩)]) := cell_of_row _ _ 0 _ _ _ HSW0.out.x4
      have hp84 : b4 ≠ p8 := Ne.symm hp8.2.2.2.2.2.2.2
      have HIHC := Lib.hid (IH.out _ acc.1 u (k : Int) hsw1 HDW1.out hu hno2 HUM1.out HIN2.out.1 HIN2.out.2)
      have HX81 := Lib.hid hx81
      have HSW1 := Lib.hid hsw1
      have HP8 := Lib.hid hp8
      have hcnw : cn ≤ 2000 := hcn
      clear hno2 hcnv hcn hsw1 hx81 hp8
      gi_wp2_with (fail)
      refine ⟨trivial, ?_⟩
      refine (CallsIn.inRound yl (callsIn_wide.2 HIHC.out)).mono ?_
      rintro e W2 ⟨rfl, hsw2, hb2, hk2⟩
      obtain ⟨s2, hs2⟩ : ∃ s2, s2 = (visitD L f u (k : Int) acc.1).1 := ⟨_, rfl⟩
      rw [← hs2] at hsw2 HDW2 HST
      have hgel := HRI1.out.ge
      have hltl := HRI1.out.lt
      have hnel := HRI1.out.ne
      have h5l := (Array.getElem?_eq_some_iff.1 HRI1.out.x5).1
      have h6l := (Array.getElem?_eq_some_iff.1 HRI1.out.x6).1
      have h8l := (Array.getElem?_eq_some_iff.1 HX8.out).1
      have hz1 : (W0.setCell ⟨p8, 0, none⟩ (.int .i64 ((cn : Int) + 1))).heap.size = W0.heap.size := by simp
      have HX82 : Hid (W2.heap[p8]? = some (.cells #[.int .i64 ((cn : Int) + 1)] 3 (0, 0))) := (hk2.same p8 (by rw [hz1]; exact h8l) HP8.out.1 HP8.out.2.1 HP8.out.2.2.1 HP8.out.2.2.2.1 HP8.out.2.2.2.2.1).trans HX81.out
      have HX52 : Hid (W2.heap[p5]? = some (.cells #[.int .i64 (v : Int)] 3 (0, 0))) := (hk2.same p5 (by rw [hz1]; exact h5l) (by omega) (by omega) (by omega) (by omega) (by omega)).trans ((Below.heap_setCell _ _ _ _ (Ne.symm hnel.1)).trans HRI1.out.x5)
      have HX62 : Hid (W2.heap[p6]? = some (.cells #[.int .i64 by_] 3 (0, 0))) := (hk2.same p6 (by rw [hz1]; exact h6l) (by omega) (by omega) (by omega) (by omega) (by omega)).trans ((Below.heap_setCell _ _ _ _ (Ne.symm hnel.2.1)).trans HRI1.out.x6)
      have HK2' : Hid (K6 sb mb qb eb jb p8 W0 W2) := K6.set.trans hk2.six
      have HB2' : Hid (Below B W0 W2) := (bel_set (by omega) (Below.refl _ _)).trans hb2
      have HSW2 := Lib.hid hsw2
      have HN5 : Hid (p5 ≠ qb ∧ p5 ≠ eb ∧ p5 ≠ jb ∧ p6 ≠ qb ∧ p6 ≠ eb ∧ p6 ≠ jb) := by show _ ∧ _; omega
      obtain ⟨lo, hlo⟩ : ∃ x, x = s2.low.getD v 0 := ⟨_, rfl⟩
      obtain ⟨lu, hlu⟩ : ∃ x, x = s2.low.getD u 0 := ⟨_, rfl⟩
      obtain ⟨mv, hmv⟩ : ∃ x, x = s2.met.getD v 0 := ⟨_, rfl⟩
      have HLO := Lib.hid hlo
      have HLU := Lib.hid hlu
      have HMV := Lib.hid hmv
      clear hs2 hsw2 hb2 hk2 hgel hltl hnel h5l h6l h8l hz1 hlo hlu hmv HIHC HX81 HSW1 hp84 cx4 cx8 fx8 cx2 cr1 cmu c6
      have dx2 : W2.drew.cell? ⟨b2, 0, none⟩ = some (.pointer (some ⟨sb, 0, none⟩)) := cell_of_row _ _ 0 _ _ _ HSW2.out.x2
      have cr2 : W2.drew.cell? ⟨sb, 2, none⟩ = some (.slice (some ⟨qb, 0, none⟩) n n) := cell_of_row _ _ 2 _ _ _ HSW2.out.rc
      have dx5 : W2.drew.cell? ⟨p5, 0, none⟩ = some (.int .i64 (v : Int)) := cell_of_row _ _ 0 _ _ _ HX52.out
      have dqv : W2.drew.cell? ⟨qb, v, none⟩ = some (.int .i64 (lo : Int)) := by
       have h0 := HSW2.out.low.cell v (by simpa using (show v < _ by rw [HSW2.out.ll]; exact hv))
       rw [getN, ← HLO.out] at h0
       exact h0
      have dqu : W2.drew.cell? ⟨qb, u, none⟩ = some (.int .i64 (lu : Int)) := by
       have h0 := HSW2.out.low.cell u (by simpa using (show u < _ by rw [HSW2.out.ll]; exact hu))
       rw [getN, ← HLU.out] at h0
       exact h0
      have dfv : W2.drew.frozen? ⟨qb, v, none⟩ = false := HSW2.out.low.frozen v
      have hmin : (if lu < lo then (lu : Int) else (lo : Int)) = ((min lo lu : Nat) : Int) := by split <;> omega
      gi_wp2_with (fail)
      refine wpIn_flowM (F0 := (Fence.wide.inRound yl)) (n0 := 3) (fun _ => trivial) (fun h => by cases h) (by kernel_rfl) (by kernel_rfl) 22 21 (by kernel_rfl) (fun j => ([0, 1, 2, 3, 4, 5, 6, 7, 8, 9, 10, 11, 12, 13, 14, 15, 16, 17, 18, 19, 20] : List Nat).getD j 0) (fun j => ([81, 82, 83, 84, 85, 86, 87, 88, 89, 90, 91, 92, 93, 94, 95, 96, 97, 98, 99, 100, 101] : List Nat).getD j 0) (by kernel_rfl) (by kernel_rfl) (by kernel_rfl) (by kernel_rfl) (by kernel_rfl) (by kernel_rfl) (by kernel_rfl) (fun j zv => ([(fun zv => zv = (.pointer (some ⟨sb, 0, none⟩))), (fun zv => zv = (.pointer (some ⟨sb, 0, none⟩))), (fun zv => zv = (.pointer (some ⟨sb, 2, none⟩))), (fun zv => zv = (.slice (some ⟨qb, 0, none⟩) n n)), (fun zv => zv = (.int .i64 (v : Int))), (fun zv => zv = (.pointer (some ⟨sb, 0, none⟩))), (fun zv => zv = (.pointer (some ⟨sb, 0, none⟩))), (fun zv => zv = (.pointer (some ⟨sb, 2, none⟩))), (fun zv => zv = (.slice (some ⟨qb, 0, none⟩) n n)), (fun zv => zv = (.int .i64 (v : Int))), (fun zv => zv = (.pointer (some ⟨qb, v, none⟩))), (fun zv => zv = (.int .i64 (lo : Int))), (fun zv => zv = (.pointer (some ⟨sb, 0, none⟩))), (fun zv => zv = (.pointer (some ⟨sb, 0, none⟩))), (fun zv => zv = (.pointer (some ⟨sb, 2, none⟩))), (fun zv => zv = (.slice (some ⟨qb, 0, none⟩) n n)), (fun zv => zv = (.int .i64 (u : Int))), (fun zv => zv = (.pointer (some ⟨qb, u, none⟩))), (fun zv => zv = (.int .i64 (lu : Int))), (fun zv => zv = (.int .i64 ((min lo lu : Nat) : Int))), (fun zv => zv = (.pointer (some ⟨qb, v, none⟩)))] : List (Value → Prop)).getD j (fun _ => True) zv) (fun d _ W => (d 21 = false → W = W2.drew) ∧ (d 21 = true → W = W2.drew.setCell ⟨qb, v, none⟩ (.int .i64 ((min lo lu : Nat) : Int))) ∧ (d 21 = true → ∀ q, q < 21 → d q = true)) ?h0q ?stepq ?finq
      case h0q => exact fun _ => ⟨(fun _ => rfl), (fun h => by cases h), (fun h => by cases h)⟩
      case stepq =>
       intro i o a W d vs hi ho hdi hJ hf hr hF
       replace hi : i < 22 := hi
       rcases (show i = 0 ∨ i = 1 ∨ i = 2 ∨ i = 3 ∨ i = 4 ∨ i = 5 ∨ i = 6 ∨ i = 7 ∨ i = 8 ∨ i = 9 ∨ i = 10 ∨ i = 11 ∨ i = 12 ∨ i = 13 ∨ i = 14 ∨ i = 15 ∨ i = 16 ∨ i = 17 ∨ i = 18 ∨ i = 19 ∨ i = 20 ∨ i = 21 by omega) with rfl | rfl | rfl | rfl | rfl | rfl | rfl | rfl | rfl | rfl | rfl | rfl | rfl | rfl | rfl | rfl | rfl | rfl | rfl | rfl | rfl | rfl
       all_goals
        replace ho := op_at ho (by rfl)
        subst ho
       ·have f2 : a.tmps.getD 2 undef = (.pointer (some ⟨b2, 0, none⟩)) := hf 2 (by kernel_rfl)
        have nd : d 21 = false := by cases h : d 21 with | false => rfl | true => have h1 := hJ.2.2 h 0 (by decide); rw [hdi] at h1; cases h1
        have hW := hJ.1 nd
        subst hW
        exact .inl ⟨(fun k b h => by cases h), .inl ⟨0, by decide, rfl, (.pointer (some ⟨sb, 0, none⟩)), W2.drew, (by simp [go_sem, Act.eval, f2, dx2]), rfl, ⟨(fun _ => rfl), (fun h => by rw [updC_ne (by omega), nd] at h; cases h), (fun h => by rw [updC_ne (by omega), nd] at h; cases h)⟩⟩⟩
       ·have d0 : a.tmps.getD 81 undef = (.pointer (some ⟨sb, 0, none⟩)) := fdn (hF 0 (by decide) (hr 0 (by kernel_rfl)))
        have nd : d 21 = false := by cases h : d 21 with | false => rfl | true => have h1 := hJ.2.2 h 1 (by decide); rw [hdi] at h1; cases h1
        have hW := hJ.1 nd
        subst hW
        exact .inl ⟨(fun k b h => by cases h), .inl ⟨1, by decide, rfl, (.pointer (some ⟨sb, 0, none⟩)), W2.drew, (by simp [go_sem, Act.eval, d0]), rfl, ⟨(fun _ => rfl), (fun h => by rw [updC_ne (by omega), nd] at h; cases h), (fun h => by rw [updC_ne (by omega), nd] at h; cases h)⟩⟩⟩
       ·have d1 : a.tmps.getD 82 undef = (.pointer (some ⟨sb, 0, none⟩)) := fdn (hF 1 (by decide) (hr 1 (by kernel_rfl)))
        have nd : d 21 = false := by cases h : d 21 with | false => rfl | true => have h1 := hJ.2.2 h 2 (by decide); rw [hdi] at h1; cases h1
        have hW := hJ.1 nd
        subst hW
        exact .inl ⟨(fun k b h => by cases h), .inl ⟨2, by decide, rfl, (.pointer (some ⟨sb, 2, none⟩)), W2.drew, (by simp [go_sem, Act.eval, d1]), rfl, ⟨(fun _ => rfl), (fun h => by rw [updC_ne (by omega), nd] at h; cases h), (fun h => by rw [updC_ne (by omega), nd] at h; cases h)⟩⟩⟩
       ·have d2 : a.tmps.getD 83 undef = (.pointer (some ⟨sb, 2, none⟩)) := fdn (hF 2 (by decide) (hr 2 (by kernel_rfl)))
        have nd : d 21 = false := by cases h : d 21 with | false => rfl | true => have h1 := hJ.2.2 h 3 (by decide); rw [hdi] at h1; cases h1
        have hW := hJ.1 nd
        subst hW
        exact .inl ⟨(fun k b h => by cases h), .inl ⟨3, by decide, rfl, (.slice (some ⟨qb, 0, none⟩) n n), W2.drew, (by simp [go_sem, Act.eval, d2, cr2]), rfl, ⟨(fun _ => rfl), (fun h => by rw [updC_ne (by omega), nd] at h; cases h), (fun h => by rw [updC_ne (by omega), nd] at h; cases h)⟩⟩⟩
       ·have f5 : a.tmps.getD 5 undef = (.pointer (some ⟨p5, 0, none⟩)) := hf 5 (by kernel_rfl)
        have nd : d 21 = false := by cases h : d 21 with | false => rfl | true => have h1 := hJ.2.2 h 4 (by decide); rw [hdi] at h1; cases h1
        have hW := hJ.1 nd
        subst hW
        exact .inl ⟨(fun k b h => by cases h), .inl ⟨4, by decide, rfl, (.int .i64 (v : Int)), W2.drew, (by simp [go_sem, Act.eval, f5, dx5]), rfl, ⟨(fun _ => rfl), (fun h => by rw [updC_ne (by omega), nd] at h; cases h), (fun h => by rw [updC_ne (by omega), nd] at h; cases h)⟩⟩⟩
       ·have f2 : a.tmps.getD 2 undef = (.pointer (some ⟨b2, 0, none⟩)) := hf 2 (by kernel_rfl)
        have nd : d 21 = false := by cases h : d 21 with | false => rfl | true => have h1 := hJ.2.2 h 5 (by decide); rw [hdi] at h1; cases h1
        have hW := hJ.1 nd
        subst hW
        exact .inl ⟨(fun k b h => by cases h), .inl ⟨5, by decide, rfl, (.pointer (some ⟨sb, 0, none⟩)), W2.drew, (by simp [go_sem, Act.eval, f2, dx2]), rfl, ⟨(fun _ => rfl), (fun h => by rw [updC_ne (by omega), nd] at h; cases h), (fun h => by rw [updC_ne (by omega), nd] at h; cases h)⟩⟩⟩
       ·have d5 : a.tmps.getD 86 undef = (.pointer (some ⟨sb, 0, none⟩)) := fdn (hF 5 (by decide) (hr 5 (by kernel_rfl)))
        have nd : d 21 = false := by cases h : d 21 with | false => rfl | true => have h1 := hJ.2.2 h 6 (by decide); rw [hdi] at h1; cases h1
        have hW := hJ.1 nd
        subst hW
        exact .inl ⟨(fun k b h => by cases h), .inl ⟨6, by decide, rfl, (.pointer (some ⟨sb, 0, none⟩)), W2.drew, (by simp [go_sem, Act.eval, d5]), rfl, ⟨(fun _ => rfl), (fun h => by rw [updC_ne (by omega), nd] at h; cases h), (fun h => by rw [updC_ne (by omega), nd] at h; cases h)⟩⟩⟩
       ·have d6 : a.tmps.getD 87 undef = (.pointer (some ⟨sb, 0, none⟩)) := fdn (hF 6 (by decide) (hr 6 (by kernel_rfl)))
        have nd : d 21 = false := by cases h : d 21 with | false => rfl | true => have h1 := hJ.2.2 h 7 (by decide); rw [hdi] at h1; cases h1
        have hW := hJ.1 nd
        subst hW
        exact .inl ⟨(fun k b h => by cases h), .inl ⟨7, by decide, rfl, (.pointer (some ⟨sb, 2, none⟩)), W2.drew, (by simp [go_sem, Act.eval, d6]), rfl, ⟨(fun _ => rfl), (fun h => by rw [updC_ne (by omega), nd] at h; cases h), (fun h => by rw [updC_ne (by omega), nd] at h; cases h)⟩⟩⟩
       ·have d7 : a.tmps.getD 88 undef = (.pointer (some ⟨sb, 2, none⟩)) := fdn (hF 7 (by decide) (hr 7 (by kernel_rfl)))
        have nd : d 21 = false := by cases h : d 21 with | false => rfl | true => have h1 := hJ.2.2 h 8 (by decide); rw [hdi] at h1; cases h1
        have hW := hJ.1 nd
        subst hW
        exact .inl ⟨(fun k b h => by cases h), .inl ⟨8, by decide, rfl, (.slice (some ⟨qb, 0, none⟩) n n), W2.drew, (by simp [go_sem, Act.eval, d7, cr2]), rfl, ⟨(fun _ => rfl), (fun h => by rw [updC_ne (by omega), nd] at h; cases h), (fun h => by rw [updC_ne (by omega), nd] at h; cases h)⟩⟩⟩
       ·have f5 : a.tmps.getD 5 undef = (.pointer (some ⟨p5, 0, none⟩)) := hf 5 (by kernel_rfl)
        have nd : d 21 = false := by cases h : d 21 with | false => rfl | true => have h1 := hJ.2.2 h 9 (by decide); rw [hdi] at h1; cases h1
        have hW := hJ.1 nd
        subst hW
        exact .inl ⟨(fun k b h => by cases h), .inl ⟨9, by decide, rfl, (.int .i64 (v : Int)), W2.drew, (by simp [go_sem, Act.eval, f5, dx5]), rfl, ⟨(fun _ => rfl), (fun h => by rw [updC_ne (by omega), nd] at h; cases h), (fun h => by rw [updC_ne (by omega), nd] at h; cases h)⟩⟩⟩
       ·have d8 : a.tmps.getD 89 undef = (.slice (some ⟨qb, 0, none⟩) n n) := fdn (hF 8 (by decide) (hr 8 (by kernel_rfl)))
        have d9 : a.tmps.getD 90 undef = (.int .i64 (v : Int)) := fdn (hF 9 (by decide) (hr 9 (by kernel_rfl)))
        have nd : d 21 = false := by cases h : d 21 with | false => rfl | true => have h1 := hJ.2.2 h 10 (by decide); rw [hdi] at h1; cases h1
        have hW := hJ.1 nd
        subst hW
        exact .inl ⟨(fun k b h => by cases h), .inl ⟨10, by decide, rfl, (.pointer (some ⟨qb, v, none⟩)), W2.drew, (by simp [go_sem, Act.eval, d8, d9, hvn]), rfl, ⟨(fun _ => rfl), (fun h => by rw [updC_ne (by omega), nd] at h; cases h), (fun h => by rw [updC_ne (by omega), nd] at h; cases h)⟩⟩⟩
       ·have d10 : a.tmps.getD 91 undef = (.pointer (some ⟨qb, v, none⟩)) := fdn (hF 10 (by decide) (hr 10 (by kernel_rfl)))
        have nd : d 21 = false := by cases h : d 21 with | false => rfl | true => have h1 := hJ.2.2 h 11 (by decide); rw [hdi] at h1; cases h1
        have hW := hJ.1 nd
        subst hW
        exact .inl ⟨(fun k b h => by cases h), .inl ⟨11, by decide, rfl, (.int .i64 (lo : Int)), W2.drew, (by simp [go_sem, Act.eval, d10, dqv]), rfl, ⟨(fun _ => rfl), (fun h => by rw [updC_ne (by omega), nd] at h; cases h), (fun h => by rw [updC_ne (by omega), nd] at h; cases h)⟩⟩⟩
       ·have f2 : a.tmps.getD 2 undef = (.pointer (some ⟨b2, 0, none⟩)) := hf 2 (by kernel_rfl)
        have nd : d 21 = false := by cases h : d 21 with | false => rfl | true => have h1 := hJ.2.2 h 12 (by decide); rw [hdi] at h1; cases h1
        have hW := hJ.1 nd
        subst hW
        exact .inl ⟨(fun k b h => by cases h), .inl ⟨12, by decide, rfl, (.pointer (some ⟨sb, 0, none⟩)), W2.drew, (by simp [go_sem, Act.eval, f2, dx2]), rfl, ⟨(fun _ => rfl), (fun h => by rw [updC_ne (by omega), nd] at h; cases h), (fun h => by rw [updC_ne (by omega), nd] at h; cases h)⟩⟩⟩
       ·have d12 : a.tmps.getD 93 undef = (.pointer (some ⟨sb, 0, none⟩)) := fdn (hF 12 (by decide) (hr 12 (by kernel_rfl)))
        have nd : d 21 = false := by cases h : d 21 with | false => rfl | true => have h1 := hJ.2.2 h 13 (by decide); rw [hdi] at h1; cases h1
        have hW := hJ.1 nd
        subst hW
        exact .inl ⟨(fun k b h => by cases h), .inl ⟨13, by decide, rfl, (.pointer (some ⟨sb, 0, none⟩)), W2.drew, (by simp [go_sem, Act.eval, d12]), rfl, ⟨(fun _ => rfl), (fun h => by rw [updC_ne (by omega), nd] at h; cases h), (fun h => by rw [updC_ne (by omega), nd] at h; cases h)⟩⟩⟩
       ·have d13 : a.tmps.getD 94 undef = (.pointer (some ⟨sb, 0, none⟩)) := fdn (hF 13 (by decide) (hr 13 (by kernel_rfl)))
        have nd : d 21 = false := by cases h : d 21 with | false => rfl | true => have h1 := hJ.2.2 h 14 (by decide); rw [hdi] at h1; cases h1
        have hW := hJ.1 nd
        subst hW
        exact .inl ⟨(fun k b h => by cases h), .inl ⟨14, by decide, rfl, (.pointer (some ⟨sb, 2, none⟩)), W2.drew, (by simp [go_sem, Act.eval, d13]), rfl, ⟨(fun _ => rfl), (fun h => by rw [updC_ne (by omega), nd] at h; cases h), (fun h => by rw [updC_ne (by omega), nd] at h; cases h)⟩⟩⟩
       ·have d14 : a.tmps.getD 95 undef = (.pointer (some ⟨sb, 2, none⟩)) := fdn (hF 14 (by decide) (hr 14 (by kernel_rfl)))
        have nd : d 21 = false := by cases h : d 21 with | false => rfl | true => have h1 := hJ.2.2 h 15 (by decide); rw [hdi] at h1; cases h1
        have hW := hJ.1 nd
        subst hW
        exact .inl ⟨(fun k b h => by cases h), .inl ⟨15, by decide, rfl, (.slice (some ⟨qb, 0, none⟩) n n), W2.drew, (by simp [go_sem, Act.eval, d14, cr2]), rfl, ⟨(fun _ => rfl), (fun h => by rw [updC_ne (by omega), nd] at h; cases h), (fun h => by rw [updC_ne (by omega), nd] at h; cases h)⟩⟩⟩
       ·have f9 : a.tmps.getD 9 undef = (.int .i64 (u : Int)) := hf 9 (by kernel_rfl)
        have nd : d 21 = false := by cases h : d 21 with | false => rfl | true => have h1 := hJ.2.2 h 16 (by decide); rw [hdi] at h1; cases h1
        have hW := hJ.1 nd
        subst hW
        exact .inl ⟨(fun k b h => by cases h), .inl ⟨16, by decide, rfl, (.int .i64 (u : Int)), W2.drew, (by simp [go_sem, Act.eval, f9]), rfl, ⟨(fun _ => rfl), (fun h => by rw [updC_ne (by omega), nd] at h; cases h), (fun h => by rw [updC_ne (by omega), nd] at h; cases h)⟩⟩⟩
       ·have d15 : a.tmps.getD 96 undef = (.slice (some ⟨qb, 0, none⟩) n n) := fdn (hF 15 (by decide) (hr 15 (by kernel_rfl)))
        have d16 : a.tmps.getD 97 undef = (.int .i64 (u : Int)) := fdn (hF 16 (by decide) (hr 16 (by kernel_rfl)))
        have nd : d 21 = false := by cases h : d 21 with | false => rfl | true => have h1 := hJ.2.2 h 17 (by decide); rw [hdi] at h1; cases h1
        have hW := hJ.1 nd
        subst hW
        exact .inl ⟨(fun k b h => by cases h), .inl ⟨17, by decide, rfl, (.pointer (some ⟨qb, u, none⟩)), W2.drew, (by simp [go_sem, Act.eval, d15, d16, hun]), rfl, ⟨(fun _ => rfl), (fun h => by rw [updC_ne (by omega), nd] at h; cases h), (fun h => by rw [updC_ne (by omega), nd] at h; cases h)⟩⟩⟩
       ·have d17 : a.tmps.getD 98 undef = (.pointer (some ⟨qb, u, none⟩)) := fdn (hF 17 (by decide) (hr 17 (by kernel_rfl)))
        have nd : d 21 = false := by cases h : d 21 with | false => rfl | true => have h1 := hJ.2.2 h 18 (by decide); rw [hdi] at h1; cases h1
        have hW := hJ.1 nd
        subst hW
        exact .inl ⟨(fun k b h => by cases h), .inl ⟨18, by decide, rfl, (.int .i64 (lu : Int)), W2.drew, (by simp [go_sem, Act.eval, d17, dqu]), rfl, ⟨(fun _ => rfl), (fun h => by rw [updC_ne (by omega), nd] at h; cases h), (fun h => by rw [updC_ne (by omega), nd] at h; cases h)⟩⟩⟩
       ·have d11 : a.tmps.getD 92 undef = (.int .i64 (lo : Int)) := fdn (hF 11 (by decide) (hr 11 (by kernel_rfl)))
        have d18 : a.tmps.getD 99 undef = (.int .i64 (lu : Int)) := fdn (hF 18 (by decide) (hr 18 (by kernel_rfl)))
        have nd : d 21 = false := by cases h : d 21 with | false => rfl | true => have h1 := hJ.2.2 h 19 (by decide); rw [hdi] at h1; cases h1
        have hW := hJ.1 nd
        subst hW
        exact .inl ⟨(fun k b h => by cases h), .inl ⟨19, by decide, rfl, (.int .i64 ((min lo lu : Nat) : Int)), W2.drew, (by simp [go_sem, Act.eval, d11, d18, hmin]), rfl, ⟨(fun _ => rfl), (fun h => by rw [updC_ne (by omega), nd] at h; cases h), (fun h => by rw [updC_ne (by omega), nd] at h; cases h)⟩⟩⟩
       ·have d3 : a.tmps.getD 84 undef = (.slice (some ⟨qb, 0, none⟩) n n) := fdn (hF 3 (by decide) (hr 3 (by kernel_rfl)))
        have d4 : a.tmps.getD 85 undef = (.int .i64 (v : Int)) := fdn (hF 4 (by decide) (hr 4 (by kernel_rfl)))
        have nd : d 21 = false := by cases h : d 21 with | false => rfl | true => have h1 := hJ.2.2 h 20 (by decide); rw [hdi] at h1; cases h1
        have hW := hJ.1 nd
        subst hW
        exact .inl ⟨(fun k b h => by cases h), .inl ⟨20, by decide, rfl, (.pointer (some ⟨qb, v, none⟩)), W2.drew, (by simp [go_sem, Act.eval, d3, d4, hvn]), rfl, ⟨(fun _ => rfl), (fun h => by rw [updC_ne (by omega), nd] at h; cases h), (fun h => by rw [updC_ne (by omega), nd] at h; cases h)⟩⟩⟩
       ·have d20 : a.tmps.getD 101 undef = (.pointer (some ⟨qb, v, none⟩)) := fdn (hF 20 (by decide) (hr 20 (by kernel_rfl)))
        have d19 : a.tmps.getD 100 undef = (.int .i64 ((min lo lu : Nat) : Int)) := fdn (hF 19 (by decide) (hr 19 (by kernel_rfl)))
        have hW := hJ.1 hdi
        subst hW
        exact .inl ⟨(fun k b h => by cases h), .inr (.inl ⟨rfl, W2.drew.setCell ⟨qb, v, none⟩ (.int .i64 ((min lo lu : Nat) : Int)), (by simp [go_sem, Act.eval, d20, d19, dqv, dfv]), ⟨(fun h => by rw [updC_eq] at h; cases h), (fun _ => rfl), (fun _ q hq => by rw [updC_ne (by omega)]; rcases (show q = 0 ∨ q = 1 ∨ q = 2 ∨ q = 3 ∨ q = 4 ∨ q = 5 ∨ q = 6 ∨ q = 7 ∨ q = 8 ∨ q = 9 ∨ q = 10 ∨ q = 11 ∨ q = 12 ∨ q = 13 ∨ q = 14 ∨ q = 15 ∨ q = 16 ∨ q = 17 ∨ q = 18 ∨ q = 19 ∨ q = 20 by omega) with rfl | rfl | rfl | rfl | rfl | rfl | rfl | rfl | rfl | rfl | rfl | rfl | rfl | rfl | rfl | rfl | rfl | rfl | rfl | rfl | rfl <;> exact hr _ (by kernel_rfl))⟩⟩)⟩
      case finq =>
       intro d vs Wq hall hJ hF
       have h0 : vs 0 = (.pointer (some ⟨sb, 0, none⟩)) := hF 0 (by decide)
       have h1 : vs 1 = (.pointer (some ⟨sb, 0, none⟩)) := hF 1 (by decide)
       have h2 : vs 2 = (.pointer (some ⟨sb, 2, none⟩)) := hF 2 (by decide)
       have h3 : vs 3 = (.slice (some ⟨qb, 0, none⟩) n n) := hF 3 (by decide)
       have h4 : vs 4 = (.int .i64 (v : Int)) := hF 4 (by decide)
       have h5 : vs 5 = (.pointer (some ⟨sb, 0, none⟩)) := hF 5 (by decide)
       have h6 : vs 6 = (.pointer (some ⟨sb, 0, none⟩)) := hF 6 (by decide)
       have h7 : vs 7 = (.pointer (some ⟨sb, 2, none⟩)) := hF 7 (by decide)
       have h8 : vs 8 = (.slice (some ⟨qb, 0, none⟩) n n) := hF 8 (by decide)
       have h9 : vs 9 = (.int .i64 (v : Int)) := hF 9 (by decide)
       have h10 : vs 10 = (.pointer (some ⟨qb, v, none⟩)) := hF 10 (by decide)
       have h11 : vs 11 = (.int .i64 (lo : Int)) := hF 11 (by decide)
       have h12 : vs 12 = (.pointer (some ⟨sb, 0, none⟩)) := hF 12 (by decide)
       have h13 : vs 13 = (.pointer (some ⟨sb, 0, none⟩)) := hF 13 (by decide)
       have h14 : vs 14 = (.pointer (some ⟨sb, 2, none⟩)) := hF 14 (by decide)
       have h15 : vs 15 = (.slice (some ⟨qb, 0, none⟩) n n) := hF 15 (by decide)
       have h16 : vs 16 = (.int .i64 (u : Int)) := hF 16 (by decide)
       have h17 : vs 17 = (.pointer (some ⟨qb, u, none⟩)) := hF 17 (by decide)
       have h18 : vs 18 = (.int .i64 (lu : Int)) := hF 18 (by decide)
       have h19 : vs 19 = (.int .i64 ((min lo lu : Nat) : Int)) := hF 19 (by decide)
       have h20 : vs 20 = (.pointer (some ⟨qb, v, none⟩)) := hF 20 (by decide)
       clear hF
       show (_ : Exit → Act → World → Prop) Exit.normal (puts _ vs 21 _) Wq
       simp only [puts, h0, h1, h2, h3, h4, h5, h6, h7, h8, h9, h10, h11, h12, h13, h14, h15, h16, h17, h18, h19, h20, List.getD_cons_zero, List.getD_cons_succ]
       clear h0 h1 h2 h3 h4 h5 h6 h7 h8 h9 h10 h11 h12 h13 h14 h15 h16 h17 h18 h19 h20
       have hW := hJ.2.1 (hall 21 (by decide))
       subst hW
       simp only [Act.put, List.setIfInBounds_toArray, List.set_cons_succ, List.set_cons_zero]
       clear hJ hall dx2 cr2 dx5 dqv dqu dfv hmin
       have hsw3 : SW B lv n L sb mb qb eb jb b2 b3 b4 { s2 with low := s2.low.set v (min lo lu) } (W2.drew.setCell ⟨qb, v, none⟩ (.int .i64 ((min lo lu : Nat) : Int))) := (HSW2.out.below (bdN _ _ 1)).setLow
       have HK3 : Hid (K5 sb mb qb eb jb W2 (W2.drew.setCell ⟨qb, v, none⟩ (.int .i64 ((min lo lu : Nat) : Int)))) := (K5.below (bdN _ _ 1) : K5 sb mb qb eb jb W2 W2.drew).trans (K5.set (by simp))
       have HB3 : Hid (Below B W2 (W2.drew.setCell ⟨qb, v, none⟩ (.int .i64 ((min lo lu : Nat) : Int)))) := bel_set HSW2.out.ge.2.2.1 (bdN _ _ 1)
       have HX53 : Hid ((W2.drew.setCell ⟨qb, v, none⟩ (.int .i64 ((min lo lu : Nat) : Int))).heap[p5]? = some (.cells #[.int .i64 (v : Int)] 3 (0, 0))) := (Below.heap_setCell _ _ _ _ HN5.out.1).trans HX52.out
       have HX63 : Hid ((W2.drew.setCell ⟨qb, v, none⟩ (.int .i64 ((min lo lu : Nat) : Int))).heap[p6]? = some (.cells #[.int .i64 by_] 3 (0, 0))) := (Below.heap_setCell _ _ _ _ HN5.out.2.2.2.1).trans HX62.out
       have HX83 : Hid ((W2.drew.setCell ⟨qb, v, none⟩ (.int .i64 ((min lo lu : Nat) : Int))).heap[p8]? = some (.cells #[.int .i64 ((cn : Int) + 1)] 3 (0, 0))) := (Below.heap_setCell _ _ _ _ HP8.out.2.2.1).trans HX82.out
       obtain ⟨W3, hW3⟩ : ∃ W3, W3 = W2.drew.setCell ⟨qb, v, none⟩ (.int .i64 ((min lo lu : Nat) : Int)) := ⟨_, rfl⟩
       rw [← hW3] at hsw3 HK3 HB3 HX53 HX63 HX83 ⊢
       have HSW3 := Lib.hid hsw3
       clear hsw3 hW3
       have dx2 : W3.drew.cell? ⟨b2, 0, none⟩ = some (.pointer (some ⟨sb, 0, none⟩)) := cell_of_row _ _ 0 _ _ _ HSW3.out.x2
       have dr1 : W3.drew.cell? ⟨sb, 1, none⟩ = some (.slice (some ⟨mb, 0, none⟩) n n) := cell_of_row _ _ 1 _ _ _ HSW3.out.rc
       have cr2 : W3.drew.cell? ⟨sb, 2, none⟩ = some (.slice (some ⟨qb, 0, none⟩) n n) := cell_of_row _ _ 2 _ _ _ HSW3.out.rc
       have dr4 : W3.drew.cell? ⟨sb, 4, none⟩ = some (.slice (some ⟨eb, 0, none⟩) m m) := by rw [HM.out]; exact cell_of_row _ _ 4 _ _ _ HSW3.out.rc
       have dx5 : W3.drew.cell? ⟨p5, 0, none⟩ = some (.int .i64 (v : Int)) := cell_of_row _ _ 0 _ _ _ HX53.out
       have dqu : W3.drew.cell? ⟨qb, u, none⟩ = some (.int .i64 (lu : Int)) := by
        have h0 := HSW3.out.low.cell u (by simpa using (show u < _ by rw [HSW2.out.ll]; exact hu))
        rw [getN] at h0
        have h1 : (s2.low.set v (min lo lu)).getD u 0 = s2.low.getD u 0 := getD_set_other _ _ _ _ _ (Ne.symm huv)
        rw [show ({ s2 with low := s2.low.set v (min lo lu) } : Ds).low = s2.low.set v (min lo lu) from rfl, h1, ← HLU.out] at h0
        exact h0
       have dmv : W3.drew.cell? ⟨mb, v, none⟩ = some (.int .i64 (mv : Int)) := by
        have h0 := HSW3.out.met.cell v (by simpa using (show v < _ by rw [HSW2.out.ml]; exact hv))
        rw [getN] at h0
        rw [HMV.out]
        exact h0
       have dek : W3.drew.cell? ⟨eb, k, none⟩ = some (.bool (s2.br.getD k false)) := HSW3.out.br.cell k (by have h0 := HSW2.out.bl; have h1 := HM.out; show k < s2.br.length; omega)
       have dfk : W3.drew.frozen? ⟨eb, k, none⟩ = false := HSW3.out.br.frozen k
       gi_wp2_with (fail)
       refine wpIn_flowM (F0 := (Fence.wide.inRound yl)) (n0 := 3) (fun _ => trivial) (fun h => by cases h) (by kernel_rfl) (by kernel_rfl) 22 21 (by kernel_rfl) (fun j => ([0, 1, 2, 3, 4, 5, 6, 7, 8, 9, 10, 11, 12, 13, 14, 15, 16, 17, 18, 19, 20] : List Nat).getD j 0) (fun j => ([102, 103, 104, 105, 106, 107, 108, 109, 110, 111, 112, 113, 114, 115, 116, 117, 118, 119, 120, 121, 122] : List Nat).getD j 0) (by kernel_rfl) (by kernel_rfl) (by kernel_rfl) (by kernel_rfl) (by kernel_rfl) (by kernel_rfl) (by kernel_rfl) (fun j zv => ([(fun zv => zv = (.pointer (some ⟨sb, 0, none⟩))), (fun zv => zv = (.pointer (some ⟨sb, 0, none⟩))), (fun zv => zv = (.pointer (some ⟨sb, 4, none⟩))), (fun zv => zv = (.slice (some ⟨eb, 0, none⟩) m m)), (fun zv => zv = (.int .i64 (k : Int))), (fun zv => zv = (.pointer (some ⟨sb, 0, none⟩))), (fun zv => zv = (.pointer (some ⟨sb, 0, none⟩))), (fun zv => zv = (.pointer (some ⟨sb, 2, none⟩))), (fun zv => zv = (.slice (some ⟨qb, 0, none⟩) n n)), (fun zv => zv = (.int .i64 (u : Int))), (fun zv => zv = (.pointer (some ⟨qb, u, none⟩))), (fun zv => zv = (.int .i64 (lu : Int))), (fun zv => zv = (.pointer (some ⟨sb, 0, none⟩))), (fun zv => zv = (.pointer (some ⟨sb, 0, none⟩))), (fun zv => zv = (.pointer (some ⟨sb, 1, none⟩))), (fun zv => zv = (.slice (some ⟨mb, 0, none⟩) n n)), (fun zv => zv = (.int .i64 (v : Int))), (fun zv => zv = (.pointer (some ⟨mb, v, none⟩))), (fun zv => zv = (.int .i64 (mv : Int))), (fun zv => zv = (.bool (decide (mv < lu)))), (fun zv => zv = (.pointer (some ⟨eb, k, none⟩)))] : List (Value → Prop)).getD j (fun _ => True) zv) (fun d _ W => (d 21 = false → W = W3.drew) ∧ (d 21 = true → W = W3.drew.setCell ⟨eb, k, none⟩ (.bool (decide (mv < lu)))) ∧ (d 21 = true → ∀ q, q < 21 → d q = true)) ?h0r ?stepr ?finr
       case h0r => exact fun _ => ⟨(fun _ => rfl), (fun h => by cases h), (fun h => by cases h)⟩
       case stepr =>
        intro i o a W d vs hi ho hdi hJ hf hr hF
        replace hi : i < 22 := hi
        rcases (show i = 0 ∨ i = 1 ∨ i = 2 ∨ i = 3 ∨ i = 4 ∨ i = 5 ∨ i = 6 ∨ i = 7 ∨ i = 8 ∨ i = 9 ∨ i = 10 ∨ i = 11 ∨ i = 12 ∨ i = 13 ∨ i = 14 ∨ i = 15 ∨ i = 16 ∨ i = 17 ∨ i = 18 ∨ i = 19 ∨ i = 20 ∨ i = 21 by omega) with rfl | rfl | rfl | rfl | rfl | rfl | rfl | rfl | rfl | rfl | rfl | rfl | rfl | rfl | rfl | rfl | rfl | rfl | rfl | rfl | rfl | rfl
        all_goals
         replace ho := op_at ho (by rfl)
         subst ho
        ·have f2 : a.tmps.getD 2 undef = (.pointer (some ⟨b2, 0, none⟩)) := hf 2 (by kernel_rfl)
         have nd : d 21 = false := by cases h : d 21 with | false => rfl | true => have h1 := hJ.2.2 h 0 (by decide); rw [hdi] at h1; cases h1
         have hW := hJ.1 nd
         subst hW
         exact .inl ⟨(fun k b h => by cases h), .inl ⟨0, by decide, rfl, (.pointer (some ⟨sb, 0, none⟩)), W3.drew, (by simp [go_sem, Act.eval, f2, dx2]), rfl, ⟨(fun _ => rfl), (fun h => by rw [updC_ne (by omega), nd] at h; cases h), (fun h => by rw [updC_ne (by omega), nd] at h; cases h)⟩⟩⟩
        ·have d0 : a.tmps.getD 102 undef = (.pointer (some ⟨sb, 0, none⟩)) := fdn (hF 0 (by decide) (hr 0 (by kernel_rfl)))
         have nd : d 21 = false := by cases h : d 21 with | false => rfl | true => have h1 := hJ.2.2 h 1 (by decide); rw [hdi] at h1; cases h1
         have hW := hJ.1 nd
         subst hW
         exact .inl ⟨(fun k b h => by cases h), .inl ⟨1, by decide, rfl, (.pointer (some ⟨sb, 0, none⟩)), W3.drew, (by simp [go_sem, Act.eval, d0]), rfl, ⟨(fun _ => rfl), (fun h => by rw [updC_ne (by omega), nd] at h; cases h), (fun h => by rw [updC_ne (by omega), nd] at h; cases h)⟩⟩⟩
        ·have d1 : a.tmps.getD 103 undef = (.pointer (some ⟨sb, 0, none⟩)) := fdn (hF 1 (by decide) (hr 1 (by kernel_rfl)))
         have nd : d 21 = false := by cases h : d 21 with | false => rfl | true => have h1 := hJ.2.2 h 2 (by decide); rw [hdi] at h1; cases h1
         have hW := hJ.1 nd
         subst hW
         exact .inl ⟨(fun k b h => by cases h), .inl ⟨2, by decide, rfl, (.pointer (some ⟨sb, 4, none⟩)), W3.drew, (by simp [go_sem, Act.eval, d1]), rfl, ⟨(fun _ => rfl), (fun h => by rw [updC_ne (by omega), nd] at h; cases h), (fun h => by rw [updC_ne (by omega), nd] at h; cases h)⟩⟩⟩
        ·have d2 : a.tmps.getD 104 undef = (.pointer (some ⟨sb, 4, none⟩)) := fdn (hF 2 (by decide) (hr 2 (by kernel_rfl)))
         have nd : d 21 = false := by cases h : d 21 with | false => rfl | true => have h1 := hJ.2.2 h 3 (by decide); rw [hdi] at h1; cases h1
         have hW := hJ.1 nd
         subst hW
         exact .inl ⟨(fun k b h => by cases h), .inl ⟨3, by decide, rfl, (.slice (some ⟨eb, 0, none⟩) m m), W3.drew, (by simp [go_sem, Act.eval, d2, dr4]), rfl, ⟨(fun _ => rfl), (fun h => by rw [updC_ne (by omega), nd] at h; cases h), (fun h => by rw [updC_ne (by omega), nd] at h; cases h)⟩⟩⟩
        ·have f10 : a.tmps.getD 10 undef = (.int .i64 (k : Int)) := hf 10 (by kernel_rfl)
         have nd : d 21 = false := by cases h : d 21 with | false => rfl | true => have h1 := hJ.2.2 h 4 (by decide); rw [hdi] at h1; cases h1
         have hW := hJ.1 nd
         subst hW
         exact .inl ⟨(fun k b h => by cases h), .inl ⟨4, by decide, rfl, (.int .i64 (k : Int)), W3.drew, (by simp [go_sem, Act.eval, f10]), rfl, ⟨(fun _ => rfl), (fun h => by rw [updC_ne (by omega), nd] at h; cases h), (fun h => by rw [updC_ne (by omega), nd] at h; cases h)⟩⟩⟩
        ·have f2 : a.tmps.getD 2 undef = (.pointer (some ⟨b2, 0, none⟩)) := hf 2 (by kernel_rfl)
         have nd : d 21 = false := by cases h : d 21 with | false => rfl | true => have h1 := hJ.2.2 h 5 (by decide); rw [hdi] at h1; cases h1
         have hW := hJ.1 nd
         subst hW
         exact .inl ⟨(fun k b h => by cases h), .inl ⟨5, by decide, rfl, (.pointer (some ⟨sb, 0, none⟩)), W3.drew, (by simp [go_sem, Act.eval, f2, dx2]), rfl, ⟨(fun _ => rfl), (fun h => by rw [updC_ne (by omega), nd] at h; cases h), (fun h => by rw [updC_ne (by omega), nd] at h; cases h)⟩⟩⟩
        ·have d5 : a.tmps.getD 107 undef = (.pointer (some ⟨sb, 0, none⟩)) := fdn (hF 5 (by decide) (hr 5 (by kernel_rfl)))
         have nd : d 21 = false := by cases h : d 21 with | false => rfl | true => have h1 := hJ.2.2 h 6 (by decide); rw [hdi] at h1; cases h1
         have hW := hJ.1 nd
         subst hW
         exact .inl ⟨(fun k b h => by cases h), .inl ⟨6, by decide, rfl, (.pointer (some ⟨sb, 0, none⟩)), W3.drew, (by simp [go_sem, Act.eval, d5]), rfl, ⟨(fun _ => rfl), (fun h => by rw [updC_ne (by omega), nd] at h; cases h), (fun h => by rw [updC_ne (by omega), nd] at h; cases h)⟩⟩⟩
        ·have d6 : a.tmps.getD 108 undef = (.pointer (some ⟨sb, 0, none⟩)) := fdn (hF 6 (by decide) (hr 6 (by kernel_rfl)))
         have nd : d 21 = false := by cases h : d 21 with | false => rfl | true => have h1 := hJ.2.2 h 7 (by decide); rw [hdi] at h1; cases h1
         have hW := hJ.1 nd
         subst hW
         exact .inl ⟨(fun k b h => by cases h), .inl ⟨7, by decide, rfl, (.pointer (some ⟨sb, 2, none⟩)), W3.drew, (by simp [go_sem, Act.eval, d6]), rfl, ⟨(fun _ => rfl), (fun h => by rw [updC_ne (by omega), nd] at h; cases h), (fun h => by rw [updC_ne (by omega), nd] at h; cases h)⟩⟩⟩
        ·have d7 : a.tmps.getD 109 undef = (.pointer (some ⟨sb, 2, none⟩)) := fdn (hF 7 (by decide) (hr 7 (by kernel_rfl)))
         have nd : d 21 = false := by cases h : d 21 with | false => rfl | true => have h1 := hJ.2.2 h 8 (by decide); rw [hdi] at h1; cases h1
         have hW := hJ.1 nd
         subst hW
         exact .inl ⟨(fun k b h => by cases h), .inl ⟨8, by decide, rfl, (.slice (some ⟨qb, 0, none⟩) n n), W3.drew, (by simp [go_sem, Act.eval, d7, cr2]), rfl, ⟨(fun _ => rfl), (fun h => by rw [updC_ne (by omega), nd] at h; cases h), (fun h => by rw [updC_ne (by omega), nd] at h; cases h)⟩⟩⟩
        ·have f9 : a.tmps.getD 9 undef = (.int .i64 (u : Int)) := hf 9 (by kernel_rfl)
         have nd : d 21 = false := by cases h : d 21 with | false => rfl | true => have h1 := hJ.2.2 h 9 (by decide); rw [hdi] at h1; cases h1
         have hW := hJ.1 nd
         subst hW
         exact .inl ⟨(fun k b h => by cases h), .inl ⟨9, by decide, rfl, (.int .i64 (u : Int)), W3.drew, (by simp [go_sem, Act.eval, f9]), rfl, ⟨(fun _ => rfl), (fun h => by rw [updC_ne (by omega), nd] at h; cases h), (fun h => by rw [updC_ne (by omega), nd] at h; cases h)⟩⟩⟩
        ·have d8 : a.tmps.getD 110 undef = (.slice (some ⟨qb, 0, none⟩) n n) := fdn (hF 8 (by decide) (hr 8 (by kernel_rfl)))
         have d9 : a.tmps.getD 111 undef = (.int .i64 (u : Int)) := fdn (hF 9 (by decide) (hr 9 (by kernel_rfl)))
         have nd : d 21 = false := by cases h : d 21 with | false => rfl | true => have h1 := hJ.2.2 h 10 (by decide); rw [hdi] at h1; cases h1
         have hW := hJ.1 nd
         subst hW
         exact .inl ⟨(fun k b h => by cases h), .inl ⟨10, by decide, rfl, (.pointer (some ⟨qb, u, none⟩)), W3.drew, (by simp [go_sem, Act.eval, d8, d9, hun]), rfl, ⟨(fun _ => rfl), (fun h => by rw [updC_ne (by omega), nd] at h; cases h), (fun h => by rw [updC_ne (by omega), nd] at h; cases h)⟩⟩⟩
        ·have d10 : a.tmps.getD 112 undef = (.pointer (some ⟨qb, u, none⟩)) := fdn (hF 10 (by decide) (hr 10 (by kernel_rfl)))
         have nd : d 21 = false := by cases h : d 21 with | false => rfl | true => have h1 := hJ.2.2 h 11 (by decide); rw [hdi] at h1; cases h1
         have hW := hJ.1 nd
         subst hW
         exact .inl ⟨(fun k b h => by cases h), .inl ⟨11, by decide, rfl, (.int .i64 (lu : Int)), W3.drew, (by simp [go_sem, Act.eval, d10, dqu]), rfl, ⟨(fun _ => rfl), (fun h => by rw [updC_ne (by omega), nd] at h; cases h), (fun h => by rw [updC_ne (by omega), nd] at h; cases h)⟩⟩⟩
        ·have f2 : a.tmps.getD 2 undef = (.pointer (some ⟨b2, 0, none⟩)) := hf 2 (by kernel_rfl)
         have nd : d 21 = false := by cases h : d 21 with | false => rfl | true => have h1 := hJ.2.2 h 12 (by decide); rw [hdi] at h1; cases h1
         have hW := hJ.1 nd
         subst hW
         exact .inl ⟨(fun k b h => by cases h), .inl ⟨12, by decide, rfl, (.pointer (some ⟨sb, 0, none⟩)), W3.drew, (by simp [go_sem, Act.eval, f2, dx2]), rfl, ⟨(fun _ => rfl), (fun h => by rw [updC_ne (by omega), nd] at h; cases h), (fun h => by rw [updC_ne (by omega), nd] at h; cases h)⟩⟩⟩
        ·have d12 : a.tmps.getD 114 undef = (.pointer (some ⟨sb, 0, none⟩)) := fdn (hF 12 (by decide) (hr 12 (by kernel_rfl)))
         have nd : d 21 = false := by cases h : d 21 with | false => rfl | true => have h1 := hJ.2.2 h 13 (by decide); rw [hdi] at h1; cases h1
         have hW := hJ.1 nd
         subst hW
         exact .inl ⟨(fun k b h => by cases h), .inl ⟨13, by decide, rfl, (.pointer (some ⟨sb, 0, none⟩)), W3.drew, (by simp [go_sem, Act.eval, d12]), rfl, ⟨(fun _ => rfl), (fun h => by rw [updC_ne (by omega), nd] at h; cases h), (fun h => by rw [updC_ne (by omega), nd] at h; cases h)⟩⟩⟩
        ·have d13 : a.tmps.getD 115 undef = (.pointer (some ⟨sb, 0, none⟩)) := fdn (hF 13 (by decide) (hr 13 (by kernel_rfl)))
         have nd : d 21 = false := by cases h : d 21 with | false => rfl | true => have h1 := hJ.2.2 h 14 (by decide); rw [hdi] at h1; cases h1
         have hW := hJ.1 nd
         subst hW
         exact .inl ⟨(fun k b h => by cases h), .inl ⟨14, by decide, rfl, (.pointer (some ⟨sb, 1, none⟩)), W3.drew, (by simp [go_sem, Act.eval, d13]), rfl, ⟨(fun _ => rfl), (fun h => by rw [updC_ne (by omega), nd] at h; cases h), (fun h => by rw [updC_ne (by omega), nd] at h; cases h)⟩⟩⟩
        ·have d14 : a.tmps.getD 116 undef = (.pointer (some ⟨sb, 1, none⟩)) := fdn (hF 14 (by decide) (hr 14 (by kernel_rfl)))
         have nd : d 21 = false := by cases h : d 21 with | false => rfl | true => have h1 := hJ.2.2 h 15 (by decide); rw [hdi] at h1; cases h1
         have hW := hJ.1 nd
         subst hW
         exact .inl ⟨(fun k b h => by cases h), .inl ⟨15, by decide, rfl, (.slice (some ⟨mb, 0, none⟩) n n), W3.drew, (by simp [go_sem, Act.eval, d14, dr1]), rfl, ⟨(fun _ => rfl), (fun h => by rw [updC_ne (by omega), nd] at h; cases h), (fun h => by rw [updC_ne (by omega), nd] at h; cases h)⟩⟩⟩
        ·have f5 : a.tmps.getD 5 undef = (.pointer (some ⟨p5, 0, none⟩)) := hf 5 (by kernel_rfl)
         have nd : d 21 = false := by cases h : d 21 with | false => rfl | true => have h1 := hJ.2.2 h 16 (by decide); rw [hdi] at h1; cases h1
         have hW := hJ.1 nd
         subst hW
         exact .inl ⟨(fun k b h => by cases h), .inl ⟨16, by decide, rfl, (.int .i64 (v : Int)), W3.drew, (by simp [go_sem, Act.eval, f5, dx5]), rfl, ⟨(fun _ => rfl), (fun h => by rw [updC_ne (by omega), nd] at h; cases h), (fun h => by rw [updC_ne (by omega), nd] at h; cases h)⟩⟩⟩
        ·have d15 : a.tmps.getD 117 undef = (.slice (some ⟨mb, 0, none⟩) n n) := fdn (hF 15 (by decide) (hr 15 (by kernel_rfl)))
         have d16 : a.tmps.getD 118 undef = (.int .i64 (v : Int)) := fdn (hF 16 (by decide) (hr 16 (by kernel_rfl)))
         have nd : d 21 = false := by cases h : d 21 with | false => rfl | true => have h1 := hJ.2.2 h 17 (by decide); rw [hdi] at h1; cases h1
         have hW := hJ.1 nd
         subst hW
         exact .inl ⟨(fun k b h => by cases h), .inl ⟨17, by decide, rfl, (.pointer (some ⟨mb, v, none⟩)), W3.drew, (by simp [go_sem, Act.eval, d15, d16, hvn]), rfl, ⟨(fun _ => rfl), (fun h => by rw [updC_ne (by omega), nd] at h; cases h), (fun h => by rw [updC_ne (by omega), nd] at h; cases h)⟩⟩⟩
        ·have d17 : a.tmps.getD 119 undef = (.pointer (some ⟨mb, v, none⟩)) := fdn (hF 17 (by decide) (hr 17 (by kernel_rfl)))
         have nd : d 21 = false := by cases h : d 21 with | false => rfl | true => have h1 := hJ.2.2 h 18 (by decide); rw [hdi] at h1; cases h1
         have hW := hJ.1 nd
         subst hW
         exact .inl ⟨(fun k b h => by cases h), .inl ⟨18, by decide, rfl, (.int .i64 (mv : Int)), W3.drew, (by simp [go_sem, Act.eval, d17, dmv]), rfl, ⟨(fun _ => rfl), (fun h => by rw [updC_ne (by omega), nd] at h; cases h), (fun h => by rw [updC_ne (by omega), nd] at h; cases h)⟩⟩⟩
        ·have d11 : a.tmps.getD 113 undef = (.int .i64 (lu : Int)) := fdn (hF 11 (by decide) (hr 11 (by kernel_rfl)))
         have d18 : a.tmps.getD 120 undef = (.int .i64 (mv : Int)) := fdn (hF 18 (by decide) (hr 18 (by kernel_rfl)))
         have nd : d 21 = false := by cases h : d 21 with | false => rfl | true => have h1 := hJ.2.2 h 19 (by decide); rw [hdi] at h1; cases h1
         have hW := hJ.1 nd
         subst hW
         exact .inl ⟨(fun k b h => by cases h), .inl ⟨19, by decide, rfl, (.bool (decide (mv < lu))), W3.drew, (by simp [go_sem, Act.eval, d11, d18]), rfl, ⟨(fun _ => rfl), (fun h => by rw [updC_ne (by omega), nd] at h; cases h), (fun h => by rw [updC_ne (by omega), nd] at h; cases h)⟩⟩⟩
        ·have d3 : a.tmps.getD 105 undef = (.slice (some ⟨eb, 0, none⟩) m m) := fdn (hF 3 (by decide) (hr 3 (by kernel_rfl)))
         have d4 : a.tmps.getD 106 undef = (.int .i64 (k : Int)) := fdn (hF 4 (by decide) (hr 4 (by kernel_rfl)))
         have nd : d 21 = false := by cases h : d 21 with | false => rfl | true => have h1 := hJ.2.2 h 20 (by decide); rw [hdi] at h1; cases h1
         have hW := hJ.1 nd
         subst hW
         exact .inl ⟨(fun k b h => by cases h), .inl ⟨20, by decide, rfl, (.pointer (some ⟨eb, k, none⟩)), W3.drew, (by simp [go_sem, Act.eval, d3, d4, hkn]), rfl, ⟨(fun _ => rfl), (fun h => by rw [updC_ne (by omega), nd] at h; cases h), (fun h => by rw [updC_ne (by omega), nd] at h; cases h)⟩⟩⟩
        ·have d20 : a.tmps.getD 122 undef = (.pointer (some ⟨eb, k, none⟩)) := fdn (hF 20 (by decide) (hr 20 (by kernel_rfl)))
         have d19 : a.tmps.getD 121 undef = (.bool (decide (mv < lu))) := fdn (hF 19 (by decide) (hr 19 (by kernel_rfl)))
         have hW := hJ.1 hdi
         subst hW
         exact .inl ⟨(fun k b h => by cases h), .inr (.inl ⟨rfl, W3.drew.setCell ⟨eb, k, none⟩ (.bool (decide (mv < lu))), (by simp [go_sem, Act.eval, d20, d19, dek, dfk]), ⟨(fun h => by rw [updC_eq] at h; cases h), (fun _ => rfl), (fun _ q hq => by rw [updC_ne (by omega)]; rcases (show q = 0 ∨ q = 1 ∨ q = 2 ∨ q = 3 ∨ q = 4 ∨ q = 5 ∨ q = 6 ∨ q = 7 ∨ q = 8 ∨ q = 9 ∨ q = 10 ∨ q = 11 ∨ q = 12 ∨ q = 13 ∨ q = 14 ∨ q = 15 ∨ q = 16 ∨ q = 17 ∨ q = 18 ∨ q = 19 ∨ q = 20 by omega) with rfl | rfl | rfl | rfl | rfl | rfl | rfl | rfl | rfl | rfl | rfl | rfl | rfl | rfl | rfl | rfl | rfl | rfl | rfl | rfl | rfl <;> exact hr _ (by kernel_rfl))⟩⟩)⟩
       case finr =>
        intro d vs Wr hall hJ hF
        have h0 : vs 0 = (.pointer (some ⟨sb, 0, none⟩)) := hF 0 (by decide)
        have h1 : vs 1 = (.pointer (some ⟨sb, 0, none⟩)) := hF 1 (by decide)
        have h2 : vs 2 = (.pointer (some ⟨sb, 4, none⟩)) := hF 2 (by decide)
        have h3 : vs 3 = (.slice (some ⟨eb, 0, none⟩) m m) := hF 3 (by decide)
        have h4 : vs 4 = (.int .i64 (k : Int)) := hF 4 (by decide)
        have h5 : vs 5 = (.pointer (some ⟨sb, 0, none⟩)) := hF 5 (by decide)
        have h6 : vs 6 = (.pointer (some ⟨sb, 0, none⟩)) := hF 6 (by decide)
        have h7 : vs 7 = (.pointer (some ⟨sb, 2, none⟩)) := hF 7 (by decide)
        have h8 : vs 8 = (.slice (some ⟨qb, 0, none⟩) n n) := hF 8 (by decide)
        have h9 : vs 9 = (.int .i64 (u : Int)) := hF 9 (by decide)
        have h10 : vs 10 = (.pointer (some ⟨qb, u, none⟩)) := hF 10 (by decide)
        have h11 : vs 11 = (.int .i64 (lu : Int)) := hF 11 (by decide)
        have h12 : vs 12 = (.pointer (some ⟨sb, 0, none⟩)) := hF 12 (by decide)
        have h13 : vs 13 = (.pointer (some ⟨sb, 0, none⟩)) := hF 13 (by decide)
        have h14 : vs 14 = (.pointer (some ⟨sb, 1, none⟩)) := hF 14 (by decide)
        have h15 : vs 15 = (.slice (some ⟨mb, 0, none⟩) n n) := hF 15 (by decide)
        have h16 : vs 16 = (.int .i64 (v : Int)) := hF 16 (by decide)
        have h17 : vs 17 = (.pointer (some ⟨mb, v, none⟩)) := hF 17 (by decide)
        have h18 : vs 18 = (.int .i64 (mv : Int)) := hF 18 (by decide)
        have h19 : vs 19 = (.bool (decide (mv < lu))) := hF 19 (by decide)
        have h20 : vs 20 = (.pointer (some ⟨eb, k, none⟩)) := hF 20 (by decide)
        clear hF
        show (_ : Exit → Act → World → Prop) Exit.normal (puts _ vs 21 _) Wr
        simp only [puts, h0, h1, h2, h3, h4, h5, h6, h7, h8, h9, h10, h11, h12, h13, h14, h15, h16, h17, h18, h19, h20, List.getD_cons_zero, List.getD_cons_succ]
        clear h0 h1 h2 h3 h4 h5 h6 h7 h8 h9 h10 h11 h12 h13 h14 h15 h16 h17 h18 h19 h20
        have hW := hJ.2.1 (hall 21 (by decide))
        subst hW
        simp only [Act.put, List.setIfInBounds_toArray, List.set_cons_succ, List.set_cons_zero]
        clear hJ hall dx2 dr1 cr2 dr4 dx5 dqu dmv dek dfk
        have hsw4 : SW B lv n L sb mb qb eb jb b2 b3 b4 { s2 with low := s2.low.set v (min lo lu), br := s2.br.set k (decide (mv < lu)) } (W3.drew.setCell ⟨eb, k, none⟩ (.bool (decide (mv < lu)))) := (HSW3.out.below (bdN _ _ 1)).setBr
        have HK4 : Hid (K5 sb mb qb eb jb W3 (W3.drew.setCell ⟨eb, k, none⟩ (.bool (decide (mv < lu))))) := (K5.below (bdN _ _ 1) : K5 sb mb qb eb jb W3 W3.drew).trans (K5.set (by simp))
        have HB4 : Hid (Below B W3 (W3.drew.setCell ⟨eb, k, none⟩ (.bool (decide (mv < lu))))) := bel_set HSW3.out.ge.2.2.2.1 (bdN _ _ 1)
        have HX54 : Hid ((W3.drew.setCell ⟨eb, k, none⟩ (.bool (decide (mv < lu)))).heap[p5]? = some (.cells #[.int .i64 (v : Int)] 3 (0, 0))) := (Below.heap_setCell _ _ _ _ HN5.out.2.1).trans HX53.out
        have HX64 : Hid ((W3.drew.setCell ⟨eb, k, none⟩ (.bool (decide (mv < lu)))).heap[p6]? = some (.cells #[.int .i64 by_] 3 (0, 0))) := (Below.heap_setCell _ _ _ _ HN5.out.2.2.2.2.1).trans HX63.out
        have HX84 : Hid ((W3.drew.setCell ⟨eb, k, none⟩ (.bool (decide (mv < lu)))).heap[p8]? = some (.cells #[.int .i64 ((cn : Int) + 1)] 3 (0, 0))) := (Below.heap_setCell _ _ _ _ HP8.out.2.2.2.1).trans HX83.out
        obtain ⟨W4, hW4⟩ : ∃ W4, W4 = W3.drew.setCell ⟨eb, k, none⟩ (.bool (decide (mv < lu))) := ⟨_, rfl⟩
        rw [← hW4] at hsw4 HK4 HB4 HX54 HX64 HX84 ⊢
        have HSW4 := Lib.hid hsw4
        have HK04 : Hid (K6 sb mb qb eb jb p8 W0 W4) := HK2'.out.trans ((HK3.out.trans HK4.out).six)
        have HB04 : Hid (Below B W0 W4) := HB2'.out.trans (HB3.out.trans HB4.out)
        clear hsw4 hW4
        have dx6 : W4.drew.cell? ⟨p6, 0, none⟩ = some (.int .i64 by_) := cell_of_row _ _ 0 _ _ _ HX64.out
        have HFIN : Hid (∀ jo W', SW B lv n L sb mb qb eb jb b2 b3 b4 { s2 with low := s2.low.set v (min lo lu), br := s2.br.set k (decide (mv < lu)), jo := jo } W' → (jo = if 0 ≤ by_ ∧ mv ≤ lu then s2.jo.set v true else s2.jo) → K5 sb mb qb eb jb W4 W' → Below B W4 W' → W'.heap[p8]? = W4.heap[p8]? → KeepsOthers W0 W' ∧ VR w B lv n L sb mb qb eb jb b2 b3 b4 s v by_ f p5 p6 p8 qn (pre ++ [(u, k)]) W') := by
         intro jo W' a1 a2 a3 a4 a5
         have hk6 := HK04.out.trans a3.six
         refine ⟨HRI1.out.others hk6, HT.out W' ?_ hk6 (HB04.out.trans a4) ?_⟩
         ·rw [HST.out]
          show SW B lv n L sb mb qb eb jb b2 b3 b4 (childD s2 v u k by_) W'
          unfold childD
          rw [← HLO.out, ← HLU.out, ← HMV.out, ← a2]
          exact a1
         ·rw [HST.out, a5]
          show W4.heap[p8]? = some (.cells #[.int .i64 ((cn + 1 : Nat) : Int)] 3 (0, 0))
          rw [show ((cn + 1 : Nat) : Int) = (cn : Int) + 1 by omega]
          exact HX84.out
        by_cases hby : 0 ≤ by_
        ·have dx2 : W4.drew.cell? ⟨b2, 0, none⟩ = some (.pointer (some ⟨sb, 0, none⟩)) := cell_of_row _ _ 0 _ _ _ HSW4.out.x2
         have dr1 : W4.drew.cell? ⟨sb, 1, none⟩ = some (.slice (some ⟨mb, 0, none⟩) n n) := cell_of_row _ _ 1 _ _ _ HSW4.out.rc
         have cr2 : W4.drew.cell? ⟨sb, 2, none⟩ = some (.slice (some ⟨qb, 0, none⟩) n n) := cell_of_row _ _ 2 _ _ _ HSW4.out.rc
         have dx5 : W4.drew.cell? ⟨p5, 0, none⟩ = some (.int .i64 (v : Int)) := cell_of_row _ _ 0 _ _ _ HX54.out
         have dqu : W4.drew.cell? ⟨qb, u, none⟩ = some (.int .i64 (lu : Int)) := by
          have h0 := HSW4.out.low.cell u (by simpa using (show u < _ by rw [HSW2.out.ll]; exact hu))
          rw [getN] at h0
          have h1 : (s2.low.set v (min lo lu)).getD u 0 = s2.low.getD u 0 := getD_set_other _ _ _ _ _ (Ne.symm huv)
          rw [show ({ s2 with low := s2.low.set v (min lo lu), br := s2.br.set k (decide (mv < lu)) } : Ds).low = s2.low.set v (min lo lu) from rfl, h1, ← HLU.out] at h0
          exact h0
         have dmv : W4.drew.cell? ⟨mb, v, none⟩ = some (.int .i64 (mv : Int)) := by
          have h0 := HSW4.out.met.cell v (by simpa using (show v < _ by rw [HSW2.out.ml]; exact hv))
          rw [getN] at h0
          rw [HMV.out]
          exact h0
         gi_wp2_with (fail)
         refine wpIn_flowM (F0 := (Fence.wide.inRound yl)) (n0 := 3) (fun _ => trivial) (fun h => by cases h) (by kernel_rfl) (by kernel_rfl) 19 19 (by kernel_rfl) (fun j => ([0, 1, 2, 3, 4, 5, 6, 7, 8, 9, 10, 11, 12, 13, 14, 15, 16, 17, 18] : List Nat).getD j 0) (fun j => ([123, 124, 125, 126, 127, 128, 129, 130, 131, 132, 133, 134, 135, 136, 137, 138, 139, 140, 141] : List Nat).getD j 0) (by kernel_rfl) (by kernel_rfl) (by kernel_rfl) (by kernel_rfl) (by kernel_rfl) (by kernel_rfl) (by kernel_rfl) (fun j zv => ([(fun zv => zv = (.int .i64 by_)), (fun zv => zv = (.bool true)), (fun zv => zv = (.bool true)), (fun zv => zv = (.pointer (some ⟨sb, 0, none⟩))), (fun zv => zv = (.pointer (some ⟨sb, 0, none⟩))), (fun zv => zv = (.pointer (some ⟨sb, 2, none⟩))), (fun zv => zv = (.slice (some ⟨qb, 0, none⟩) n n)), (fun zv => zv = (.int .i64 (u : Int))), (fun zv => zv = (.pointer (some ⟨qb, u, none⟩))), (fun zv => zv = (.int .i64 (lu : Int))), (fun zv => zv = (.pointer (some ⟨sb, 0, none⟩))), (fun zv => zv = (.pointer (some ⟨sb, 0, none⟩))), (fun zv => zv = (.pointer (some ⟨sb, 1, none⟩))), (fun zv => zv = (.slice (some ⟨mb, 0, none⟩) n n)), (fun zv => zv = (.int .i64 (v : Int))), (fun zv => zv = (.pointer (some ⟨mb, v, none⟩))), (fun zv => zv = (.int .i64 (mv : Int))), (fun zv => zv = (.bool (decide (mv ≤ lu)))), (fun zv => zv = (.bool (decide (mv ≤ lu))))] : List (Value → Prop)).getD j (fun _ => True) zv) (fun _ _ W => W = W4.drew) ?h0s ?steps ?fins
         case h0s => exact fun _ => rfl
         case steps =>
          intro i o a W d vs hi ho hdi hJ hf hr hF
          replace hi : i < 19 := hi
          rcases (show i = 0 ∨ i = 1 ∨ i = 2 ∨ i = 3 ∨ i = 4 ∨ i = 5 ∨ i = 6 ∨ i = 7 ∨ i = 8 ∨ i = 9 ∨ i = 10 ∨ i = 11 ∨ i = 12 ∨ i = 13 ∨ i = 14 ∨ i = 15 ∨ i = 16 ∨ i = 17 ∨ i = 18 by omega) with rfl | rfl | rfl | rfl | rfl | rfl | rfl | rfl | rfl | rfl | rfl | rfl | rfl | rfl | rfl | rfl | rfl | rfl | rfl
          all_goals
           replace ho := op_at ho (by rfl)
           subst ho
          ·have f6 : a.tmps.getD 6 undef = (.pointer (some ⟨p6, 0, none⟩)) := hf 6 (by kernel_rfl)
           subst hJ
           exact .inl ⟨(fun k b h => by cases h), .inl ⟨0, by decide, rfl, (.int .i64 by_), W4.drew, (by simp [go_sem, Act.eval, f6, dx6]), rfl, rfl⟩⟩
          ·have d0 : a.tmps.getD 123 undef = (.int .i64 by_) := fdn (hF 0 (by decide) (hr 0 (by kernel_rfl)))
           subst hJ
           exact .inl ⟨(fun k b h => by cases h), .inl ⟨1, by decide, rfl, (.bool true), W4.drew, (by simp [go_sem, Act.eval, d0, hby]), rfl, rfl⟩⟩
          ·have d1 : a.tmps.getD 124 undef = (.bool true) := fdn (hF 1 (by decide) (hr 1 (by kernel_rfl)))
           subst hJ
           exact .inl ⟨(fun k b h => by cases h), .inl ⟨2, by decide, rfl, (.bool true), W4.drew, (by simp [go_sem, Act.eval, d1]), rfl, rfl⟩⟩
          ·have d2 : a.tmps.getD 125 undef = (.bool true) := fdn (hF 2 (by decide) (hr 2 (by kernel_rfl)))
           have f2 : a.tmps.getD 2 undef = (.pointer (some ⟨b2, 0, none⟩)) := hf 2 (by kernel_rfl)
           subst hJ
           exact .inl ⟨(fun k b h => by cases h; exact ⟨2, by decide, rfl, d2⟩), .inl ⟨3, by decide, rfl, (.pointer (some ⟨sb, 0, none⟩)), W4.drew, (by simp [go_sem, Act.eval, d2, f2, dx2]), rfl, rfl⟩⟩
          ·have d3 : a.tmps.getD 126 undef = (.pointer (some ⟨sb, 0, none⟩)) := fdn (hF 3 (by decide) (hr 3 (by kernel_rfl)))
           have d2 : a.tmps.getD 125 undef = (.bool true) := fdn (hF 2 (by decide) (hr 2 (by kernel_rfl)))
           subst hJ
           exact .inl ⟨(fun k b h => by cases h; exact ⟨2, by decide, rfl, d2⟩), .inl ⟨4, by decide, rfl, (.pointer (some ⟨sb, 0, none⟩)), W4.drew, (by simp [go_sem, Act.eval, d3, d2]), rfl, rfl⟩⟩
          ·have d4 : a.tmps.getD 127 undef = (.pointer (some ⟨sb, 0, none⟩)) := fdn (hF 4 (by decide) (hr 4 (by kernel_rfl)))
           have d2 : a.tmps.getD 125 undef = (.bool true) := fdn (hF 2 (by decide) (hr 2 (by kernel_rfl)))
           subst hJ
           exact .inl ⟨(fun k b h => by cases h; exact ⟨2, by decide, rfl, d2⟩), .inl ⟨5, by decide, rfl, (.pointer (some ⟨sb, 2, none⟩)), W4.drew, (by simp [go_sem, Act.eval, d4, d2]), rfl, rfl⟩⟩
          ·have d5 : a.tmps.getD 128 undef = (.pointer (some ⟨sb, 2, none⟩)) := fdn (hF 5 (by decide) (hr 5 (by kernel_rfl)))
           have d2 : a.tmps.getD 125 undef = (.bool true) := fdn (hF 2 (by decide) (hr 2 (by kernel_rfl)))
           subst hJ
           exact .inl ⟨(fun k b h => by cases h; exact ⟨2, by decide, rfl, d2⟩), .inl ⟨6, by decide, rfl, (.slice (some ⟨qb, 0, none⟩) n n), W4.drew, (by simp [go_sem, Act.eval, d5, d2, cr2]), rfl, rfl⟩⟩
          ·have d2 : a.tmps.getD 125 undef = (.bool true) := fdn (hF 2 (by decide) (hr 2 (by kernel_rfl)))
           have f9 : a.tmps.getD 9 undef = (.int .i64 (u : Int)) := hf 9 (by kernel_rfl)
           subst hJ
           exact .inl ⟨(fun k b h => by cases h; exact ⟨2, by decide, rfl, d2⟩), .inl ⟨7, by decide, rfl, (.int .i64 (u : Int)), W4.drew, (by simp [go_sem, Act.eval, d2, f9]), rfl, rfl⟩⟩
          ·have d6 : a.tmps.getD 129 undef = (.slice (some ⟨qb, 0, none⟩) n n) := fdn (hF 6 (by decide) (hr 6 (by kernel_rfl)))
           have d7 : a.tmps.getD 130 undef = (.int .i64 (u : Int)) := fdn (hF 7 (by decide) (hr 7 (by kernel_rfl)))
           have d2 : a.tmps.getD 125 undef = (.bool true) := fdn (hF 2 (by decide) (hr 2 (by kernel_rfl)))
           subst hJ
           exact .inl ⟨(fun k b h => by cases h; exact ⟨2, by decide, rfl, d2⟩), .inl ⟨8, by decide, rfl, (.pointer (some ⟨qb, u, none⟩)), W4.drew, (by simp [go_sem, Act.eval, d6, d7, d2, hun]), rfl, rfl⟩⟩
          ·have d8 : a.tmps.getD 131 undef = (.pointer (some ⟨qb, u, none⟩)) := fdn (hF 8 (by decide) (hr 8 (by kernel_rfl)))
           have d2 : a.tmps.getD 125 undef = (.bool true) := fdn (hF 2 (by decide) (hr 2 (by kernel_rfl)))
           subst hJ
           exact .inl ⟨(fun k b h => by cases h; exact ⟨2, by decide, rfl, d2⟩), .inl ⟨9, by decide, rfl, (.int .i64 (lu : Int)), W4.drew, (by simp [go_sem, Act.eval, d8, d2, dqu]), rfl, rfl⟩⟩
          ·have d2 : a.tmps.getD 125 undef = (.bool true) := fdn (hF 2 (by decide) (hr 2 (by kernel_rfl)))
           have f2 : a.tmps.getD 2 undef = (.pointer (some ⟨b2, 0, none⟩)) := hf 2 (by kernel_rfl)
           subst hJ
           exact .inl ⟨(fun k b h => by cases h; exact ⟨2, by decide, rfl, d2⟩), .inl ⟨10, by decide, rfl, (.pointer (some ⟨sb, 0, none⟩)), W4.drew, (by simp [go_sem, Act.eval, d2, f2, dx2]), rfl, rfl⟩⟩
          ·have d10 : a.tmps.getD 133 undef = (.pointer (some ⟨sb, 0, none⟩)) := fdn (hF 10 (by decide) (hr 10 (by kernel_rfl)))
           have d2 : a.tmps.getD 125 undef = (.bool true) := fdn (hF 2 (by decide) (hr 2 (by kernel_rfl)))
           subst hJ
           exact .inl ⟨(fun k b h => by cases h; exact ⟨2, by decide, rfl, d2⟩), .inl ⟨11, by decide, rfl, (.pointer (some ⟨sb, 0, none⟩)), W4.drew, (by simp [go_sem, Act.eval, d10, d2]), rfl, rfl⟩⟩
          ·have d11 : a.tmps.getD 134 undef = (.pointer (some ⟨sb, 0, none⟩)) := fdn (hF 11 (by decide) (hr 11 (by kernel_rfl)))
           have d2 : a.tmps.getD 125 undef = (.bool true) := fdn (hF 2 (by decide) (hr 2 (by kernel_rfl)))
           subst hJ
           exact .inl ⟨(fun k b h => by cases h; exact ⟨2, by decide, rfl, d2⟩), .inl ⟨12, by decide, rfl, (.pointer (some ⟨sb, 1, none⟩)), W4.drew, (by simp [go_sem, Act.eval, d11, d2]), rfl, rfl⟩⟩
          ·have d12 : a.tmps.getD 135 undef = (.pointer (some ⟨sb, 1, none⟩)) := fdn (hF 12 (by decide) (hr 12 (by kernel_rfl)))
           have d2 : a.tmps.getD 125 undef = (.bool true) := fdn (hF 2 (by decide) (hr 2 (by kernel_rfl)))
           subst hJ
           exact .inl ⟨(fun k b h => by cases h; exact ⟨2, by decide, rfl, d2⟩), .inl ⟨13, by decide, rfl, (.slice (some ⟨mb, 0, none⟩) n n), W4.drew, (by simp [go_sem, Act.eval, d12, d2, dr1]), rfl, rfl⟩⟩
          ·have d2 : a.tmps.getD 125 undef = (.bool true) := fdn (hF 2 (by decide) (hr 2 (by kernel_rfl)))
           have f5 : a.tmps.getD 5 undef = (.pointer (some ⟨p5, 0, none⟩)) := hf 5 (by kernel_rfl)
           subst hJ
           exact .inl ⟨(fun k b h => by cases h; exact ⟨2, by decide, rfl, d2⟩), .inl ⟨14, by decide, rfl, (.int .i64 (v : Int)), W4.drew, (by simp [go_sem, Act.eval, d2, f5, dx5]), rfl, rfl⟩⟩
          ·have d13 : a.tmps.getD 136 undef = (.slice (some ⟨mb, 0, none⟩) n n) := fdn (hF 13 (by decide) (hr 13 (by kernel_rfl)))
           have d14 : a.tmps.getD 137 undef = (.int .i64 (v : Int)) := fdn (hF 14 (by decide) (hr 14 (by kernel_rfl)))
           have d2 : a.tmps.getD 125 undef = (.bool true) := fdn (hF 2 (by decide) (hr 2 (by kernel_rfl)))
           subst hJ
           exact .inl ⟨(fun k b h => by cases h; exact ⟨2, by decide, rfl, d2⟩), .inl ⟨15, by decide, rfl, (.pointer (some ⟨mb, v, none⟩)), W4.drew, (by simp [go_sem, Act.eval, d13, d14, d2, hvn]), rfl, rfl⟩⟩
          ·have d15 : a.tmps.getD 138 undef = (.pointer (some ⟨mb, v, none⟩)) := fdn (hF 15 (by decide) (hr 15 (by kernel_rfl)))
           have d2 : a.tmps.getD 125 undef = (.bool true) := fdn (hF 2 (by decide) (hr 2 (by kernel_rfl)))
           subst hJ
           exact .inl ⟨(fun k b h => by cases h; exact ⟨2, by decide, rfl, d2⟩), .inl ⟨16, by decide, rfl, (.int .i64 (mv : Int)), W4.drew, (by simp [go_sem, Act.eval, d15, d2, dmv]), rfl, rfl⟩⟩
          ·have d9 : a.tmps.getD 132 undef = (.int .i64 (lu : Int)) := fdn (hF 9 (by decide) (hr 9 (by kernel_rfl)))
           have d16 : a.tmps.getD 139 undef = (.int .i64 (mv : Int)) := fdn (hF 16 (by decide) (hr 16 (by kernel_rfl)))
           have d2 : a.tmps.getD 125 undef = (.bool true) := fdn (hF 2 (by decide) (hr 2 (by kernel_rfl)))
           subst hJ
           exact .inl ⟨(fun k b h => by cases h; exact ⟨2, by decide, rfl, d2⟩), .inl ⟨17, by decide, rfl, (.bool (decide (mv ≤ lu))), W4.drew, (by simp [go_sem, Act.eval, d9, d16, d2]), rfl, rfl⟩⟩
          ·have d2 : a.tmps.getD 125 undef = (.bool true) := fdn (hF 2 (by decide) (hr 2 (by kernel_rfl)))
           have d17 : a.tmps.getD 140 undef = (.bool (decide (mv ≤ lu))) := fdn (hF 17 (by decide) (hr 17 (by kernel_rfl)))
           subst hJ
           exact .inl ⟨(fun k b h => by cases h), .inl ⟨18, by decide, rfl, (.bool (decide (mv ≤ lu))), W4.drew, (by simp [go_sem, Act.eval, d2, d17]), rfl, rfl⟩⟩
         case fins =>
          intro d vs Ws hall hJ hF
          have h0 : vs 0 = (.int .i64 by_) := hF 0 (by decide)
          have h1 : vs 1 = (.bool true) := hF 1 (by decide)
          have h2 : vs 2 = (.bool true) := hF 2 (by decide)
          have h3 : vs 3 = (.pointer (some ⟨sb, 0, none⟩)) := hF 3 (by decide)
          have h4 : vs 4 = (.pointer (some ⟨sb, 0, none⟩)) := hF 4 (by decide)
          have h5 : vs 5 = (.pointer (some ⟨sb, 2, none⟩)) := hF 5 (by decide)
          have h6 : vs 6 = (.slice (some ⟨qb, 0, none⟩) n n) := hF 6 (by decide)
          have h7 : vs 7 = (.int .i64 (u : Int)) := hF 7 (by decide)
          have h8 : vs 8 = (.pointer (some ⟨qb, u, none⟩)) := hF 8 (by decide)
          have h9 : vs 9 = (.int .i64 (lu : Int)) := hF 9 (by decide)
          have h10 : vs 10 = (.pointer (some ⟨sb, 0, none⟩)) := hF 10 (by decide)
          have h11 : vs 11 = (.pointer (some ⟨sb, 0, none⟩)) := hF 11 (by decide)
          have h12 : vs 12 = (.pointer (some ⟨sb, 1, none⟩)) := hF 12 (by decide)
          have h13 : vs 13 = (.slice (some ⟨mb, 0, none⟩) n n) := hF 13 (by decide)
          have h14 : vs 14 = (.int .i64 (v : Int)) := hF 14 (by decide)
          have h15 : vs 15 = (.pointer (some ⟨mb, v, none⟩)) := hF 15 (by decide)
          have h16 : vs 16 = (.int .i64 (mv : Int)) := hF 16 (by decide)
          have h17 : vs 17 = (.bool (decide (mv ≤ lu))) := hF 17 (by decide)
          have h18 : vs 18 = (.bool (decide (mv ≤ lu))) := hF 18 (by decide)
          clear hF
          show (_ : Exit → Act → World → Prop) Exit.normal (puts _ vs 19 _) Ws
          simp only [puts, h0, h1, h2, h3, h4, h5, h6, h7, h8, h9, h10, h11, h12, h13, h14, h15, h16, h17, h18, List.getD_cons_zero, List.getD_cons_succ]
          clear h0 h1 h2 h3 h4 h5 h6 h7 h8 h9 h10 h11 h12 h13 h14 h15 h16 h17 h18
          subst hJ
          simp only [Act.put, List.setIfInBounds_toArray, List.set_cons_succ, List.set_cons_zero]
          clear hall dx2 dr1 cr2 dx5 dqu dmv dx6
          by_cases hle : mv ≤ lu
          ·obtain ⟨W5, hW5⟩ : ∃ W5, W5 = W4.drew := ⟨_, rfl⟩
           have hb45 : Below W4.heap.size W4 W5 := by rw [hW5]; exact bdN _ _ 1
           have HSW5 := Lib.hid (HSW4.out.below hb45)
           have HX55 := Lib.hid (stays HX54.out hb45)
           have HB45 := Lib.hid hb45
           have HP85 : Hid (W5.heap[p8]? = W4.heap[p8]?) := hb45.block _ (Array.getElem?_eq_some_iff.1 HX84.out).1
           rw [← hW5]
           clear hW5 hb45
           have dx2 : W5.drew.cell? ⟨b2, 0, none⟩ = some (.pointer (some ⟨sb, 0, none⟩)) := cell_of_row _ _ 0 _ _ _ HSW5.out.x2
           have dr5 : W5.drew.cell? ⟨sb, 5, none⟩ = some (.slice (some ⟨jb, 0, none⟩) n n) := cell_of_row _ _ 5 _ _ _ HSW5.out.rc
           have dx5 : W5.drew.cell? ⟨p5, 0, none⟩ = some (.int .i64 (v : Int)) := cell_of_row _ _ 0 _ _ _ HX55.out
           have djv : W5.drew.cell? ⟨jb, v, none⟩ = some (.bool (s2.jo.getD v false)) := HSW5.out.jo.cell v (by have h0 := HSW2.out.jl; show v < s2.jo.length; omega)
           have dfj : W5.drew.frozen? ⟨jb, v, none⟩ = false := HSW5.out.jo.frozen v
           gi_wp2_with (fail)
           refine wpIn_flowM (F0 := (Fence.wide.inRound yl)) (n0 := 3) (fun _ => trivial) (fun h => by cases h) (by kernel_rfl) (by kernel_rfl) 7 6 (by kernel_rfl) (fun j => ([0, 1, 2, 3, 4, 5] : List Nat).getD j 0) (fun j => ([142, 143, 144, 145, 146, 147] : List Nat).getD j 0) (by kernel_rfl) (by kernel_rfl) (by kernel_rfl) (by kernel_rfl) (by kernel_rfl) (by kernel_rfl) (by kernel_rfl) (fun j zv => ([(fun zv => zv = (.pointer (some ⟨sb, 0, none⟩))), (fun zv => zv = (.pointer (some ⟨sb, 0, none⟩))), (fun zv => zv = (.pointer (some ⟨sb, 5, none⟩))), (fun zv => zv = (.slice (some ⟨jb, 0, none⟩) n n)), (fun zv => zv = (.int .i64 (v : Int))), (fun zv => zv = (.pointer (some ⟨jb, v, none⟩)))] : List (Value → Prop)).getD j (fun _ => True) zv) (fun d _ W => (d 6 = false → W = W5.drew) ∧ (d 6 = true → W = W5.drew.setCell ⟨jb, v, none⟩ (.bool true)) ∧ (d 6 = true → ∀ q, q < 6 → d q = true)) ?h0p ?stepp ?finp
           case h0p => exact fun _ => ⟨(fun _ => rfl), (fun h => by cases h), (fun h => by cases h)⟩
           case stepp =>
            intro i o a W d vs hi ho hdi hJ hf hr hF
            replace hi : i < 7 := hi
            rcases (show i = 0 ∨ i = 1 ∨ i = 2 ∨ i = 3 ∨ i = 4 ∨ i = 5 ∨ i = 6 by omega) with rfl | rfl | rfl | rfl | rfl | rfl | rfl
            all_goals
             replace ho := op_at ho (by rfl)
             subst ho
            ·have f2 : a.tmps.getD 2 undef = (.pointer (some ⟨b2, 0, none⟩)) := hf 2 (by kernel_rfl)
             have nd : d 6 = false := by cases h : d 6 with | false => rfl | true => have h1 := hJ.2.2 h 0 (by decide); rw [hdi] at h1; cases h1
             have hW := hJ.1 nd
             subst hW
             exact .inl ⟨(fun k b h => by cases h), .inl ⟨0, by decide, rfl, (.pointer (some ⟨sb, 0, none⟩)), W5.drew, (by simp [go_sem, Act.eval, f2, dx2]), rfl, ⟨(fun _ => rfl), (fun h => by rw [updC_ne (by omega), nd] at h; cases h), (fun h => by rw [updC_ne (by omega), nd] at h; cases h)⟩⟩⟩
            ·have d0 : a.tmps.getD 142 undef = (.pointer (some ⟨sb, 0, none⟩)) := fdn (hF 0 (by decide) (hr 0 (by kernel_rfl)))
             have nd : d 6 = false := by cases h : d 6 with | false => rfl | true => have h1 := hJ.2.2 h 1 (by decide); rw [hdi] at h1; cases h1
             have hW := hJ.1 nd
             subst hW
             exact .inl ⟨(fun k b h => by cases h), .inl ⟨1, by decide, rfl, (.pointer (some ⟨sb, 0, none⟩)), W5.drew, (by simp [go_sem, Act.eval, d0]), rfl, ⟨(fun _ => rfl), (fun h => by rw [updC_ne (by omega), nd] at h; cases h), (fun h => by rw [updC_ne (by omega), nd] at h; cases h)⟩⟩⟩
            ·have d1 : a.tmps.getD 143 undef = (.pointer (some ⟨sb, 0, none⟩)) := fdn (hF 1 (by decide) (hr 1 (by kernel_rfl)))
             have nd : d 6 = false := by cases h : d 6 with | false => rfl | true => have h1 := hJ.2.2 h 2 (by decide); rw [hdi] at h1; cases h1
             have hW := hJ.1 nd
             subst hW
             exact .inl ⟨(fun k b h => by cases h), .inl ⟨2, by decide, rfl, (.pointer (some ⟨sb, 5, none⟩)), W5.drew, (by simp [go_sem, Act.eval, d1]), rfl, ⟨(fun _ => rfl), (fun h => by rw [updC_ne (by omega), nd] at h; cases h), (fun h => by rw [updC_ne (by omega), nd] at h; cases h)⟩⟩⟩
            ·have d2 : a.tmps.getD 144 undef = (.pointer (some ⟨sb, 5, none⟩)) := fdn (hF 2 (by decide) (hr 2 (by kernel_rfl)))
             have nd : d 6 = false := by cases h : d 6 with | false => rfl | true => have h1 := hJ.2.2 h 3 (by decide); rw [hdi] at h1; cases h1
             have hW := hJ.1 nd
             subst hW
             exact .inl ⟨(fun k b h => by cases h), .inl ⟨3, by decide, rfl, (.slice (some ⟨jb, 0, none⟩) n n), W5.drew, (by simp [go_sem, Act.eval, d2, dr5]), rfl, ⟨(fun _ => rfl), (fun h => by rw [updC_ne (by omega), nd] at h; cases h), (fun h => by rw [updC_ne (by omega), nd] at h; cases h)⟩⟩⟩
            ·have f5 : a.tmps.getD 5 undef = (.pointer (some ⟨p5, 0, none⟩)) := hf 5 (by kernel_rfl)
             have nd : d 6 = false := by cases h : d 6 with | false => rfl | true => have h1 := hJ.2.2 h 4 (by decide); rw [hdi] at h1; cases h1
             have hW := hJ.1 nd
             subst hW
             exact .inl ⟨(fun k b h => by cases h), .inl ⟨4, by decide, rfl, (.int .i64 (v : Int)), W5.drew, (by simp [go_sem, Act.eval, f5, dx5]), rfl, ⟨(fun _ => rfl), (fun h => by rw [updC_ne (by omega), nd] at h; cases h), (fun h => by rw [updC_ne (by omega), nd] at h; cases h)⟩⟩⟩
            ·have d3 : a.tmps.getD 145 undef = (.slice (some ⟨jb, 0, none⟩) n n) := fdn (hF 3 (by decide) (hr 3 (by kernel_rfl)))
             have d4 : a.tmps.getD 146 undef = (.int .i64 (v : Int)) := fdn (hF 4 (by decide) (hr 4 (by kernel_rfl)))
             have nd : d 6 = false := by cases h : d 6 with | false => rfl | true => have h1 := hJ.2.2 h 5 (by decide); rw [hdi] at h1; cases h1
             have hW := hJ.1 nd
             subst hW
             exact .inl ⟨(fun k b h => by cases h), .inl ⟨5, by decide, rfl, (.pointer (some ⟨jb, v, none⟩)), W5.drew, (by simp [go_sem, Act.eval, d3, d4, hvn]), rfl, ⟨(fun _ => rfl), (fun h => by rw [updC_ne (by omega), nd] at h; cases h), (fun h => by rw [updC_ne (by omega), nd] at h; cases h)⟩⟩⟩
            ·have d5 : a.tmps.getD 147 undef = (.pointer (some ⟨jb, v, none⟩)) := fdn (hF 5 (by decide) (hr 5 (by kernel_rfl)))
             have hW := hJ.1 hdi
             subst hW
             exact .inl ⟨(fun k b h => by cases h), .inr (.inl ⟨rfl, W5.drew.setCell ⟨jb, v, none⟩ (.bool true), (by simp [go_sem, Act.eval, d5, djv, dfj]), ⟨(fun h => by rw [updC_eq] at h; cases h), (fun _ => rfl), (fun _ q hq => by rw [updC_ne (by omega)]; rcases (show q = 0 ∨ q = 1 ∨ q = 2 ∨ q = 3 ∨ q = 4 ∨ q = 5 by omega) with rfl | rfl | rfl | rfl | rfl | rfl <;> exact hr _ (by kernel_rfl))⟩⟩)⟩
           case finp =>
            intro d vs Wp hall hJ hF
            have h0 : vs 0 = (.pointer (some ⟨sb, 0, none⟩)) := hF 0 (by decide)
            have h1 : vs 1 = (.pointer (some ⟨sb, 0, none⟩)) := hF 1 (by decide)
            have h2 : vs 2 = (.pointer (some ⟨sb, 5, none⟩)) := hF 2 (by decide)
            have h3 : vs 3 = (.slice (some ⟨jb, 0, none⟩) n n) := hF 3 (by decide)
            have h4 : vs 4 = (.int .i64 (v : Int)) := hF 4 (by decide)
            have h5 : vs 5 = (.pointer (some ⟨jb, v, none⟩)) := hF 5 (by decide)
            clear hF
            show (_ : Exit → Act → World → Prop) Exit.normal (puts _ vs 6 _) Wp
            simp only [puts, h0, h1, h2, h3, h4, h5, List.getD_cons_zero, List.getD_cons_succ]
            clear h0 h1 h2 h3 h4 h5
            have hW := hJ.2.1 (hall 6 (by decide))
            subst hW
            simp only [Act.put, List.setIfInBounds_toArray, List.set_cons_succ, List.set_cons_zero]
            clear hJ hall dx2 dr5 dx5 djv dfj
            gi_wp2_with (fail)
            exact HFIN.out _ _ ((HSW5.out.below (bdN _ _ 1)).setJo) (by rw [if_pos ⟨hby, hle⟩]) ((K5.below HB45.out).trans ((K5.below (bdN _ _ 1) : K5 sb mb qb eb jb W5 W5.drew).trans (K5.set (by simp)))) ((HB45.out.mono HSW4.out.lt.2.2.2.2.2).trans (bel_set HSW5.out.ge.2.2.2.2 (bdN _ _ 1))) ((Below.heap_setCell _ _ _ _ HP8.out.2.2.2.2.1).trans HP85.out)
          ·gi_wp2_with (fail)
           exact HFIN.out _ _ (HSW4.out.below (bdN _ _ 1)) (by rw [if_neg (by intro h; have := h.2; omega)]) (K5.below (bdN _ _ 1)) (bdN _ _ 1) rfl
        ·gi_wp2_with (fail)
         refine wpIn_flowM (F0 := (Fence.wide.inRound yl)) (n0 := 3) (fun _ => trivial) (fun h => by cases h) (by kernel_rfl) (by kernel_rfl) 19 19 (by kernel_rfl) (fun j => ([0, 1, 2, 3, 4, 5, 6, 7, 8, 9, 10, 11, 12, 13, 14, 15, 16, 17, 18] : List Nat).getD j 0) (fun j => ([123, 124, 125, 126, 127, 128, 129, 130, 131, 132, 133, 134, 135, 136, 137, 138, 139, 140, 141] : List Nat).getD j 0) (by kernel_rfl) (by kernel_rfl) (by kernel_rfl) (by kernel_rfl) (by kernel_rfl) (by kernel_rfl) (by kernel_rfl) (fun j zv => ([(fun zv => zv = (.int .i64 by_)), (fun zv => zv = (.bool false)), (fun zv => zv = (.bool false)), (fun zv => zv = undef), (fun zv => zv = undef), (fun zv => zv = undef), (fun zv => zv = undef), (fun zv => zv = undef), (fun zv => zv = undef), (fun zv => zv = undef), (fun zv => zv = undef), (fun zv => zv = undef), (fun zv => zv = undef), (fun zv => zv = undef), (fun zv => zv = undef), (fun zv => zv = undef), (fun zv => zv = undef), (fun zv => zv = undef), (fun zv => zv = (.bool false))] : List (Value → Prop)).getD j (fun _ => True) zv) (fun _ _ W => W = W4.drew) ?h0t ?stept ?fint
         case h0t => exact fun _ => rfl
         case stept =>
          intro i o a W d vs hi ho hdi hJ hf hr hF
          replace hi : i < 19 := hi
          rcases (show i = 0 ∨ i = 1 ∨ i = 2 ∨ i = 3 ∨ i = 4 ∨ i = 5 ∨ i = 6 ∨ i = 7 ∨ i = 8 ∨ i = 9 ∨ i = 10 ∨ i = 11 ∨ i = 12 ∨ i = 13 ∨ i = 14 ∨ i = 15 ∨ i = 16 ∨ i = 17 ∨ i = 18 by omega) with rfl | rfl | rfl | rfl | rfl | rfl | rfl | rfl | rfl | rfl | rfl | rfl | rfl | rfl | rfl | rfl | rfl | rfl | rfl
          all_goals
           replace ho := op_at ho (by rfl)
           subst ho
          ·have f6 : a.tmps.getD 6 undef = (.pointer (some ⟨p6, 0, none⟩)) := hf 6 (by kernel_rfl)
           subst hJ
           exact .inl ⟨(fun k b h => by cases h), .inl ⟨0, by decide, rfl, (.int .i64 by_), W4.drew, (by simp [go_sem, Act.eval, f6, dx6]), rfl, rfl⟩⟩
          ·have d0 : a.tmps.getD 123 undef = (.int .i64 by_) := fdn (hF 0 (by decide) (hr 0 (by kernel_rfl)))
           subst hJ
           exact .inl ⟨(fun k b h => by cases h), .inl ⟨1, by decide, rfl, (.bool false), W4.drew, (by simp [go_sem, Act.eval, d0, hby]), rfl, rfl⟩⟩
          ·have d1 : a.tmps.getD 124 undef = (.bool false) := fdn (hF 1 (by decide) (hr 1 (by kernel_rfl)))
           subst hJ
           exact .inl ⟨(fun k b h => by cases h), .inl ⟨2, by decide, rfl, (.bool false), W4.drew, (by simp [go_sem, Act.eval, d1]), rfl, rfl⟩⟩
          ·have d2 : a.tmps.getD 125 undef = (.bool false) := fdn (hF 2 (by decide) (hr 2 (by kernel_rfl)))
           subst hJ
           exact .inr ⟨2, true, 2, rfl, by decide, rfl, (nhB d2 rfl), .inl ⟨3, by decide, rfl, rfl, rfl⟩⟩
          ·have d2 : a.tmps.getD 125 undef = (.bool false) := fdn (hF 2 (by decide) (hr 2 (by kernel_rfl)))
           subst hJ
           exact .inr ⟨2, true, 2, rfl, by decide, rfl, (nhB d2 rfl), .inl ⟨4, by decide, rfl, rfl, rfl⟩⟩
          ·have d2 : a.tmps.getD 125 undef = (.bool false) := fdn (hF 2 (by decide) (hr 2 (by kernel_rfl)))
           subst hJ
           exact .inr ⟨2, true, 2, rfl, by decide, rfl, (nhB d2 rfl), .inl ⟨5, by decide, rfl, rfl, rfl⟩⟩
          ·have d2 : a.tmps.getD 125 undef = (.bool false) := fdn (hF 2 (by decide) (hr 2 (by kernel_rfl)))
           subst hJ
           exact .inr ⟨2, true, 2, rfl, by decide, rfl, (nhB d2 rfl), .inl ⟨6, by decide, rfl, rfl, rfl⟩⟩
          ·have d2 : a.tmps.getD 125 undef = (.bool false) := fdn (hF 2 (by decide) (hr 2 (by kernel_rfl)))
           subst hJ
           exact .inr ⟨2, true, 2, rfl, by decide, rfl, (nhB d2 rfl), .inl ⟨7, by decide, rfl, rfl, rfl⟩⟩
          ·have d2 : a.tmps.getD 125 undef = (.bool false) := fdn (hF 2 (by decide) (hr 2 (by kernel_rfl)))
           subst hJ
           exact .inr ⟨2, true, 2, rfl, by decide, rfl, (nhB d2 rfl), .inl ⟨8, by decide, rfl, rfl, rfl⟩⟩
          ·have d2 : a.tmps.getD 125 undef = (.bool false) := fdn (hF 2 (by decide) (hr 2 (by kernel_rfl)))
           subst hJ
           exact .inr ⟨2, true, 2, rfl, by decide, rfl, (nhB d2 rfl), .inl ⟨9, by decide, rfl, rfl, rfl⟩⟩
          ·have d2 : a.tmps.getD 125 undef = (.bool false) := fdn (hF 2 (by decide) (hr 2 (by kernel_rfl)))
           subst hJ
           exact .inr ⟨2, true, 2, rfl, by decide, rfl, (nhB d2 rfl), .inl ⟨10, by decide, rfl, rfl, rfl⟩⟩
          ·have d2 : a.tmps.getD 125 undef = (.bool false) := fdn (hF 2 (by decide) (hr 2 (by kernel_rfl)))
           subst hJ
           exact .inr ⟨2, true, 2, rfl, by decide, rfl, (nhB d2 rfl), .inl ⟨11, by decide, rfl, rfl, rfl⟩⟩
          ·have d2 : a.tmps.getD 125 undef = (.bool false) := fdn (hF 2 (by decide) (hr 2 (by kernel_rfl)))
           subst hJ
           exact .inr ⟨2, true, 2, rfl, by decide, rfl, (nhB d2 rfl), .inl ⟨12, by decide, rfl, rfl, rfl⟩⟩
          ·have d2 : a.tmps.getD 125 undef = (.bool false) := fdn (hF 2 (by decide) (hr 2 (by kernel_rfl)))
           subst hJ
           exact .inr ⟨2, true, 2, rfl, by decide, rfl, (nhB d2 rfl), .inl ⟨13, by decide, rfl, rfl, rfl⟩⟩
          ·have d2 : a.tmps.getD 125 undef = (.bool false) := fdn (hF 2 (by decide) (hr 2 (by kernel_rfl)))
           subst hJ
           exact .inr ⟨2, true, 2, rfl, by decide, rfl, (nhB d2 rfl), .inl ⟨14, by decide, rfl, rfl, rfl⟩⟩
          ·have d2 : a.tmps.getD 125 undef = (.bool false) := fdn (hF 2 (by decide) (hr 2 (by kernel_rfl)))
           subst hJ
           exact .inr ⟨2, true, 2, rfl, by decide, rfl, (nhB d2 rfl), .inl ⟨15, by decide, rfl, rfl, rfl⟩⟩
          ·have d2 : a.tmps.getD 125 undef = (.bool false) := fdn (hF 2 (by decide) (hr 2 (by kernel_rfl)))
           subst hJ
           exact .inr ⟨2, true, 2, rfl, by decide, rfl, (nhB d2 rfl), .inl ⟨16, by decide, rfl, rfl, rfl⟩⟩
          ·have d2 : a.tmps.getD 125 undef = (.bool false) := fdn (hF 2 (by decide) (hr 2 (by kernel_rfl)))
           subst hJ
           exact .inr ⟨2, true, 2, rfl, by decide, rfl, (nhB d2 rfl), .inl ⟨17, by decide, rfl, rfl, rfl⟩⟩
          ·have d2 : a.tmps.getD 125 undef = (.bool false) := fdn (hF 2 (by decide) (hr 2 (by kernel_rfl)))
           subst hJ
           exact .inl ⟨(fun k b h => by cases h), .inl ⟨18, by decide, rfl, (.bool false), W4.drew, (by simp [go_sem, Act.eval, d2]), rfl, rfl⟩⟩
         case fint =>
          intro d vs Wt hall hJ hF
          have h0 : vs 0 = (.int .i64 by_) := hF 0 (by decide)
          have h1 : vs 1 = (.bool false) := hF 1 (by decide)
          have h2 : vs 2 = (.bool false) := hF 2 (by decide)
          have h3 : vs 3 = undef := hF 3 (by decide)
          have h4 : vs 4 = undef := hF 4 (by decide)
          have h5 : vs 5 = undef := hF 5 (by decide)
          have h6 : vs 6 = undef := hF 6 (by decide)
          have h7 : vs 7 = undef := hF 7 (by decide)
          have h8 : vs 8 = undef := hF 8 (by decide)
          have h9 : vs 9 = undef := hF 9 (by decide)
          have h10 : vs 10 = undef := hF 10 (by decide)
          have h11 : vs 11 = undef := hF 11 (by decide)
          have h12 : vs 12 = undef := hF 12 (by decide)
          have h13 : vs 13 = undef := hF 13 (by decide)
          have h14 : vs 14 = undef := hF 14 (by decide)
          have h15 : vs 15 = undef := hF 15 (by decide)
          have h16 : vs 16 = undef := hF 16 (by decide)
          have h17 : vs 17 = undef := hF 17 (by decide)
          have h18 : vs 18 = (.bool false) := hF 18 (by decide)
          clear hF
          show (_ : Exit → Act → World → Prop) Exit.normal (puts _ vs 19 _) Wt
          simp only [puts, h0, h1, h2, h3, h4, h5, h6, h7, h8, h9, h10, h11, h12, h13, h14, h15, h16, h17, h18, List.getD_cons_zero, List.getD_cons_succ]
          clear h0 h1 h2 h3 h4 h5 h6 h7 h8 h9 h10 h11 h12 h13 h14 h15 h16 h17 h18
          subst hJ
          simp only [Act.put, List.setIfInBounds_toArray, List.set_cons_succ, List.set_cons_zero]
          clear hall dx6
          gi_wp2_with (fail)
          exact HFIN.out _ _ (HSW4.out.below (bdN _ _ 1)) (by rw [if_neg (by intro h; have := h.1; omega)]) (K5.below (bdN _ _ 1)) (bdN _ _ 1) rfl
   case done =>
    rintro Dd xs W' hxs h1 hD hWD
    have H1 := Lib.hid h1
    have HXS := Lib.hid hxs
    have HDD := Lib.hid hD
    have cx8 := cell_of_row _ _ 0 _ _ _ h1.x8
    clear h1 hxs hD
    dsimp only
    gi_wp2_with (fail)
    have hxs := HXS.out
    subst hxs
    have hm : Marks w.heap.size (Dd + 1) [{ target := .collected Dd, args := #[] }] W' := ⟨⟨Dd, rfl, by have := HSY.out; omega, Nat.lt_succ_self _, HDD.out, fun d' hd' => by cases hd'⟩, trivial⟩
    refine (marks_retN hm fun w' hw' => ⟨_, results_tmp rfl _ _ _, rfl, ?_, H1.out.low.trans (hw'.low.mono HLT.out.2.2.2.2.2), ⟨by rw [hw'.size]; exact H1.out.kp.size, fun c h0 h1 h2 h3 h4 h5 => (hw'.low.block c h0).trans (H1.out.kp.same c h0 h1 h2 h3 h4 h5)⟩⟩).1
    ·exact (H1.out.sw.of (hw'.low.mono HLT.out.2.2.2.2.2) fun k cs ty fr hk => (hw'.cells _ _ hk rfl).trans hk.symm)
   case stop =>
    rintro Dd c pre W' hpre h1 hD hWD
    exact h1.elim

end Go.Proofs.Ytenilbofncfbdaa

