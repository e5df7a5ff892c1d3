/- Cuts: distances by a search in breadth: plain. No program here.
Cuts: far, walked (by program: wip/tools/gen_cd2.py). -/
import Derived.Test.YtenilbofncfbdaaCA
import Derived.Test.YtenilbofncfbdaaCC
import Derived.Sort.LoopGhostIn
import Derived.Sort.CutIn
set_option linter.unusedSimpArgs false
set_option linter.unusedVariables false
namespace Go.Proofs.Ytenilbofncfbdaa

/-- a node's neighbours looked at -/
def scanD (v : Nat) : List (Nat × Nat) → List Int → List Nat → List Int × List Nat
  | [], d, w => (d, w)
  | (u, _) :: r, d, w => if d.getD u 0 < 0 then scanD v r (d.set u (d.getD v 0 + 1)) (w ++ [u]) else scanD v r d w
def farR (L : Prs) : Nat → List Int → List Nat → List Int
  | 0, d, _ => d
  | _ + 1, d, [] => d
  | f + 1, d, v :: w => farR L f (scanD v (nbF L v) d w).1 (scanD v (nbF L v) d w).2
def farI (L : Prs) (n : Nat) (a : Int) : List Int := if 0 ≤ a ∧ a < n then farR L (n + 1) ((List.replicate n (-1)).set a.toNat 0) [a.toNat] else List.replicate n (-1)
/-- rising along the order, the last at most one more than the first that waits -/
structure DI (L : Prs) (n a : Nat) (ord : List Nat) (d : List Int) (v : Nat) : Prop where
  dl : d.length = n
  nod : ord.Nodup
  lt : ∀ u ∈ ord, u < n
  mem : ∀ u, u < n → (0 ≤ d.getD u 0 ↔ u ∈ ord)
  neg : ∀ u, u < n → -1 ≤ d.getD u 0
  hd : a ∈ ord
  zero : ∀ u ∈ ord, (d.getD u 0 = 0 ↔ u = a)
  up : ord.Pairwise fun x y => d.getD x 0 ≤ d.getD y 0
  near : v ∈ ord ∧ ∀ u ∈ ord, d.getD u 0 ≤ d.getD v 0 + 1
  size : ∀ u ∈ ord, d.getD u 0 + 1 ≤ ord.length
  by_ : ∀ u ∈ ord, u = a ∨ ∃ k x, Edge L k x u ∧ x ∈ ord ∧ d.getD u 0 = d.getD x 0 + 1
theorem DI.add {L : Prs} {n a v : Nat} {ord : List Nat} {d : List Int} (hf : FitL n L) (h : DI L n a ord d v) {u k : Nat} (hu : d.getD u 0 < 0) (he : Edge L k u v) : DI L n a (ord ++ [u]) (d.set u (d.getD v 0 + 1)) v := by
  obtain ⟨h1, h2, h3, h4, h5, h6, h7, h8, ⟨h9, h10⟩, h11, h12⟩ := h
  have hun := (edge_lt hf he).1
  have huv := (edge_lt hf he).2.2
  have hno : u ∉ ord := fun e => by have := (h4 u hun).2 e; omega
  have hs : (d.set u (d.getD v 0 + 1)).getD u 0 = d.getD v 0 + 1 := getD_set_same _ _ _ _ (by omega)
  have ho : ∀ x, x ≠ u → (d.set u (d.getD v 0 + 1)).getD x 0 = d.getD x 0 := fun x hx => getD_set_other _ _ _ _ _ (Ne.symm hx)
  have hoo : ∀ x ∈ ord, (d.set u (d.getD v 0 + 1)).getD x 0 = d.getD x 0 := fun x hx => ho x (by rintro rfl; exact hno hx)
  have hv0 : 0 ≤ d.getD v 0 := (h4 v (h3 v h9)).2 h9
  refine ⟨by simpa using h1, ?_, fun x hx => ?_, fun x hx => ?_, fun x hx => ?_, by simp [h6], fun x hx => ?_, ?_, ⟨by simp [h9], fun x hx => ?_⟩, fun x hx => ?_, fun x hx => ?_⟩
  · rw [List.nodup_append]
    exact ⟨h2, by simp, fun x hx y hy => by rw [List.mem_singleton] at hy; subst hy; rintro rfl; exact hno hx⟩
  · rcases List.mem_append.1 hx with hx | hx
    · exact h3 x hx
    · rw [List.mem_singleton] at hx; subst hx; exact hun
  · by_cases e : x = u
    · subst e; rw [hs]; exact ⟨fun _ => by simp, fun _ => by omega⟩
    · rw [ho x e, h4 x hx]; simp [e]
  · by_cases e : x = u
    · subst e; rw [hs]; omega
    · rw [ho x e]; exact h5 x hx
  · rcases List.mem_append.1 hx with hx | hx
    · rw [hoo x hx]; exact h7 x hx
    · rw [List.mem_singleton] at hx
      subst hx
      rw [hs]
      exact ⟨fun e => by omega, fun e => absurd (e ▸ h6) hno⟩
  · rw [List.pairwise_append]
    refine ⟨?_, by simp, fun x hx y hy => ?_⟩
    · exact h8.imp_of_mem fun {x y} hx hy hxy => by rw [hoo x hx, hoo y hy]; exact hxy
    · rw [List.mem_singleton] at hy
      subst hy
      rw [hs, hoo x hx]
      exact h10 x hx
  · rw [hoo v h9]
    rcases List.mem_append.1 hx with hx | hx
    · rw [hoo x hx]; exact h10 x hx
    · rw [List.mem_singleton] at hx; subst hx; rw [hs]; exact Int.le_refl _
  · rw [List.length_append, List.length_singleton]
    rcases List.mem_append.1 hx with hx | hx
    · rw [hoo x hx]; have := h11 x hx; omega
    · rw [List.mem_singleton] at hx; subst hx; rw [hs]; have := h11 v h9; omega
  · rcases List.mem_append.1 hx with hx | hx
    · rcases h12 x hx with e | ⟨k', z, e1, e2, e3⟩
      · exact .inl e
      · exact .inr ⟨k', z, e1, by simp [e2], by rw [hoo x hx, hoo z e2]; exact e3⟩
    · rw [List.mem_singleton] at hx
      subst hx
      exact .inr ⟨k, v, he.symm, by simp [h9], by rw [hs, hoo v h9]⟩
/-- done: each neighbour is at most one further -/
def DoneD (L : Prs) (d : List Int) (v : Nat) : Prop := ∀ u k, Edge L k u v → 0 ≤ d.getD u 0 ∧ d.getD u 0 ≤ d.getD v 0 + 1
theorem scanD_ok {L : Prs} {n a v : Nat} (hf : FitL n L) : ∀ (l : List (Nat × Nat)) (ord : List Nat) (d : List Int) (w : List Nat), (∀ x ∈ l, x ∈ nbF L v) → DI L n a ord d v →
    ∃ new, DI L n a (ord ++ new) (scanD v l d w).1 v ∧ (scanD v l d w).2 = w ++ new ∧ (∀ x ∈ ord, (scanD v l d w).1.getD x 0 = d.getD x 0) ∧ (∀ u k, (u, k) ∈ l → u ∈ ord ++ new) ∧ (∀ x ∈ new, (scanD v l d w).1.getD x 0 = d.getD v 0 + 1) := by
  intro l
  induction l with
  | nil => intro ord d w _ h; exact ⟨[], by rw [List.append_nil]; exact h, by simp [scanD], fun x hx => rfl, (fun u k h => by cases h), fun x hx => by cases hx⟩
  | cons x r ih =>
    intro ord d w hl h
    obtain ⟨u, k⟩ := x
    have he : Edge L k u v := mem_nb.1 (hl _ List.mem_cons_self)
    have hun := (edge_lt hf he).1
    have hr := fun x hx => hl x (List.mem_cons_of_mem _ hx)
    unfold scanD
    by_cases hc : d.getD u 0 < 0
    · rw [if_pos hc]
      have hadd := h.add hf hc he
      have hno : u ∉ ord := fun e => by have := (h.mem u hun).2 e; omega
      have hoo : ∀ x ∈ ord, (d.set u (d.getD v 0 + 1)).getD x 0 = d.getD x 0 := fun x hx => getD_set_other _ _ _ _ _ (by rintro rfl; exact hno hx)
      obtain ⟨new, h1, h2, h3, h4, h5⟩ := ih (ord ++ [u]) _ (w ++ [u]) hr hadd
      rw [List.append_assoc] at h1 h4
      refine ⟨[u] ++ new, h1, by rw [h2, List.append_assoc], fun x hx => ?_, fun u' k' hm => ?_, fun x hx => ?_⟩
      · rw [h3 x (List.mem_append_left _ hx)]; exact hoo x hx
      · rcases List.mem_cons.1 hm with hm | hm
        · cases hm; simp
        · exact h4 u' k' hm
      · rcases List.mem_append.1 hx with hx | hx
        · rw [List.mem_singleton] at hx
          subst hx
          rw [h3 x (by simp)]
          exact getD_set_same _ _ _ _ (by rw [h.dl]; omega)
        · rw [h5 x hx, hoo v h.near.1]
    · rw [if_neg hc]
      obtain ⟨new, h1, h2, h3, h4, h5⟩ := ih ord d w hr h
      refine ⟨new, h1, h2, h3, fun u' k' hm => ?_, h5⟩
      rcases List.mem_cons.1 hm with hm | hm
      · cases hm
        exact List.mem_append_left _ ((h.mem u hun).1 (by omega))
      · exact h4 u' k' hm
theorem scanD_len {v : Nat} : ∀ (l : List (Nat × Nat)) (d : List Int) (w : List Nat), w.length ≤ (scanD v l d w).2.length := by
  intro l
  induction l with
  | nil => intro d w; exact Nat.le_refl _
  | cons x r ih =>
    intro d w
    obtain ⟨u, k⟩ := x
    unfold scanD
    split
    · refine Nat.le_trans ?_ (ih _ _)
      simp
    · exact ih _ _
/-- what the document and the program call distances -/
structure DistOk (L : Prs) (n a : Nat) (d : List Int) : Prop where
  dl : d.length = n
  neg : ∀ u, u < n → -1 ≤ d.getD u 0
  zero : ∀ u, u < n → (d.getD u 0 = 0 ↔ u = a)
  edge : ∀ u v k, Edge L k u v → 0 ≤ d.getD v 0 → 0 ≤ d.getD u 0 ∧ d.getD u 0 ≤ d.getD v 0 + 1
  by_ : ∀ u, u < n → 0 < d.getD u 0 → ∃ k x, Edge L k x u ∧ d.getD u 0 = d.getD x 0 + 1
/-- one node taken from in front: what holds ahead -/
structure DQ (L : Prs) (n a : Nat) (done ws : List Nat) (d : List Int) : Prop where
  di : ∀ v, (ws.head? = some v ∨ (ws = [] ∧ done.getLast? = some v)) → DI L n a (done ++ ws) d v
  dn : ∀ v ∈ done, DoneD L d v
  ne : done ++ ws ≠ []
theorem DQ.start {L : Prs} {n a : Nat} (ha : a < n) : DQ L n a [] [a] ((List.replicate n (-1)).set a 0) := by
  have hs : ((List.replicate n (-1 : Int)).set a 0).getD a 0 = 0 := getD_set_same _ _ _ _ (by simpa using ha)
  have ho : ∀ x, x < n → x ≠ a → ((List.replicate n (-1 : Int)).set a 0).getD x 0 = -1 := fun x hx hxa => by
    rw [getD_set_other _ _ _ _ _ (Ne.symm hxa)]
    simp [List.getD_eq_getElem?_getD, List.getElem?_replicate, hx]
  refine ⟨fun v hv => ?_, (fun v hv => by cases hv), by simp⟩
  obtain rfl : a = v := by simpa using hv
  refine ⟨by simp, by simp, by simpa using ha, fun u hu => ?_, fun u hu => ?_, by simp, fun u hu => ?_, by simp, ⟨by simp, fun u hu => ?_⟩, fun u hu => ?_, fun u hu => .inl (by simpa using hu)⟩
  · by_cases e : u = a
    · subst e; rw [hs]; simp
    · rw [ho u hu e]; simp [e]
  · by_cases e : u = a
    · subst e; rw [hs]; decide
    · rw [ho u hu e]; decide
  · obtain rfl : u = a := by simpa using hu
    exact ⟨fun _ => rfl, fun _ => hs⟩
  · obtain rfl : u = a := by simpa using hu
    rw [hs]; decide
  · obtain rfl : u = a := by simpa using hu
    rw [hs]; simp
theorem DQ.step {L : Prs} {n a v : Nat} {done ws : List Nat} {d : List Int} (hf : FitL n L) (h : DQ L n a done (v :: ws) d) : DQ L n a (done ++ [v]) (scanD v (nbF L v) d ws).2 (scanD v (nbF L v) d ws).1 := by
  have hdi := h.di v (.inl rfl)
  obtain ⟨new, h1, h2, h3, h4, h5⟩ := scanD_ok hf (nbF L v) (done ++ v :: ws) d ws (fun x hx => hx) hdi
  have e : (done ++ v :: ws) ++ new = (done ++ [v]) ++ (ws ++ new) := by simp
  rw [e] at h1 h4
  rw [h2]
  refine ⟨fun x hx => ?_, fun x hx => ?_, by simp⟩
  · refine ⟨h1.dl, h1.nod, h1.lt, h1.mem, h1.neg, h1.hd, h1.zero, h1.up, ?_, h1.size, h1.by_⟩
    have hup := h1.up
    rcases hx with hx | ⟨hx, hx2⟩
    · have hxm : x ∈ ws ++ new := List.mem_of_mem_head? (by rw [hx]; rfl)
      refine ⟨List.mem_append_right _ hxm, fun u hu => ?_⟩
      have hvx : (scanD v (nbF L v) d ws).1.getD v 0 ≤ (scanD v (nbF L v) d ws).1.getD x 0 := by
        rw [List.pairwise_append] at hup
        exact hup.2.2 v (by simp) x hxm
      have := h1.near.2 u hu
      omega
    · have hxv : x = v := by simpa using hx2.symm
      subst hxv
      exact h1.near
  · rcases List.mem_append.1 hx with hx | hx
    · have hd := h.dn x hx
      intro u k he
      have hxo : x ∈ done ++ v :: ws := by simp [hx]
      have huo : u ∈ done ++ v :: ws := (hdi.mem u (edge_lt hf he).1).1 (hd u k he).1
      rw [h3 x hxo, h3 u huo]
      exact hd u k he
    · rw [List.mem_singleton] at hx
      subst hx
      intro u k he
      have huo := h4 u k (mem_nb.2 he)
      exact ⟨(h1.mem u (edge_lt hf he).1).2 huo, h1.near.2 u huo⟩
theorem DQ.len {L : Prs} {n a : Nat} {done ws : List Nat} {d : List Int} (h : DQ L n a done ws d) : done.length + ws.length ≤ n ∧ d.length = n := by
  have : ∃ v, ws.head? = some v ∨ (ws = [] ∧ done.getLast? = some v) := by
    cases ws with
    | cons v r => exact ⟨v, .inl rfl⟩
    | nil =>
      cases hl : done.getLast? with
      | none => exfalso; have := h.ne; rw [List.getLast?_eq_none_iff] at hl; subst hl; simp at this
      | some v => exact ⟨v, .inr ⟨rfl, rfl⟩⟩
  obtain ⟨v, hv⟩ := this
  have hdi := h.di v hv
  have := nodup_bound hdi.nod hdi.lt
  rw [List.length_append] at this
  exact ⟨this, hdi.dl⟩
theorem DQ.fin {L : Prs} {n a : Nat} {done : List Nat} {d : List Int} (hf : FitL n L) (h : DQ L n a done [] d) : DistOk L n a d := by
  have : ∃ v, done.getLast? = some v := by
    cases hl : done.getLast? with
    | none => exfalso; have := h.ne; rw [List.getLast?_eq_none_iff] at hl; subst hl; simp at this
    | some v => exact ⟨v, rfl⟩
  obtain ⟨v, hv⟩ := this
  have hdi := h.di v (.inr ⟨rfl, hv⟩)
  rw [List.append_nil] at hdi
  refine ⟨hdi.dl, hdi.neg, fun u hu => ?_, fun u v k he hv0 => ?_, fun u hu h0 => ?_⟩
  · by_cases hm : u ∈ done
    · exact hdi.zero u hm
    · have h1 : ¬ 0 ≤ d.getD u 0 := fun e => hm ((hdi.mem u hu).1 e)
      exact ⟨fun e => by omega, fun e => absurd (e ▸ hdi.hd) hm⟩
  · exact h.dn v ((hdi.mem v (edge_lt hf he).2.1).1 hv0) u k he
  · have hm := (hdi.mem u hu).1 (by omega)
    rcases hdi.by_ u hm with e | ⟨k, x, e1, e2, e3⟩
    · have := (hdi.zero u hm).2 e; omega
    · exact ⟨k, x, e1, e3⟩
theorem farR_ok {L : Prs} {n a : Nat} (hf : FitL n L) : ∀ (f : Nat) (done ws : List Nat) (d : List Int), DQ L n a done ws d → n < f + done.length → DistOk L n a (farR L f d ws) := by
  intro f
  induction f with
  | zero => intro done ws d h hlt; have := h.len; omega
  | succ f ih =>
    intro done ws d h hlt
    cases ws with
    | nil => exact h.fin hf
    | cons v ws => exact ih _ _ _ (h.step hf) (by simp; omega)
theorem far_ok {L : Prs} {n a : Nat} (hf : FitL n L) (ha : a < n) : DistOk L n a (farI L n (a : Int)) := by
  unfold farI
  rw [if_pos ⟨by omega, by omega⟩, Int.toNat_natCast]
  exact farR_ok hf (n + 1) [] [a] _ (DQ.start ha) (by simp)
end Go.Proofs.Ytenilbofncfbdaa

namespace Go.Proofs.Ytenilbofncfbdaa
open Go.RowKit

attribute [local go_sem] Oper.semAt_some

/-- the distances in memory: their row and the box that holds it; those that wait and their box -/
structure DS (w1 : World) (n yb yp wp gq : Nat) (wv : Value) (d : List Int) (ws : List Nat) (W : World) : Prop where
 low : Below w1.heap.size w1 W
 ry : RowI W yb d
 bY : W.heap[yp]? = some (.cells #[.slice (some ⟨yb, 0, none⟩) n n] 35 (0, 0))
 bw : W.heap[wp]? = some (.cells #[wv] 35 (0, 0))
 q : Que W gq wv (nI ws)
 ge : w1.heap.size ≤ yb ∧ w1.heap.size ≤ yp ∧ w1.heap.size ≤ wp ∧ w1.heap.size ≤ gq
 n1 : gq ≠ yb
 n2 : yp ≠ wp
 yl : d.length = n
section
variable {w1 : World} {n yb yp wp gq : Nat} {wv : Value} {d : List Int} {ws : List Nat} {W : World}
theorem DS.of {W' : World} (h : DS w1 n yb yp wp gq wv d ws W) (hl : Below w1.heap.size w1 W') (hk : ∀ k cs t fr, W.heap[k]? = some (.cells cs t fr) → (k = yb ∨ k = yp ∨ k = wp ∨ k = gq) → W'.heap[k]? = W.heap[k]?) : DS w1 n yb yp wp gq wv d ws W' := by
 have hq := h.q
 obtain ⟨off, cap, arr, e1, e2, e3⟩ := hq
 exact ⟨hl, h.ry.of (hk _ _ _ _ h.ry (by simp)), (hk _ _ _ _ h.bY (by simp)).trans h.bY, (hk _ _ _ _ h.bw (by simp)).trans h.bw, h.q.of (hk _ _ _ _ e2 (by simp)), h.ge, h.n1, h.n2, h.yl⟩
theorem DS.below {W' : World} (h : DS w1 n yb yp wp gq wv d ws W) (hb : Below W.heap.size W W') : DS w1 n yb yp wp gq wv d ws W' :=
 h.of (h.low.trans (hb.mono h.low.size)) fun k _ _ _ hk _ => hb.block k (Array.getElem?_eq_some_iff.1 hk).1
theorem DS.put {l : Nat} {o o' : Obj} (h : DS w1 n yb yp wp gq wv d ws W) (hl : w1.heap.size ≤ l) (ho : W.heap[l]? = some o) (hc : o.isCells = false) : DS w1 n yb yp wp gq wv d ws (W.putObj l o') :=
 h.of (h.low.trans ((Below.refl _ W).grown (grownBy_putObj' W l o') (by have := h.low.size; omega) (fun k e => by cases e; omega))) fun k _ _ _ hk _ => (row_put o' hk ho hc).trans hk.symm
theorem DS.setY {u : Nat} {x : Int} (h : DS w1 n yb yp wp gq wv d ws W) : DS w1 n yb yp wp gq wv (d.set u x) ws (W.setCell ⟨yb, u, none⟩ (.int .i64 x)) := by
 have e : ∀ c, c ≠ yb → (W.setCell ⟨yb, u, none⟩ (.int .i64 x)).heap[c]? = W.heap[c]? := fun c h1 => Below.heap_setCell _ _ _ _ h1
 obtain ⟨off, cap, arr, e1, e2, e3⟩ := h.q
 have hry : W.heap[yb]? = some (.cells (d.map intV).toArray 3 (0, 0)) := h.ry
 exact ⟨bel_set h.ge.1 h.low, RowI.set h.ry u _, (e _ (blk_ne h.bY hry (by decide))).trans h.bY, (e _ (blk_ne h.bw hry (by decide))).trans h.bw, h.q.of (e _ h.n1), h.ge, h.n1, h.n2, by simpa using h.yl⟩
/-- those that wait are others now, and lie in the box -/
theorem DS.wait {W' : World} {gq' : Nat} {wv' : Value} {ws' : List Nat} (h : DS w1 n yb yp wp gq wv d ws W) (hq : Que W' gq' wv' (nI ws')) (hg : gq' = gq ∨ gq' = W.heap.size) (ho : ∀ c, c ≠ gq → c < W.heap.size → W'.heap[c]? = W.heap[c]?) (hb : Below gq W W') : DS w1 n yb yp wp gq' wv' d ws' (W'.setCell ⟨wp, 0, none⟩ wv') := by
 obtain ⟨off, cap, arr, e1, e2, e3⟩ := h.q
 obtain ⟨off', cap', arr', f1, f2, f3⟩ := hq
 have lt : ∀ {k : Nat} {o : Obj}, W.heap[k]? = some o → k < W.heap.size := fun hk => (Array.getElem?_eq_some_iff.1 hk).1
 have hwq : wp ≠ gq := blk_ne h.bw e2 (by decide)
 have kw : W'.heap[wp]? = some (.cells #[wv] 35 (0, 0)) := (ho wp hwq (lt h.bw)).trans h.bw
 have hwq' : gq' ≠ wp := by
  rintro rfl
  rw [f2] at kw
  injection kw with kw
  injection kw with _ kw
  revert kw
  decide
 have e : ∀ {c : Nat} {cs : Array Value} {t : TypeId} {fr : Nat × Nat}, W.heap[c]? = some (.cells cs t fr) → c ≠ gq → c ≠ wp → (W'.setCell ⟨wp, 0, none⟩ wv').heap[c]? = W.heap[c]? := fun hc h1 h2 => (Below.heap_setCell _ _ _ _ h2).trans (ho _ h1 (lt hc))
 refine ⟨bel_set h.ge.2.2.1 (h.low.trans (hb.mono h.ge.2.2.2)), h.ry.of (e h.ry (Ne.symm h.n1) (blk_ne h.ry h.bw (by decide))), (e h.bY (blk_ne h.bY e2 (by decide)) h.n2).trans h.bY, ?_, ⟨off', cap', arr', f1, (Below.heap_setCell _ _ _ _ hwq').trans f2, f3⟩, ⟨h.ge.1, h.ge.2.1, h.ge.2.2.1, ?_⟩, ?_, h.n2, h.yl⟩
 ·simp [World.setCell, Array.getElem?_modify, kw]
 ·rcases hg with rfl | rfl
  ·exact h.ge.2.2.2
  ·exact h.low.size
 ·rcases hg with rfl | rfl
  ·exact h.n1
  ·have := lt h.ry; omega
end

/-- within the rounds: pre has been looked at, rest has not -/
structure DR (w1 : World) (L : Prs) (n v : Nat) (lv : Value) (N0 U : Nat) (ds : List Deferred) (yb yp wp qn vb : Nat) (d0 : List Int) (ws0 : List Nat) (gq : Nat) (wv : Value) (d : List Int) (ws : List Nat) (pre rest : List (Nat × Nat)) (W : World) : Prop where
 sp : nbF L v = pre ++ rest
 sc : scanD v (nbF L v) d0 ws0 = scanD v rest d ws
 rs : DS w1 n yb yp wp gq wv d ws W
 inv : InvN qn lv L v W
 bv : W.heap[vb]? = some (.cells #[.int .i64 (v : Int)] 3 (0, 0))
 mks : Marks N0 U ds W
 g1 : gq ≠ vb
 g2 : gq ≠ qn + 1
 y1 : yb ≠ vb
 y2 : yb ≠ qn + 1
 dv : d.getD v 0 = d0.getD v 0
section
variable {w1 : World} {L : Prs} {n v : Nat} {lv : Value} {N0 U : Nat} {ds : List Deferred} {yb yp wp qn vb : Nat} {d0 : List Int} {ws0 : List Nat} {gq : Nat} {wv : Value} {d : List Int} {ws : List Nat} {pre rest : List (Nat × Nat)} {W : World}
theorem DR.below {W' : World} (h : DR w1 L n v lv N0 U ds yb yp wp qn vb d0 ws0 gq wv d ws pre rest W) (hb : Below W.heap.size W W') : DR w1 L n v lv N0 U ds yb yp wp qn vb d0 ws0 gq wv d ws pre rest W' :=
 ⟨h.sp, h.sc, h.rs.below hb, h.inv.below hb, stays h.bv hb, h.mks.below hb, h.g1, h.g2, h.y1, h.y2, h.dv⟩
theorem DR.put {l : Nat} {o o' : Obj} (h : DR w1 L n v lv N0 U ds yb yp wp qn vb d0 ws0 gq wv d ws pre rest W) (hl : w1.heap.size ≤ l) (hU : U ≤ l) (ho : W.heap[l]? = some o) (hc : o.isCells = false) : DR w1 L n v lv N0 U ds yb yp wp qn vb d0 ws0 gq wv d ws pre rest (W.putObj l o') :=
 ⟨h.sp, h.sc, h.rs.put hl ho hc, ⟨row_put o' h.inv.1 ho hc, row_put o' h.inv.2.1 ho hc, Lis.put h.inv.2.2 ho hc⟩, row_put o' h.bv ho hc, h.mks.put hU, h.g1, h.g2, h.y1, h.y2, h.dv⟩
theorem DR.next {W' : World} {gq' : Nat} {wv' : Value} {d' : List Int} {ws' : List Nat} {pre' rest' : List (Nat × Nat)} (h : DR w1 L n v lv N0 U ds yb yp wp qn vb d0 ws0 gq wv d ws pre rest W) (hl : Lis W' W'.heap.size lv L) (hr : DS w1 n yb yp wp gq' wv' d' ws' W') (ho : KeepsOthers W W')
  (hs : ∀ c, c ≠ yb → c ≠ gq → c ≠ wp → c < W.heap.size → W'.heap[c]? = W.heap[c]?) (hg : gq' = gq ∨ W.heap.size ≤ gq') (hsp : nbF L v = pre' ++ rest') (hsc : scanD v (nbF L v) d0 ws0 = scanD v rest' d' ws') (hdv : d'.getD v 0 = d.getD v 0) :
  DR w1 L n v lv N0 U ds yb yp wp qn vb d0 ws0 gq' wv' d' ws' pre' rest' W' := by
 obtain ⟨off, cap, arr, e1, e2, e3⟩ := h.rs.q
 have hry : W.heap[yb]? = some (.cells (d.map intV).toArray 3 (0, 0)) := h.rs.ry
 have lt : ∀ {k : Nat} {o : Obj}, W.heap[k]? = some o → k < W.heap.size := fun hk => (Array.getElem?_eq_some_iff.1 hk).1
 have k1 := (hs vb (Ne.symm h.y1) (Ne.symm h.g1) (blk_ne h.bv h.rs.bw (by decide)) (lt h.bv)).trans h.bv
 have k2 := (hs qn (blk_ne h.inv.1 hry (by decide)) (blk_ne h.inv.1 e2 (by decide)) (blk_ne h.inv.1 h.rs.bw (by decide)) (lt h.inv.1)).trans h.inv.1
 have k3 := (hs (qn + 1) (Ne.symm h.y2) (Ne.symm h.g2) (blk_ne h.inv.2.1 h.rs.bw (by decide)) (lt h.inv.2.1)).trans h.inv.2.1
 refine ⟨hsp, hsc, hr, ⟨k2, k3, hl⟩, k1, h.mks.others ho, ?_, ?_, h.y1, h.y2, hdv.trans h.dv⟩
 ·rcases hg with rfl | hg
  ·exact h.g1
  ·have := lt h.bv; omega
 ·rcases hg with rfl | hg
  ·exact h.g2
  ·have := lt h.inv.2.1; omega
end
theorem ifset {b : Bool} {d : List Int} {u v : Nat} {x : Int} (h : u ≠ v) : (if b = true then d.set u x else d).getD v 0 = d.getD v 0 := by
 cases b with
 | true => exact getD_set_other _ _ _ _ _ h
 | false => rfl

/-- at the loop's head: f: what the search has still to burn -/
def FD (w1 : World) (L : Prs) (n a : Nat) (R : List Int) (N0 yb yp wp f : Nat) (ds : List Deferred) (W : World) : Prop :=
 ∃ (d : List Int) (ws done : List Nat) (gq U : Nat) (wv : Value), R = farR L f d ws ∧ DQ L n a done ws d ∧ n < f + done.length ∧ DS w1 n yb yp wp gq wv d ws W ∧ Marks N0 U ds W ∧ U ≤ W.heap.size
theorem far_end {fn : Func} {w W : World} {n yb U : Nat} {R : List Int} {a : Act} (h : RowI W yb R) (hge : w.heap.size ≤ yb) (hb : Below w.heap.size w W) (hm : Marks w.heap.size U a.defers W) (hfn : fn.results = #[.tmp 6]) (h6 : a.tmps.getD 6 undef = .slice (some ⟨yb, 0, none⟩) n n) :
  bodyPostM Fence.wide 5 Try.prog fn (fun e w' => (∃ yb, e = .returned (.slice (some ⟨yb, 0, none⟩) n n) ∧ RowI w' yb R ∧ w.heap.size ≤ yb) ∧ Below w.heap.size w w') .ret a W := by
 refine (marks_retN hm fun w' hw' => ⟨.slice (some ⟨yb, 0, none⟩) n n, ?_, ⟨yb, rfl, ?_, hge⟩, ?_⟩).1
 ·simp [results, hfn]
  simpa using h6
 ·exact hw'.cells _ _ h rfl
 ·exact hb.trans hw'.low

set_option maxRecDepth 100000 in
set_option maxHeartbeats 8000000 in
theorem far_any (w : World) (lv : Value) (n : Nat) (L : Prs) (a : Int) (hl : Lis w w.heap.size lv L) (hf : FitL n L) (hn : n ≤ 16) (hn1 : 1 ≤ n) :
  Calls Try.prog 38 #[.int .i64 (n : Int), lv, .int .i64 a] w fun e w' => (∃ yb, e = .returned (.slice (some ⟨yb, 0, none⟩) n n) ∧ RowI w' yb (farI L n a) ∧ w.heap.size ≤ yb) ∧ Below w.heap.size w w' := by
 obtain ⟨R, hR⟩ : ∃ R, R = farI L n a := ⟨_, rfl⟩
 rw [← hR]
 have HF := Lib.hid hf
 have HLS := Lib.hid hl
 have hn16 := hn
 have m0 := new_block w (.cells #[.int .i64 (-1)] 3)
 have hrow0 : RowI (w.alloc (.cells #[.int .i64 (-1)] 3)) w.heap.size [-1] := m0.2
 have HREP := Lib.hid (repeat_any (.slice (some ⟨w.heap.size, 0, none⟩) 1 1) (-1) n (w.alloc (.cells #[.int .i64 (-1)] 3)) (hrow0.its (by simp)) hn hn1)
 have HB0 := Lib.hid m0.1
 have HQ0 : Hid (w.heap.size = w.heap.size) := rfl
 clear m0 hrow0
 by_cases hin : 0 ≤ a ∧ a < n
 ·have hRR : R = farR L (n + 1) ((List.replicate n (-1)).set a.toNat 0) [a.toNat] := by rw [hR]; unfold farI; rw [if_pos hin]
  obtain ⟨z, rfl⟩ : ∃ z : Nat, a = (z : Int) := ⟨a.toNat, by omega⟩
  have hz : z < n := by omega
  rw [Int.toNat_natCast] at hRR
  have HR := Lib.hid hRR
  have HDQ := Lib.hid (DQ.start (L := L) hz)
  clear hR hRR hl hf
  refine (callsIn_wide (n := 5)).1 ?_
  refine callsIn_of_wp_marks Try.func38 rfl trivial ?_ rfl
  simp only [Try.ntmps38, List.size_toArray, List.length_cons, List.length_nil, Nat.reduceAdd, Nat.reduceSub, Array.replicate_succ, Array.replicate_zero, List.push_toArray, List.append_toArray, List.nil_append, List.cons_append]
  gi_wp2_with (fail)
  refine ⟨trivial, ?_⟩
  refine (callsIn_wide.2 HREP.out).mono ?_
  rintro e W1 ⟨⟨yb, rfl, hrow, hge⟩, hbel⟩
  have HB1 : Hid (Below w.heap.size w W1) := HB0.out.trans (hbel.mono HB0.out.size)
  have cy := hrow.cell z (by simpa using hz)
  have fy := hrow.frozen z
  have hyl := hrow.lt
  have HROW := Lib.hid hrow
  have HGE : Hid (w.heap.size ≤ yb) := by have := HB0.out.size; show _ ≤ _; omega
  clear hrow hge hbel HREP HB0
  gi_wp2_with (fail)
  have hrow := HROW.out
  have hrow' : W1.heap[yb]? = some (.cells ((List.replicate n (-1)).map intV).toArray 3 (0, 0)) := hrow
  have hstart : DS w n yb W1.heap.size (W1.heap.size + 1 + 1) (W1.heap.size + 1) (.slice (some ⟨W1.heap.size + 1, 0, none⟩) 1 1) ((List.replicate n (-1)).set z 0) [z] ((((W1.setCell ⟨yb, z, none⟩ (.int .i64 0)).alloc (.cells #[.slice (some ⟨yb, 0, none⟩) n n] 35)).alloc (.cells #[.int .i64 (z : Int)] 3)).alloc (.cells #[.slice (some ⟨W1.heap.size + 1, 0, none⟩) 1 1] 35)) := by
   have hz0 : (W1.setCell ⟨yb, z, none⟩ (.int .i64 0)).heap.size = W1.heap.size := by simp
   have m1 := new_block (W1.setCell ⟨yb, z, none⟩ (.int .i64 0)) (.cells #[.slice (some ⟨yb, 0, none⟩) n n] 35)
   have m2 := new_block ((W1.setCell ⟨yb, z, none⟩ (.int .i64 0)).alloc (.cells #[.slice (some ⟨yb, 0, none⟩) n n] 35)) (.cells #[.int .i64 (z : Int)] 3)
   have m3 := new_block (((W1.setCell ⟨yb, z, none⟩ (.int .i64 0)).alloc (.cells #[.slice (some ⟨yb, 0, none⟩) n n] 35)).alloc (.cells #[.int .i64 (z : Int)] 3)) (.cells #[.slice (some ⟨W1.heap.size + 1, 0, none⟩) 1 1] 35)
   simp only [World.size_alloc, hz0] at m1 m2 m3
   have hsz := HB1.out.size
   exact ⟨(((bel_set HGE.out HB1.out).trans (m1.1.mono hsz)).trans (m2.1.mono (by omega))).trans (m3.1.mono (by omega)), ((RowI.set hrow z 0).of (m1.1.block _ hyl)).of ((m2.1.block _ (by omega))) |>.of (m3.1.block _ (by omega)), (m3.1.block _ (by omega)).trans ((m2.1.block _ (by omega)).trans m1.2), m3.2, Que.lit ((m3.1.block _ (by omega)).trans m2.2), ⟨HGE.out, by omega, by omega, by omega⟩, by omega, by omega, by simp⟩
  obtain ⟨W2, hW2⟩ : ∃ W2, W2 = (((W1.setCell ⟨yb, z, none⟩ (.int .i64 0)).alloc (.cells #[.slice (some ⟨yb, 0, none⟩) n n] 35)).alloc (.cells #[.int .i64 (z : Int)] 3)).alloc (.cells #[.slice (some ⟨W1.heap.size + 1, 0, none⟩) 1 1] 35) := ⟨_, rfl⟩
  rw [← hW2] at hstart ⊢
  obtain ⟨yp, hyp⟩ : ∃ q, q = W1.heap.size := ⟨_, rfl⟩
  rw [← hyp] at hstart ⊢
  obtain ⟨wp, hwp⟩ : ∃ q, q = yp + 1 + 1 := ⟨_, rfl⟩
  rw [← hwp] at hstart ⊢
  have HST := Lib.hid hstart
  have hwz : w.heap.size ≤ W2.heap.size := hstart.low.size
  clear hrow hrow' hstart hW2 hwp hyp cy fy hyl HROW
  refine wpIn_loop_ghost (fun f a' W' => ∃ (dfs : List Deferred) (u9 u10 u11 u12 u13 u14 u15 u16 u17 u18 u19 u20 u21 u22 u23 u24 u25 u26 u27 u28 u29 u30 u31 u32 u33 u34 u35 u36 u37 u38 u39 u40 u41 u42 u43 u44 u45 u46 u47 u48 u49 u50 u51 u52 u53 u54 u55 u56 u57 : Value), FD w L n z R w.heap.size yb yp wp f dfs W' ∧ a' = { tmps := #[.int .i64 (n : Int), lv, .int .i64 (z : Int), undef, undef, undef, .slice none 0 0, .pointer (some ⟨yp, 0, none⟩), .pointer (some ⟨wp, 0, none⟩), u9, u10, u11, u12, u13, u14, u15, u16, u17, u18, u19, u20, u21, u22, u23, u24, u25, u26, u27, u28, u29, u30, u31, u32, u33, u34, u35, u36, u37, u38, u39, u40, u41, u42, u43, u44, u45, u46, u47, u48, u49, u50, u51, u52, u53, u54, u55, u56, u57], defers := dfs }) (n + 1) ⟨[], _, _, _, _, _, _, _, _, _, _, _, _, _, _, _, _, _, _, _, _, _, _, _, _, _, _, _, _, _, _, _, _, _, _, _, _, _, _, _, _, _, _, _, _, _, _, _, _, _, ⟨_, [z], [], _, w.heap.size, _, HR.out, HDQ.out, by simp, HST.out, trivial, hwz⟩, rfl⟩ ?_
  rintro f a' W ⟨dfs, u9, u10, u11, u12, u13, u14, u15, u16, u17, u18, u19, u20, u21, u22, u23, u24, u25, u26, u27, u28, u29, u30, u31, u32, u33, u34, u35, u36, u37, u38, u39, u40, u41, u42, u43, u44, u45, u46, u47, u48, u49, u50, u51, u52, u53, u54, u55, u56, u57, HFD, rfl⟩
  obtain ⟨d, ws, done, gq, U, wv, hRR, hDQ, hfu, hDS, hM, hU⟩ := HFD
  obtain ⟨f, rfl⟩ : ∃ f', f = f' + 1 := ⟨f - 1, by have := hDQ.len; omega⟩
  have cwp := cell_of_row _ _ 0 _ _ _ hDS.bw
  obtain ⟨off, capq, hwv, hcap, hcells⟩ := hDS.q.slice
  subst hwv
  have HDS := Lib.hid hDS
  have HM := Lib.hid hM
  have HDQ := Lib.hid hDQ
  have HRR := Lib.hid hRR
  clear HST HR
  cases ws with
  | nil =>
   have cyp := cell_of_row _ _ 0 _ _ _ hDS.bY
   have HRI : Hid (R = d) := hRR.trans rfl
   clear hRR hDS hM hcells hcap
   gi_wp2_with (fail)
   have hR2 := HRI.out
   subst hR2
   exact far_end HDS.out.ry HDS.out.ge.1 HDS.out.low HM.out rfl rfl
  | cons v ws =>
   have hq : Que W gq (.slice (some ⟨gq, off, none⟩) (nI (v :: ws)).length capq) ((v : Int) :: nI ws) := hDS.q
   have c0 : W.cell? ⟨gq, off, none⟩ = some (.int .i64 (v : Int)) := by have h0 := hcells 0 (by simp); exact h0
   have zwp := frozen_of_row _ _ 0 _ _ hDS.bw
   have hwpl : wp < W.heap.size := (Array.getElem?_eq_some_iff.1 hDS.bw).1
   have hgql : gq < W.heap.size := hDS.q.lt
   have hDI := hDQ.di v (.inl rfl)
   have hv : v < n := hDI.lt v (by simp)
   have HDV : Hid (0 ≤ d.getD v 0 ∧ d.getD v 0 ≤ 16) := by
    have h1 := (hDI.mem v hv).2 (by simp)
    have h2 := hDI.size v (by simp)
    have h3 := nodup_bound hDI.nod hDI.lt
    show _ ∧ _
    omega
   obtain ⟨m, hm⟩ : ∃ m, m = (nI (v :: ws)).length := ⟨_, rfl⟩
   have hm1 : 1 ≤ m := by rw [hm]; simp
   rw [← hm] at cwp hq
   have HQ := Lib.hid hq
   clear hDS hM hcells hm hDQ hDI hRR hq
   gi_wp2_with (refine wpListIn_tail_que rfl _ rfl rfl HQ.out ?_)
   intro v' hq'
   have m1 := new_block W (.cells #[.int .i64 (v : Int)] 3)
   have hDS1 := (HDS.out.below m1.1).wait (hq'.keep m1.1) (.inl rfl) (fun c _ _ => rfl) (Below.refl _ _)
   have HVB : ((W.alloc (.cells #[.int .i64 (v : Int)] 3)).setCell ⟨wp, 0, none⟩ v').heap[W.heap.size]? = some (.cells #[.int .i64 (v : Int)] 3 (0, 0)) := (Below.heap_setCell _ _ _ _ (by show W.heap.size ≠ wp; omega)).trans m1.2
   have HM1 : Marks w.heap.size U dfs ((W.alloc (.cells #[.int .i64 (v : Int)] 3)).setCell ⟨wp, 0, none⟩ v') := (HM.out.below m1.1).set ⟨_, _, _, stays HDS.out.bw m1.1⟩
   have HNG : Hid (W.heap.size ≠ gq ∧ W.heap.size ≠ yb) := ⟨by omega, by have := HDS.out.ry.lt; omega⟩
   have hsz : ((W.alloc (.cells #[.int .i64 (v : Int)] 3)).setCell ⟨wp, 0, none⟩ v').heap.size = W.heap.size + 1 := by simp
   have hcomm : (W.alloc (.cells #[.int .i64 (v : Int)] 3)).setCell ⟨wp, 0, none⟩ v' = (W.setCell ⟨wp, 0, none⟩ v').alloc (.cells #[.int .i64 (v : Int)] 3) := by simp [go_sem, hwpl]
   rw [hcomm] at hDS1 HVB HM1 hsz
   have HZ := Lib.hid hsz
   replace HDS1 := Lib.hid hDS1
   replace HVB := Lib.hid HVB
   replace HM1 := Lib.hid HM1
   obtain ⟨ao', m', cap', hv'⟩ : ∃ ao m c, v' = .slice ao m c := by obtain ⟨o, c, e, -⟩ := hq'.slice; exact ⟨_, _, _, e⟩
   subst hv'
   clear hDS1 m1 hq' HDS HM hsz hcomm
   gi_wp2_with (fail)
   obtain ⟨W3, hW3⟩ : ∃ W3, W3 = (W.setCell ⟨wp, 0, none⟩ (.slice ao' m' cap')).alloc (.cells #[.int .i64 (v : Int)] 3) := ⟨_, rfl⟩
   rw [← hW3] at HDS1 HVB HM1 HZ ⊢
   obtain ⟨vb, hvb⟩ : ∃ b, b = W.heap.size := ⟨_, rfl⟩
   rw [← hvb] at HVB HNG HZ ⊢
   have HUV : Hid (U ≤ vb) := by show U ≤ vb; rw [hvb]; exact hU
   clear hW3 cwp c0 zwp hwpl hgql hvb hU
   have HLI : Hid (Lis W3 W3.heap.size lv L) := HLS.out.below HDS1.out.low HDS1.out.low.size
   refine ⟨trivial, ?_⟩
   refine (callsIn_wide.2 (neigh_any lv L v W3 HLI.out)).mono ?_
   rintro e Wy ⟨qn, rfl, hqs, hinv, hbel⟩
   have hri : DR w L n v lv w.heap.size U dfs yb yp wp qn vb d ws gq (.slice ao' m' cap') d ws [] (nbF L v) Wy :=
    ⟨rfl, rfl, HDS1.out.below hbel, hinv, stays HVB.out hbel, HM1.out.below hbel, Ne.symm HNG.out.1, by have := HDS1.out.q.lt; omega, Ne.symm HNG.out.2, by have := HDS1.out.ry.lt; omega, rfl⟩
   have HRI := Lib.hid hri
   have HU : Hid (U ≤ Wy.heap.size ∧ w.heap.size ≤ Wy.heap.size) := ⟨by have h1 := hbel.size; have h2 := HZ.out; have h3 := HUV.out; omega, by have h1 := hbel.size; have h2 := HDS1.out.low.size; omega⟩
   clear hqs hinv hbel hri HDS1 HVB HM1 HZ HNG HLI HUV
   gi_wp2_with (fail)
   refine wpIn_range_H (F := Fence.wide) (n := 5) rfl (by omega) (gf := 50) (lb := #[.pointer (some ⟨qn, 0, none⟩), .pointer (some ⟨qn + 1, 0, none⟩)]) ?hg trivial (enters_of Try.func50 (by kernel_rfl) rfl) (encs := encN) (Inv := InvN qn lv L v) (neigh_iter qn lv L v 4) (fun x => rfl) ?hRput
    (fun pre W => ∃ gq' wv' d' ws' rest, DR w L n v lv w.heap.size U dfs yb yp wp qn vb d ws gq' wv' d' ws' pre rest W ∧ Wy.heap.size ≤ W.heap.size)
    (fun _ _ _ => False)
    ?hI ?hIp ?hIxp ?hInv ?h0 (A := ?A) (fun (x : Nat × Nat) (u k : Nat) (_ _ _ _ : Unit) W => x = (u, k)) ?hAxp ?assign ?body ?done ?stop
   case hg => rfl
   case hRput => exact fun pre x W l o o' h _ _ => h
   case hI =>
    rintro s' A A' ⟨gq', wv', d', ws', rest, h1, h2⟩ hb
    exact ⟨_, _, _, _, _, h1.below hb, Nat.le_trans h2 hb.size⟩
   case hIp =>
    rintro s' A l o o' ⟨gq', wv', d', ws', rest, h1, h2⟩ hl ho hc
    exact ⟨_, _, _, _, _, h1.put (by have := HU.out.2; omega) (by have := HU.out.1; omega) ho hc, by simpa [World.putObj] using h2⟩
   case hIxp =>
    rintro c s' A l o o' h hl ho hc
    exact h.elim
   case hInv => rintro s' W' ⟨gq', wv', d', ws', rest, h1, h2⟩; exact h1.inv
   case h0 => exact ⟨_, _, _, _, _, HRI.out, Nat.le_refl _⟩
   case hAxp => exact fun x u k _ _ _ _ W l o o' h _ _ _ => h
   case assign =>
    rintro yl pre ⟨u, k⟩ W' K h1 hR hK
    have HK := Lib.hid hK
    have HP := Lib.hid h1
    have HR' := Lib.hid hR
    clear hK h1 hR
    simp only [encN]
    gi_wp2
    have d1 : Unit := ()
    have d2 : Unit := ()
    have d3 : Unit := ()
    have d4 : Unit := ()
    exact HK.out u k d1 d2 d3 d4 _ (KeepsOthers.refl _) HP.out HR'.out rfl
   case body =>
    rintro yl pre x u k d1 d2 d3 d4 W0 hyl ⟨rl, hrl⟩ ⟨gq', wv', d', ws', rest0, h1, h2⟩ ⟨rest, hR⟩ rfl
    have hpo : rest0 = (u, k) :: rest := List.append_cancel_left (h1.sp.symm.trans hR)
    subst hpo
    have hedge : Edge L k u v := mem_nb.1 (by rw [hR]; simp)
    obtain ⟨hu, -, huv⟩ := edge_lt HF.out hedge
    have HRI1 := Lib.hid h1
    have HRL := Lib.hid hrl
    have HSZ := Lib.hid h2
    have cyp := cell_of_row _ _ 0 _ _ _ h1.rs.bY
    have cyu := h1.rs.ry.cell u (by rw [h1.rs.yl]; exact hu)
    obtain ⟨du, hdu⟩ : ∃ x, x = d'.getD u 0 := ⟨_, rfl⟩
    obtain ⟨dv, hdv⟩ : ∃ x, x = d'.getD v 0 := ⟨_, rfl⟩
    have hdv2 : 0 ≤ dv ∧ dv ≤ 16 := by rw [hdv, h1.dv]; exact HDV.out
    rw [← hdu] at cyu
    have HSC : Hid (scanD v ((u, k) :: rest) d' ws' = if du < 0 then scanD v rest (d'.set u (dv + 1)) (ws' ++ [u]) else scanD v rest d' ws') := by
     show _ = _
     rw [hdu, hdv]
     rfl
    have HSP : Hid (nbF L v = (pre ++ [(u, k)]) ++ rest) := by show _ = _; rw [hR]; simp
    have hun : 0 ≤ (u : Int) ∧ (u : Int) < (n : Int) := by omega
    have hvn : 0 ≤ (v : Int) ∧ (v : Int) < (n : Int) := by omega
    have HDVE := Lib.hid hdv
    have hyb := h1.rs.ry.lt
    clear h1 h2 hR hedge hrl hdu hdv
    by_cases hneg : du < 0
    ·have HS2 : Hid (scanD v ((u, k) :: rest) d' ws' = scanD v rest (d'.set u (dv + 1)) (ws' ++ [u])) := by show _ = _; rw [HSC.out, if_pos hneg]
     have hwr : IntKind.i64.wrap (dv + 1) = dv + 1 := by rw [IntKind.wrap_i64]; omega
     clear HSC
     gi_wp2_with (fail)
     clear cyp cyu hneg
     refine wpIn_flowM (F0 := (Fence.wide.inRound yl)) (n0 := 3) (fun _ => trivial) (fun h => by cases h) (by kernel_rfl) (by kernel_rfl) 9 8 (by kernel_rfl) (fun j => ([0, 1, 2, 3, 4, 5, 6, 7] : List Nat).getD j 0) (fun j => ([45, 46, 47, 48, 49, 50, 51, 52] : List Nat).getD j 0) (by kernel_rfl) (by kernel_rfl) (by kernel_rfl) (by kernel_rfl) (by kernel_rfl) (by kernel_rfl) (by kernel_rfl) (fun j zv => ([(fun zv => zv = (.slice (some ⟨yb, 0, none⟩) n n)), (fun zv => zv = (.int .i64 (u : Int))), (fun zv => zv = (.slice (some ⟨yb, 0, none⟩) n n)), (fun zv => zv = (.int .i64 (v : Int))), (fun zv => zv = (.pointer (some ⟨yb, v, none⟩))), (fun zv => zv = (.int .i64 dv)), (fun zv => zv = (.int .i64 (dv + 1))), (fun zv => zv = (.pointer (some ⟨yb, u, none⟩)))] : List (Value → Prop)).getD j (fun _ => True) zv) (fun d _ W => DS w n yb yp wp gq' wv' (if d 8 = true then d'.set u (dv + 1) else d') ws' W ∧ KeepsOthers W0 W ∧ (∀ c, c ≠ yb → W.heap[c]? = W0.heap[c]?) ∧ W.heap.size = W0.heap.size) ?h0x ?stepx ?finx
     case h0x => exact fun _ => ⟨HRI1.out.rs.below (bdN _ _ 1), ⟨Nat.le_refl _, fun _ _ h _ => h⟩, (fun _ _ => rfl), rfl⟩
     case stepx =>
      intro i o a W d vs hi ho hdi hJ hf hr hF
      replace hi : i < 9 := hi
      rcases (show i = 0 ∨ i = 1 ∨ i = 2 ∨ i = 3 ∨ i = 4 ∨ i = 5 ∨ i = 6 ∨ i = 7 ∨ i = 8 by omega) with rfl | rfl | rfl | rfl | rfl | rfl | rfl | rfl | rfl
      all_goals
       replace ho := op_at ho (by rfl)
       subst ho
      ·have f7 : a.tmps.getD 7 undef = (.pointer (some ⟨yp, 0, none⟩)) := hf 7 (by kernel_rfl)
       have cyp := cell_of_row _ _ 0 _ _ _ hJ.1.bY
       exact .inl ⟨(fun k b h => by cases h), .inl ⟨0, by decide, rfl, (.slice (some ⟨yb, 0, none⟩) n n), W, (by simp [go_sem, Act.eval, f7, cyp]), rfl, ⟨(by rw [updC_ne (by omega)]; exact hJ.1), hJ.2⟩⟩⟩
      ·have f10 : a.tmps.getD 10 undef = (.int .i64 (u : Int)) := hf 10 (by kernel_rfl)
       exact .inl ⟨(fun k b h => by cases h), .inl ⟨1, by decide, rfl, (.int .i64 (u : Int)), W, (by simp [go_sem, Act.eval, f10]), rfl, ⟨(by rw [updC_ne (by omega)]; exact hJ.1), hJ.2⟩⟩⟩
      ·have f7 : a.tmps.getD 7 undef = (.pointer (some ⟨yp, 0, none⟩)) := hf 7 (by kernel_rfl)
       have cyp := cell_of_row _ _ 0 _ _ _ hJ.1.bY
       exact .inl ⟨(fun k b h => by cases h), .inl ⟨2, by decide, rfl, (.slice (some ⟨yb, 0, none⟩) n n), W, (by simp [go_sem, Act.eval, f7, cyp]), rfl, ⟨(by rw [updC_ne (by omega)]; exact hJ.1), hJ.2⟩⟩⟩
      ·have f9 : a.tmps.getD 9 undef = (.pointer (some ⟨vb, 0, none⟩)) := hf 9 (by kernel_rfl)
       have cv := cell_of_row _ _ 0 _ _ _ ((hJ.2.2.1 vb (Ne.symm HRI1.out.y1)).trans HRI1.out.bv)
       exact .inl ⟨(fun k b h => by cases h), .inl ⟨3, by decide, rfl, (.int .i64 (v : Int)), W, (by simp [go_sem, Act.eval, f9, cv]), rfl, ⟨(by rw [updC_ne (by omega)]; exact hJ.1), hJ.2⟩⟩⟩
      ·have d2 : a.tmps.getD 47 undef = (.slice (some ⟨yb, 0, none⟩) n n) := fdn (hF 2 (by decide) (hr 2 (by kernel_rfl)))
       have d3 : a.tmps.getD 48 undef = (.int .i64 (v : Int)) := fdn (hF 3 (by decide) (hr 3 (by kernel_rfl)))
       exact .inl ⟨(fun k b h => by cases h), .inl ⟨4, by decide, rfl, (.pointer (some ⟨yb, v, none⟩)), W, (by simp [go_sem, Act.eval, d2, d3, hvn]), rfl, ⟨(by rw [updC_ne (by omega)]; exact hJ.1), hJ.2⟩⟩⟩
      ·have d4 : a.tmps.getD 49 undef = (.pointer (some ⟨yb, v, none⟩)) := fdn (hF 4 (by decide) (hr 4 (by kernel_rfl)))
       have cx := hJ.1.ry.cell v (by rw [hJ.1.yl]; exact hv)
       rw [ifset huv, ← HDVE.out] at cx
       exact .inl ⟨(fun k b h => by cases h), .inl ⟨5, by decide, rfl, (.int .i64 dv), W, (by simp [go_sem, Act.eval, d4, cx]), rfl, ⟨(by rw [updC_ne (by omega)]; exact hJ.1), hJ.2⟩⟩⟩
      ·have d5 : a.tmps.getD 50 undef = (.int .i64 dv) := fdn (hF 5 (by decide) (hr 5 (by kernel_rfl)))
       exact .inl ⟨(fun k b h => by cases h), .inl ⟨6, by decide, rfl, (.int .i64 (dv + 1)), W, (by simp [go_sem, Act.eval, d5, hwr]), rfl, ⟨(by rw [updC_ne (by omega)]; exact hJ.1), hJ.2⟩⟩⟩
      ·have d0 : a.tmps.getD 45 undef = (.slice (some ⟨yb, 0, none⟩) n n) := fdn (hF 0 (by decide) (hr 0 (by kernel_rfl)))
       have d1 : a.tmps.getD 46 undef = (.int .i64 (u : Int)) := fdn (hF 1 (by decide) (hr 1 (by kernel_rfl)))
       exact .inl ⟨(fun k b h => by cases h), .inl ⟨7, by decide, rfl, (.pointer (some ⟨yb, u, none⟩)), W, (by simp [go_sem, Act.eval, d0, d1, hun]), rfl, ⟨(by rw [updC_ne (by omega)]; exact hJ.1), hJ.2⟩⟩⟩
      ·have d7 : a.tmps.getD 52 undef = (.pointer (some ⟨yb, u, none⟩)) := fdn (hF 7 (by decide) (hr 7 (by kernel_rfl)))
       have d6 : a.tmps.getD 51 undef = (.int .i64 (dv + 1)) := fdn (hF 6 (by decide) (hr 6 (by kernel_rfl)))
       have cx := hJ.1.ry.cell u (by rw [hJ.1.yl]; exact hu)
       have fx := hJ.1.ry.frozen u
       exact .inl ⟨(fun k b h => by cases h), .inr (.inl ⟨rfl, W.setCell ⟨yb, u, none⟩ (.int .i64 (dv + 1)), (by simp [go_sem, Act.eval, d7, d6, cx, fx]), ⟨(by have h0 := hJ.1.setY (u := u) (x := dv + 1); rw [updC_eq]; simp only [hdi] at h0; simpa using h0), hJ.2.1.trans (KeepsOthers.setCell _ ⟨yb, u, none⟩ _), (fun c h1 => (Below.heap_setCell _ _ _ _ h1).trans (hJ.2.2.1 c h1)), by rw [← hJ.2.2.2]; simp⟩⟩)⟩
     case finx =>
      intro d vs Wx hall hJ hF
      have h0 : vs 0 = (.slice (some ⟨yb, 0, none⟩) n n) := hF 0 (by decide)
      have h1 : vs 1 = (.int .i64 (u : Int)) := hF 1 (by decide)
      have h2 : vs 2 = (.slice (some ⟨yb, 0, none⟩) n n) := hF 2 (by decide)
      have h3 : vs 3 = (.int .i64 (v : Int)) := hF 3 (by decide)
      have h4 : vs 4 = (.pointer (some ⟨yb, v, none⟩)) := hF 4 (by decide)
      have h5 : vs 5 = (.int .i64 dv) := hF 5 (by decide)
      have h6 : vs 6 = (.int .i64 (dv + 1)) := hF 6 (by decide)
      have h7 : vs 7 = (.pointer (some ⟨yb, u, none⟩)) := hF 7 (by decide)
      clear hF
      show (_ : Exit → Act → World → Prop) Exit.normal (puts _ vs 8 _) Wx
      simp only [puts, h0, h1, h2, h3, h4, h5, h6, h7, List.getD_cons_zero, List.getD_cons_succ]
      clear h0 h1 h2 h3 h4 h5 h6 h7
      have h8 := hall 8 (by decide)
      rw [if_pos h8] at hJ
      obtain ⟨hRS2, hKO, hOB, hSZ⟩ := hJ
      simp only [Act.put, List.setIfInBounds_toArray, List.set_cons_succ, List.set_cons_zero]
      obtain ⟨off2, capq2, hwv2, hcap2, -⟩ := hRS2.q.slice
      subst hwv2
      have HLEN : Hid (ws'.length ≤ n) := by
       have h1 := scanD_len (v := v) ((u, k) :: rest) d' ws'
       rw [← HRI1.out.sc] at h1
       have h2 := (HDQ.out.step HF.out).len.1
       show _ ≤ _
       omega
      have cwp := cell_of_row _ _ 0 _ _ _ hRS2.bw
      have m1 := new_block Wx (.cells #[.int .i64 (u : Int)] 3)
      have hq := hRS2.q.keep m1.1
      obtain ⟨m2, hm2⟩ : ∃ m, m = (nI ws').length := ⟨_, rfl⟩
      rw [← hm2] at cwp hq
      have HQ2 := Lib.hid hq
      have HRS2 := Lib.hid hRS2
      have HKO := Lib.hid hKO
      have HOB := Lib.hid hOB
      have HSX := Lib.hid hSZ
      have HM1 := Lib.hid m1
      have HN : Hid ((nI ws').length ≤ 1000) := by show (nI ws').length ≤ 1000; have := HLEN.out; simp only [List.length_map]; omega
      clear hRS2 hKO hOB hSZ m1 hq hall h8 hcap2 hm2
      gi_wp2_with (refine wpListIn_append_que rfl _ _ rfl rfl HQ2.out HN.out Wx.heap.size (u : Int) rfl HM1.out.2 ?_)
      intro gq2 wv2 W5 hq5 hg5 hs5 ho5 hb5
      have hqn2 : Que W5 gq2 wv2 (nI (ws' ++ [u])) := by rw [show nI (ws' ++ [u]) = nI ws' ++ [(u : Int)] by simp [nI]]; exact hq5
      have hzx : (Wx.alloc (.cells #[.int .i64 (u : Int)] 3)).heap.size = Wx.heap.size + 1 := by simp
      have hA := HRS2.out.below HM1.out.1
      have hR6 := hA.wait hqn2 (by rw [hzx]; exact hg5) (fun c h1 h2 => ho5 c h1 (by rw [← hzx]; exact h2)) hb5
      have hwq : wp ≠ gq' := by obtain ⟨off, cap, arr, e1, e2, e3⟩ := hA.q; exact blk_ne hA.bw e2 (by decide)
      have hwx : wp < Wx.heap.size := (Array.getElem?_eq_some_iff.1 HRS2.out.bw).1
      have kw5 := (ho5 wp hwq (by omega)).trans hA.bw
      have cw5 := cell_of_row _ _ 0 _ _ _ kw5
      have fw5 := frozen_of_row _ _ 0 _ _ kw5
      have HKN : Hid (KeepsOthers W0 (W5.setCell ⟨wp, 0, none⟩ wv2) ∧ W0.heap.size ≤ W5.heap.size ∧ ∀ c, c ≠ yb → c ≠ gq' → c ≠ wp → c < W0.heap.size → (W5.setCell ⟨wp, 0, none⟩ wv2).heap[c]? = W0.heap[c]?) := by
       have h1 : ∀ c, c ≠ gq' → c ≠ wp → c < Wx.heap.size → (W5.setCell ⟨wp, 0, none⟩ wv2).heap[c]? = Wx.heap[c]? := fun c k1 k2 k3 => ((Below.heap_setCell _ _ _ _ k2).trans (ho5 c k1 (by omega))).trans (HM1.out.1.block c k3)
       have h2 := HSX.out
       obtain ⟨off, cap, arr, e1, e2, e3⟩ := HRS2.out.q
       have hbw := HRS2.out.bw
       refine ⟨HKO.out.trans ⟨by simp; omega, fun c o hc ho => ?_⟩, by omega, fun c k1 k3 k4 k5 => (h1 c k3 k4 (by omega)).trans (HOB.out c k1)⟩
       refine (h1 c ?_ ?_ (Array.getElem?_eq_some_iff.1 hc).1).trans hc
       ·rintro rfl; rw [e2] at hc; cases hc; simp [Obj.isCells] at ho
       ·rintro rfl; rw [hbw] at hc; cases hc; simp [Obj.isCells] at ho
      have HL6 : Hid (Lis (W5.setCell ⟨wp, 0, none⟩ wv2) (W5.setCell ⟨wp, 0, none⟩ wv2).heap.size lv L) := HLS.out.below hR6.low hR6.low.size
      have HR6 := Lib.hid hR6
      have HG5 : Hid (gq2 = gq' ∨ W0.heap.size ≤ gq2) := hg5.imp id (fun h => by have := HSX.out; omega)
      obtain ⟨ao2, m3, cap2, hv2⟩ : ∃ ao m c, wv2 = .slice ao m c := by obtain ⟨o, c, e, -⟩ := hq5.slice; exact ⟨_, _, _, e⟩
      subst hv2
      clear hq5 hg5 hs5 ho5 hb5 hqn2 hzx hA hR6 hwq hwx kw5 cwp
      gi_wp2_with (fail)
      have HD2 : Hid ((d'.set u (dv + 1)).getD v 0 = d'.getD v 0) := getD_set_other _ _ _ _ _ huv
      exact ⟨HKN.out.1, _, _, _, _, rest, HRI1.out.next HL6.out HR6.out HKN.out.1 HKN.out.2.2 HG5.out HSP.out (HRI1.out.sc.trans HS2.out) HD2.out, by have h1 := HKN.out.2.1; have h2 := HSZ.out; simp; omega⟩
    ·have HS2 : Hid (scanD v ((u, k) :: rest) d' ws' = scanD v rest d' ws') := by show _ = _; rw [HSC.out, if_neg hneg]
     gi_wp2_with (fail)
     exact ⟨KeepsOthers.refl _, ⟨gq', wv', d', ws', rest, { HRI1.out with sp := HSP.out, sc := HRI1.out.sc.trans HS2.out }⟩, HSZ.out⟩
   case done =>
    rintro D xs W' hxs ⟨gq', wv', d', ws', rest, h1, h2⟩ hD hWD
    have H1 := Lib.hid h1
    have HXS := Lib.hid hxs
    have HD := Lib.hid hD
    have H2 := Lib.hid h2
    clear h1 hxs hD h2
    dsimp only
    gi_wp2_with (fail)
    obtain rfl : rest = [] := by have h0 := H1.out.sp; rw [HXS.out] at h0; simpa using h0
    have hDl := (Array.getElem?_eq_some_iff.1 HD.out).1
    have hsc : scanD v (nbF L v) d ws = (d', ws') := H1.out.sc
    have hst := HDQ.out.step HF.out
    rw [hsc] at hst
    have hrr : R = farR L f d' ws' := by
     have h0 : R = farR L f (scanD v (nbF L v) d ws).1 (scanD v (nbF L v) d ws).2 := HRR.out
     rw [hsc] at h0
     exact h0
    refine ⟨f, Nat.lt_succ_self f, _ :: dfs, _, _, _, _, _, _, _, _, _, _, _, _, _, _, _, _, _, _, _, _, _, _, _, _, _, _, _, _, _, _, _, _, _, _, _, _, _, _, _, _, _, _, _, _, _, _, _, _, _, ⟨d', ws', done ++ [v], gq', D + 1, wv', hrr, hst, by simp; omega, H1.out.rs, H1.out.mks.push HD.out (Nat.le_trans HU.out.1 hWD) (by have := HU.out.2; omega), hDl⟩, rfl⟩
   case stop =>
    rintro D c pre W' hpre h hD hWD
    exact h.elim
 ·have hRR : R = List.replicate n (-1) := by rw [hR]; unfold farI; rw [if_neg hin]
  have HR := Lib.hid hRR
  clear hR hRR hl hf
  by_cases hneg : a < 0
  ·refine (callsIn_wide (n := 5)).1 ?_
   refine callsIn_of_wp_marks Try.func38 rfl trivial ?_ rfl
   simp only [Try.ntmps38, List.size_toArray, List.length_cons, List.length_nil, Nat.reduceAdd, Nat.reduceSub, Array.replicate_succ, Array.replicate_zero, List.push_toArray, List.append_toArray, List.nil_append, List.cons_append]
   gi_wp2_with (fail)
   refine ⟨trivial, ?_⟩
   refine (callsIn_wide.2 HREP.out).mono ?_
   rintro e W1 ⟨⟨yb, rfl, hrow, hge⟩, hbel⟩
   have HB1 : Hid (Below w.heap.size w W1) := HB0.out.trans (hbel.mono HB0.out.size)
   have HROW := Lib.hid hrow
   have HGE : Hid (w.heap.size ≤ yb) := by have := HB0.out.size; show _ ≤ _; omega
   clear hrow hge hbel HREP HB0
   gi_wp2_with (fail)
   have m1 := new_block W1 (.cells #[.slice (some ⟨yb, 0, none⟩) n n] 35)
   have hR2 := HR.out
   subst hR2
   exact far_end (U := 0) (HROW.out.keep m1.1) HGE.out (HB1.out.trans (m1.1.mono HB1.out.size)) trivial rfl rfl
  ·have hbig : (n : Int) ≤ a := by omega
   refine (callsIn_wide (n := 5)).1 ?_
   refine callsIn_of_wp_marks Try.func38 rfl trivial ?_ rfl
   simp only [Try.ntmps38, List.size_toArray, List.length_cons, List.length_nil, Nat.reduceAdd, Nat.reduceSub, Array.replicate_succ, Array.replicate_zero, List.push_toArray, List.append_toArray, List.nil_append, List.cons_append]
   gi_wp2_with (fail)
   refine ⟨trivial, ?_⟩
   refine (callsIn_wide.2 HREP.out).mono ?_
   rintro e W1 ⟨⟨yb, rfl, hrow, hge⟩, hbel⟩
   have HB1 : Hid (Below w.heap.size w W1) := HB0.out.trans (hbel.mono HB0.out.size)
   have HROW := Lib.hid hrow
   have HGE : Hid (w.heap.size ≤ yb) := by have := HB0.out.size; show _ ≤ _; omega
   clear hrow hge hbel HREP HB0
   gi_wp2_with (fail)
   have m1 := new_block W1 (.cells #[.slice (some ⟨yb, 0, none⟩) n n] 35)
   have hR2 := HR.out
   subst hR2
   exact far_end (U := 0) (HROW.out.keep m1.1) HGE.out (HB1.out.trans (m1.1.mono HB1.out.size)) trivial rfl rfl

end Go.Proofs.Ytenilbofncfbdaa

