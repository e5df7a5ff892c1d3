/- Cuts: ways taken out of a flow: plain. No program here.
Cuts: (*flow).follow, walked (by program: wip/tools/gen_cw3.py). -/
import Derived.Test.YtenilbofncfbdaaCD
import Derived.Test.YtenilbofncfbdaaCE
set_option linter.unusedSimpArgs false
set_option linter.unusedVariables false
namespace Go.Proofs.Ytenilbofncfbdaa

/-- does something go over a pair from v? -/
def folP (L : Prs) (g : List Int) (v : Nat) (x : Nat × Nat) : Bool := (decide (endA L x.2 = v) && g.getD x.2 0 == 1) || (decide (endB L x.2 = v) && g.getD x.2 0 == -1)
def folF (L : Prs) (g : List Int) (v : Nat) : Nat × List Int := match (nbF L v).find? (folP L g v) with
  | some x => (x.1, g.set x.2 0)
  | none => (v, g)
/-- the way with one node more; what lies behind it, if it stands there, falls away -/
def wayN (way : List Nat) (u : Nat) : List Nat := way.take (way.idxOf u) ++ [u]
def wayR (L : Prs) (b : Nat) : Nat → List Int → Nat → List Nat → List Int × List Nat
  | 0, g, _, way => (g, way)
  | f + 1, g, v, way => if v = b then (g, way) else wayR L b f (folF L g v).2 (folF L g v).1 (wayN way (folF L g v).1)
def waysR (L : Prs) (a b : Nat) : Nat → List Int → List (List Nat) → List (List Nat)
  | 0, _, o => o
  | t + 1, g, o => waysR L a b t (wayR L b (L.length + 1) g a [a]).1 (o ++ [(wayR L b (L.length + 1) g a [a]).2])
def waysI (L : Prs) (n : Nat) (a b : Int) : List (List Nat) := waysR L a.toNat b.toNat (mostI L n a b).2 (mostI L n a b).1 []

/-- how many pairs something goes over -/
def nzL (g : List Int) : Nat := (g.filter (· != 0)).length
theorem nz_set {g : List Int} {k : Nat} (hk : k < g.length) (h : g.getD k 0 ≠ 0) : nzL (g.set k 0) + 1 = nzL g := by
  induction g generalizing k with
  | nil => simp at hk
  | cons x r ih =>
    cases k with
    | zero =>
      have hx : x ≠ 0 := h
      unfold nzL
      simp [hx]
    | succ k =>
      have := ih (k := k) (by simpa using hk) (by simpa [List.getD] using h)
      unfold nzL at this ⊢
      rw [List.set_cons_succ, List.filter_cons, List.filter_cons]
      by_cases hx : (x != 0) = true
      · rw [if_pos hx, if_pos hx, List.length_cons, List.length_cons]; omega
      · rw [if_neg hx, if_neg hx]; exact this
theorem nz_len (g : List Int) : nzL g ≤ g.length := List.length_filter_le _ _
/-- pairs by which the nodes of a way follow one another -/
def Chn (L : Prs) : List Nat → List Nat → Prop
  | [_], [] => True
  | v :: u :: r, k :: ks => Edge L k v u ∧ Chn L (u :: r) ks
  | _, _ => False
theorem Chn.add {L : Prs} : ∀ {way ks : List Nat} {v u k : Nat}, Chn L way ks → way.getLast? = some v → Edge L k v u → Chn L (way ++ [u]) (ks ++ [k]) := by
  intro way
  induction way with
  | nil => intro ks v u k h; cases ks <;> exact h.elim
  | cons x r ih =>
    intro ks v u k h hl he
    cases r with
    | nil =>
      cases ks with
      | nil =>
        obtain rfl : x = v := by simpa using hl
        exact ⟨he, trivial⟩
      | cons k' ks => exact h.elim
    | cons y r =>
      cases ks with
      | nil => exact h.elim
      | cons k' ks => exact ⟨h.1, ih h.2 (by simpa using hl) he⟩
theorem Chn.take {L : Prs} : ∀ {way ks : List Nat} (m : Nat), Chn L way ks → Chn L (way.take (m + 1)) (ks.take m) := by
  intro way
  induction way with
  | nil => intro ks m h; cases ks <;> exact h.elim
  | cons x r ih =>
    intro ks m h
    cases r with
    | nil =>
      cases ks with
      | nil => simp [Chn]
      | cons k' ks => exact h.elim
    | cons y r =>
      cases ks with
      | nil => exact h.elim
      | cons k' ks =>
        cases m with
        | zero => simp [Chn]
        | succ m =>
          have := ih m h.2
          exact ⟨h.1, by simpa using this⟩
theorem Chn.len {L : Prs} : ∀ {way ks : List Nat}, Chn L way ks → way.length = ks.length + 1 := by
  intro way
  induction way with
  | nil => intro ks h; cases ks <;> exact h.elim
  | cons x r ih =>
    intro ks h
    cases r with
    | nil => cases ks with
      | nil => rfl
      | cons => exact h.elim
    | cons y r => cases ks with
      | nil => exact h.elim
      | cons k' ks => have := ih h.2; simp at this ⊢; omega
theorem Chn.edge {L : Prs} : ∀ {way ks : List Nat} (i : Nat), Chn L way ks → i < ks.length → Edge L (ks.getD i 0) (way.getD i 0) (way.getD (i + 1) 0) := by
  intro way
  induction way with
  | nil => intro ks i h; cases ks <;> exact h.elim
  | cons x r ih =>
    intro ks i h hi
    cases r with
    | nil => cases ks with
      | nil => cases hi
      | cons => exact h.elim
    | cons y r => cases ks with
      | nil => exact h.elim
      | cons k' ks =>
        cases i with
        | zero => exact h.1
        | succ i =>
          have := ih i h.2 (by simpa using hi)
          simpa [List.getD] using this
/-- a flow of T ways, of which one stands at v -/
structure WI (L : Prs) (n a b T : Nat) (g0 : List Int) (g : List Int) (v : Nat) (way : List Nat) : Prop where
  len : g.length = L.length
  cap : ∀ j, j < L.length → -1 ≤ gF g j ∧ gF g j ≤ 1
  net : ∀ S : Nat → Bool, netF (endA L) (endB L) (gF g) S L.length = (T : Int) * (ind (S a) - ind (S b)) - (ind (S a) - ind (S v))
  nod : way.Nodup
  lt : ∀ x ∈ way, x < n
  hd : way.head? = some a
  last : way.getLast? = some v
  less : ∀ j, gF g j ≠ 0 → gF g j = gF g0 j
  ks : ∃ ks, Chn L way ks ∧ ks.Nodup ∧ ∀ k ∈ ks, k < L.length ∧ gF g k = 0 ∧ gF g0 k ≠ 0
theorem net_one {L : Prs} {n v : Nat} {g : List Int} (hf : FitL n L) (hc : ∀ j, j < L.length → -1 ≤ gF g j ∧ gF g j ≤ 1) : ∀ m, m ≤ L.length → 0 < netF (endA L) (endB L) (gF g) (oneS v) m → ∃ k, k < m ∧ ((endA L k = v ∧ gF g k = 1) ∨ (endB L k = v ∧ gF g k = -1)) := by
  intro m
  induction m with
  | zero => intro _ h; simp [netF] at h
  | succ m ih =>
    intro hm h
    rw [net_succ] at h
    by_cases h0 : 0 < netF (endA L) (endB L) (gF g) (oneS v) m
    · obtain ⟨k, h1, h2⟩ := ih (by omega) h0
      exact ⟨k, by omega, h2⟩
    · have hlt := hf.lt m (by omega)
      have hcm := hc m (by omega)
      refine ⟨m, by omega, ?_⟩
      obtain ⟨z, hz⟩ : ∃ z, z = gF g m := ⟨_, rfl⟩
      rw [← hz] at h hcm ⊢
      by_cases ea : endA L m = v
      · have eb : endB L m ≠ v := by omega
        have e1 : oneS v (endA L m) = true := by simp [oneS, ea]
        have e2 : oneS v (endB L m) = false := by simp [oneS, eb]
        rw [e1, e2] at h
        simp only [ind, if_true] at h
        exact .inl ⟨ea, by simp at h; omega⟩
      · have e1 : oneS v (endA L m) = false := by simp [oneS, ea]
        by_cases eb : endB L m = v
        · have e2 : oneS v (endB L m) = true := by simp [oneS, eb]
          rw [e1, e2] at h
          simp only [ind, if_true] at h
          exact .inr ⟨eb, by simp at h; omega⟩
        · have e2 : oneS v (endB L m) = false := by simp [oneS, eb]
          rw [e1, e2] at h
          simp at h
          omega
theorem WI.next {L : Prs} {n a b T : Nat} {g0 g : List Int} {v : Nat} {way : List Nat} (hf : FitL n L) (hab : a ≠ b) (hT : 0 < T) (h : WI L n a b T g0 g v way) (hvb : v ≠ b) :
    ∃ x, (nbF L v).find? (folP L g v) = some x ∧ Edge L x.2 x.1 v ∧ folP L g v x = true := by
  have hex : ∃ x, x ∈ nbF L v ∧ folP L g v x = true := by
    have hn := h.net (oneS v)
    have h1 : ind (oneS v v) = 1 := by simp [oneS, ind]
    have h2 : ind (oneS v b) = 0 := by simp [oneS, ind, Ne.symm hvb]
    rw [h1, h2] at hn
    have hpos : 0 < netF (endA L) (endB L) (gF g) (oneS v) L.length := by
      rw [hn]
      by_cases hva : a = v
      · have : ind (oneS v a) = 1 := by simp [oneS, ind, hva]
        rw [this]; simp; omega
      · have : ind (oneS v a) = 0 := by simp [oneS, ind, hva]
        rw [this]; simp
    obtain ⟨k, hk, hc⟩ := net_one hf h.cap L.length (Nat.le_refl _) hpos
    rcases hc with ⟨e1, e2⟩ | ⟨e1, e2⟩
    · refine ⟨(endB L k, k), mem_nb.2 ⟨hk, .inr ⟨e1, rfl⟩⟩, ?_⟩
      have e2' : g.getD k 0 = 1 := e2
      unfold folP
      simp only [e1, e2']
      simp
    · refine ⟨(endA L k, k), mem_nb.2 ⟨hk, .inl ⟨rfl, e1⟩⟩, ?_⟩
      have e2' : g.getD k 0 = -1 := e2
      unfold folP
      simp only [e1, e2']
      simp
  cases hfd : (nbF L v).find? (folP L g v) with
  | none =>
    obtain ⟨x, h1, h2⟩ := hex
    have := List.find?_eq_none.1 hfd x h1
    exact absurd h2 this
  | some x => exact ⟨x, rfl, mem_nb.1 (List.mem_of_find?_eq_some hfd), List.find?_some hfd⟩
theorem idx_mem {way : List Nat} {u : Nat} (h : u ∈ way) : ∃ p q, way = p ++ u :: q ∧ way.idxOf u = p.length ∧ u ∉ p := by
  induction way with
  | nil => cases h
  | cons x r ih =>
    by_cases e : x = u
    · subst e
      exact ⟨[], r, rfl, by simp, by simp⟩
    · have hu : u ∈ r := by
        rcases List.mem_cons.1 h with h | h
        · exact absurd h.symm e
        · exact h
      obtain ⟨p, q, h1, h2, h3⟩ := ih hu
      refine ⟨x :: p, q, by rw [h1]; rfl, ?_, ?_⟩
      · rw [List.idxOf_cons]
        have : (x == u) = false := by rw [beq_eq_false_iff_ne]; exact e
        rw [this]
        simp [h2]
      · simp [h3, Ne.symm e]
theorem idx_not {way : List Nat} {u : Nat} (h : u ∉ way) : way.idxOf u = way.length := by
  induction way with
  | nil => rfl
  | cons x r ih =>
    rw [List.idxOf_cons]
    have hx : (x == u) = false := by rw [beq_eq_false_iff_ne]; rintro rfl; exact h List.mem_cons_self
    rw [hx]
    simp [ih fun e => h (List.mem_cons_of_mem _ e)]
theorem WI.step {L : Prs} {n a b T : Nat} {g0 g : List Int} {v : Nat} {way : List Nat} (hf : FitL n L) (h : WI L n a b T g0 g v way) {u k : Nat} (he : Edge L k u v) (hp : folP L g v (u, k) = true) :
    WI L n a b T g0 (g.set k 0) u (wayN way u) ∧ nzL (g.set k 0) + 1 = nzL g := by
  obtain ⟨h1, h2, h3, h4, h5, h6, h7, h8, ks, k1, k2, k3⟩ := h
  have hk := he.1
  have hlt := hf.lt k hk
  have hun := (edge_lt hf he).1
  have hg : gF g k ≠ 0 := by
    unfold folP at hp
    simp only [Bool.or_eq_true, Bool.and_eq_true, decide_eq_true_eq, beq_iff_eq] at hp
    rcases hp with ⟨-, e⟩ | ⟨-, e⟩
    · intro e2; rw [show g.getD k 0 = gF g k from rfl, e2] at e; cases e
    · intro e2; rw [show g.getD k 0 = gF g k from rfl, e2] at e; cases e
  have hgs : ∀ j, gF (g.set k 0) j = if j = k then 0 else gF g j := by
    intro j
    by_cases e : j = k
    · subst e; rw [if_pos rfl]; exact getD_set_same _ _ _ _ (by omega)
    · rw [if_neg e]; exact getD_set_other _ _ _ _ _ (Ne.symm e)
  have hkk : k ∉ ks := fun e => hg (k3 k e).2.1
  refine ⟨⟨by simpa using h1, fun j hj => ?_, fun S => ?_, ?_, fun x hx => ?_, ?_, by simp [wayN], fun j hj => ?_, ?_⟩, nz_set (by omega) hg⟩
  · rw [hgs]; split
    · decide
    · exact h2 j hj
  · rw [net_upd (endA L) (endB L) (gF g) (gF (g.set k 0)) S k (fun j hj => by rw [hgs, if_neg hj]), h3 S, if_pos hk, hgs, if_pos rfl]
    unfold folP at hp
    simp only [Bool.or_eq_true, Bool.and_eq_true, decide_eq_true_eq, beq_iff_eq] at hp
    rcases hp with ⟨e1, e2⟩ | ⟨e1, e2⟩
    · have e3 : endB L k = u := by
        rcases he.2 with ⟨x1, x2⟩ | ⟨x1, x2⟩
        · omega
        · exact x2
      rw [e1, e3, show gF g k = 1 from e2]
      omega
    · have e3 : endA L k = u := by
        rcases he.2 with ⟨x1, x2⟩ | ⟨x1, x2⟩
        · exact x1
        · omega
      rw [e1, e3, show gF g k = -1 from e2]
      omega
  · unfold wayN
    rw [List.nodup_append]
    refine ⟨h4.sublist (List.take_sublist _ _), by simp, fun x hx y hy => ?_⟩
    rw [List.mem_singleton] at hy
    subst hy
    rintro rfl
    by_cases hm : x ∈ way
    · obtain ⟨p, q, e1, e2, e3⟩ := idx_mem hm
      rw [e2, e1, List.take_left] at hx
      exact e3 hx
    · exact hm (List.mem_of_mem_take hx)
  · unfold wayN at hx
    rcases List.mem_append.1 hx with hx | hx
    · exact h5 x (List.mem_of_mem_take hx)
    · rw [List.mem_singleton] at hx; subst hx; exact hun
  · unfold wayN
    by_cases hm : u ∈ way
    · obtain ⟨p, q, e1, e2, e3⟩ := idx_mem hm
      rw [e2]
      cases p with
      | nil => rw [e1] at h6; simpa using h6
      | cons x p => rw [e1] at h6 ⊢; simpa using h6
    · rw [idx_not hm, List.take_length]
      cases way with
      | nil => simp at h6
      | cons x r => simpa using h6
  · rw [hgs] at hj ⊢
    split at hj
    · exact absurd rfl hj
    · rename_i e; rw [if_neg e]; exact h8 j hj
  · unfold wayN
    have hz : ∀ k' ∈ ks, k' < L.length ∧ gF (g.set k 0) k' = 0 ∧ gF g0 k' ≠ 0 := fun k' hk' => by
      obtain ⟨x1, x2, x3⟩ := k3 k' hk'
      refine ⟨x1, ?_, x3⟩
      rw [hgs]
      split
      · rfl
      · exact x2
    by_cases hm : u ∈ way
    · obtain ⟨p, q, e1, e2, e3⟩ := idx_mem hm
      have e4 : way.take (way.idxOf u) ++ [u] = way.take (p.length + 1) := by
        rw [e2, e1, List.take_left, List.take_add_one, List.take_left]
        simp
      rw [e4]
      exact ⟨ks.take p.length, k1.take _, k2.sublist (List.take_sublist _ _), fun k' hk' => hz k' (List.mem_of_mem_take hk')⟩
    · rw [idx_not hm, List.take_length]
      refine ⟨ks ++ [k], k1.add h7 he.symm, ?_, fun k' hk' => ?_⟩
      · rw [List.nodup_append]
        exact ⟨k2, by simp, fun x hx y hy => by rw [List.mem_singleton] at hy; subst hy; rintro rfl; exact hkk hx⟩
      · rcases List.mem_append.1 hk' with hk' | hk'
        · exact hz k' hk'
        · rw [List.mem_singleton] at hk'
          subst hk'
          refine ⟨hk, by rw [hgs, if_pos rfl], ?_⟩
          rw [← h8 _ hg]
          exact hg
/-- a whole way -/
structure WayOk (L : Prs) (n a b : Nat) (g0 g : List Int) (way : List Nat) : Prop where
  nod : way.Nodup
  lt : ∀ x ∈ way, x < n
  hd : way.head? = some a
  last : way.getLast? = some b
  less : ∀ j, gF g j ≠ 0 → gF g j = gF g0 j
  ks : ∃ ks, Chn L way ks ∧ ks.Nodup ∧ ∀ k ∈ ks, k < L.length ∧ gF g k = 0 ∧ gF g0 k ≠ 0
theorem wayR_ok {L : Prs} {n a b T : Nat} {g0 : List Int} (hf : FitL n L) (hab : a ≠ b) (hT : 0 < T) : ∀ (f : Nat) (g : List Int) (v : Nat) (way : List Nat), WI L n a b T g0 g v way → nzL g < f →
    WayOk L n a b g0 (wayR L b f g v way).1 (wayR L b f g v way).2 ∧ (wayR L b f g v way).1.length = L.length ∧ FlowI (endA L) (endB L) L.length a b ((T - 1 : Nat) : Int) (gF (wayR L b f g v way).1) := by
  intro f
  induction f with
  | zero => intro g v way _ h; omega
  | succ f ih =>
    intro g v way h hf0
    unfold wayR
    by_cases hvb : v = b
    · rw [if_pos hvb]
      subst hvb
      refine ⟨⟨h.nod, h.lt, h.hd, h.last, h.less, h.ks⟩, h.len, h.cap, fun S => ?_⟩
      rw [h.net S, show ((T - 1 : Nat) : Int) = (T : Int) - 1 by omega, Int.sub_mul, Int.one_mul]
    · rw [if_neg hvb]
      obtain ⟨⟨u, k⟩, h1, h2, h3⟩ := h.next hf hab hT hvb
      have e : folF L g v = (u, g.set k 0) := by unfold folF; rw [h1]
      rw [e]
      obtain ⟨h4, h5⟩ := h.step hf h2 h3
      exact ih _ _ _ h4 (by have h6 : nzL (g.set k 0) + 1 = nzL g := h5; show nzL (g.set k 0) < f; omega)
theorem WI.start {L : Prs} {n a b T : Nat} {g : List Int} (ha : a < n) (hl : g.length = L.length) (h : FlowI (endA L) (endB L) L.length a b (T : Int) (gF g)) : WI L n a b T g g a [a] :=
  ⟨hl, h.cap, fun S => by rw [h.net S, Int.sub_self, Int.sub_zero], by simp, by simpa using ha, rfl, rfl, fun _ _ => rfl, [], trivial, by simp, fun k hk => by cases hk⟩

end Go.Proofs.Ytenilbofncfbdaa

namespace Go.Proofs.Ytenilbofncfbdaa
open Go.RowKit

attribute [local go_sem] Oper.semAt_some

theorem results_cellI {fn : Func} {p : Tmp} (h : fn.results = #[.cell p 3]) (tmps : Array Value) (w : World) (b : Nat) (u : Int) (hp : tmps.getD p undef = .pointer (some ⟨b, 0, none⟩)) (hg : w.heap[b]? = some (.cells #[.int .i64 u] 3 (0, 0))) :
  (results fn tmps).run Try.prog w = .ok (.int .i64 u) w := by
 have hp' : tmps[p]?.getD undef = .pointer (some ⟨b, 0, none⟩) := by simpa using hp
 have hc := cell_of_row w b 0 _ _ _ hg
 have hc' : w.cell? ⟨b, 0, none⟩ = some (.int .i64 u) := hc
 simp [results, h, hp', asAddr, go_sem, Result.andThen, hc']
/-- within the rounds -/
structure LR (w : World) (B fb gb : Nat) (lv : Value) (n : Nat) (L : Prs) (g : List Int) (v p2 p3 p4 qn : Nat) (pre : List (Nat × Nat)) (W : World) : Prop where
 no : ∀ x ∈ pre, folP L g v x = false
 fw : FlowW W B fb gb lv n L g
 inv : InvN qn lv L v W
 b2 : W.heap[p2]? = some (.cells #[.pointer (some ⟨fb, 0, none⟩)] 48 (0, 0))
 b3 : W.heap[p3]? = some (.cells #[.int .i64 (v : Int)] 3 (0, 0))
 b4 : W.heap[p4]? = some (.cells #[.int .i64 0] 3 (0, 0))
 low : Below w.heap.size w W
 ge : w.heap.size ≤ p3 ∧ w.heap.size ≤ p4 ∧ w.heap.size ≤ qn
section
variable {w : World} {B fb gb : Nat} {lv : Value} {n : Nat} {L : Prs} {g : List Int} {v p2 p3 p4 qn : Nat} {pre : List (Nat × Nat)} {W : World}
theorem LR.below {W' : World} (h : LR w B fb gb lv n L g v p2 p3 p4 qn pre W) (hb : Below W.heap.size W W') : LR w B fb gb lv n L g v p2 p3 p4 qn pre W' :=
 ⟨h.no, h.fw.below hb, h.inv.below hb, stays h.b2 hb, stays h.b3 hb, stays h.b4 hb, h.low.trans (hb.mono h.low.size), h.ge⟩
theorem FlowW.put {l : Nat} {o o' : Obj} (h : FlowW W B fb gb lv n L g) (hB : B ≤ l) (ho : W.heap[l]? = some o) (hc : o.isCells = false) : FlowW (W.putObj l o') B fb gb lv n L g :=
 ⟨row_put o' h.f ho hc, h.row.of ((row_put o' h.row ho hc).trans h.row.symm), h.gl, h.l.below ((Below.refl _ W).grown (grownBy_putObj' W l o') (by have := h.bf; have := h.lt.1; omega) (fun k e => by cases e; omega)) (Nat.le_refl _), h.bf, h.bg⟩
theorem LR.put {l : Nat} {o o' : Obj} (h : LR w B fb gb lv n L g v p2 p3 p4 qn pre W) (hB : B ≤ w.heap.size) (hl : w.heap.size ≤ l) (ho : W.heap[l]? = some o) (hc : o.isCells = false) : LR w B fb gb lv n L g v p2 p3 p4 qn pre (W.putObj l o') :=
 ⟨h.no, h.fw.put (by omega) ho hc, ⟨row_put o' h.inv.1 ho hc, row_put o' h.inv.2.1 ho hc, Lis.put h.inv.2.2 ho hc⟩, row_put o' h.b2 ho hc, row_put o' h.b3 ho hc, row_put o' h.b4 ho hc, h.low.trans ((Below.refl _ W).grown (grownBy_putObj' W l o') (by have := h.low.size; omega) (fun k e => by cases e; omega)), h.ge⟩
theorem LR.skip {x : Nat × Nat} (h : LR w B fb gb lv n L g v p2 p3 p4 qn pre W) (hx : folP L g v x = false) : LR w B fb gb lv n L g v p2 p3 p4 qn (pre ++ [x]) W :=
 { h with no := fun y hy => by rcases List.mem_append.1 hy with hy | hy; exact h.no y hy; rw [List.mem_singleton] at hy; subst hy; exact hx }
end
/-- what is left when a pair is found -/
structure LX (w : World) (B fb gb : Nat) (lv : Value) (n : Nat) (L : Prs) (g : List Int) (p4 : Nat) (u : Nat) (W : World) : Prop where
 fw : FlowW W B fb gb lv n L g
 b4 : W.heap[p4]? = some (.cells #[.int .i64 (u : Int)] 3 (0, 0))
 low : Below B w W
 other : ∀ c, c ≠ gb → c < w.heap.size → W.heap[c]? = w.heap[c]?
theorem LX.put {w W : World} {B fb gb : Nat} {lv : Value} {n : Nat} {L : Prs} {g : List Int} {p4 u l : Nat} {o o' : Obj} (h : LX w B fb gb lv n L g p4 u W) (hB : B ≤ w.heap.size) (hl : w.heap.size ≤ l) (ho : W.heap[l]? = some o) (hc : o.isCells = false) : LX w B fb gb lv n L g p4 u (W.putObj l o') :=
 ⟨h.fw.put (by omega) ho hc, row_put o' h.b4 ho hc, h.low.trans ((Below.refl _ W).grown (grownBy_putObj' W l o') (by have := h.low.size; have := (Array.getElem?_eq_some_iff.1 ho).1; omega) (fun k e => by cases e; omega)), fun c h1 h2 => (World.putObj_heap_other (by omega)).trans (h.other c h1 h2)⟩
theorem FlowW.aside {W : World} {B fb gb : Nat} {lv : Value} {n : Nat} {L : Prs} {g : List Int} {c i : Nat} {x : Value} (h : FlowW W B fb gb lv n L g) (h1 : c ≠ fb) (h2 : c ≠ gb) (hB : B ≤ c) : FlowW (W.setCell ⟨c, i, none⟩ x) B fb gb lv n L g :=
 ⟨(Below.heap_setCell _ _ _ _ (Ne.symm h1)).trans h.f, h.row.of (Below.heap_setCell _ _ _ _ (Ne.symm h2)), h.gl, h.l.below (bel_set hB (Below.refl _ _)) (Nat.le_refl _), h.bf, h.bg⟩
theorem LR.fin0 {w : World} {B fb gb : Nat} {lv : Value} {n : Nat} {L : Prs} {g : List Int} {v p2 p3 p4 qn u : Nat} {pre : List (Nat × Nat)} {W : World} (h : LR w B fb gb lv n L g v p2 p3 p4 qn pre W) (hB : B ≤ w.heap.size) (hfl : fb < w.heap.size ∧ gb < w.heap.size) : LX w B fb gb lv n L g p4 u (W.setCell ⟨p4, 0, none⟩ (.int .i64 (u : Int))) := by
 have hp := h.ge.2.1
 refine ⟨h.fw.aside (by omega) (by omega) (by omega), ?_, bel_set (by omega) (h.low.mono hB), fun c h1 h2 => (Below.heap_setCell _ _ _ _ (by show c ≠ p4; omega)).trans (h.low.block c h2)⟩
 have := h.b4
 simp [World.setCell, Array.getElem?_modify, this]
theorem LR.fin {w : World} {B fb gb : Nat} {lv : Value} {n : Nat} {L : Prs} {g : List Int} {v p2 p3 p4 qn u k : Nat} {pre : List (Nat × Nat)} {W : World} (h : LR w B fb gb lv n L g v p2 p3 p4 qn pre W) (hB : B ≤ w.heap.size) (hfl : fb < w.heap.size ∧ gb < w.heap.size) : LX w B fb gb lv n L (g.set k 0) p4 u ((W.setCell ⟨gb, k, none⟩ (.int .i64 0)).setCell ⟨p4, 0, none⟩ (.int .i64 (u : Int))) := by
 have hp := h.ge.2.1
 refine ⟨(h.fw.set k 0).aside (by omega) (by omega) (by omega), ?_, bel_set (by omega) (bel_set h.fw.bg (h.low.mono hB)), fun c h1 h2 => (Below.heap_setCell _ _ _ _ (by show c ≠ p4; omega)).trans ((Below.heap_setCell _ _ _ _ h1).trans (h.low.block c h2))⟩
 have h0 := h.b4
 have : (W.setCell ⟨gb, k, none⟩ (.int .i64 0)).heap[p4]? = some (.cells #[.int .i64 0] 3 (0, 0)) := (Below.heap_setCell _ _ _ _ (by show p4 ≠ gb; omega)).trans h0
 rw [World.setCell]
 simp [Array.getElem?_modify, this]
theorem fol_end {fn : Func} {w W : World} {B fb gb : Nat} {lv : Value} {n : Nat} {L : Prs} {g : List Int} {p4 u D : Nat} {a : Act} (h : LX w B fb gb lv n L g p4 u W) (hm : Marks w.heap.size (D + 1) a.defers W) (hB : B ≤ w.heap.size) (hp : w.heap.size ≤ p4) (hfb : fb < w.heap.size) (hgb : gb < w.heap.size) (hfn : fn.results = #[.cell 4 3]) (h4 : a.tmps.getD 4 undef = .pointer (some ⟨p4, 0, none⟩)) :
  bodyPostM Fence.wide 5 Try.prog fn (fun e w' => e = .returned (.int .i64 (u : Int)) ∧ FlowW w' B fb gb lv n L g ∧ Below B w w' ∧ (∀ c, c ≠ gb → c < w.heap.size → w'.heap[c]? = w.heap[c]?)) .ret a W ∧
  bodyPostM Fence.wide 5 Try.prog fn (fun e w' => e = .returned (.int .i64 (u : Int)) ∧ FlowW w' B fb gb lv n L g ∧ Below B w w' ∧ (∀ c, c ≠ gb → c < w.heap.size → w'.heap[c]? = w.heap[c]?)) .normal a W := by
 refine marks_retN hm fun w' hw' => ⟨.int .i64 (u : Int), results_cellI hfn _ _ _ _ h4 (hw'.cells _ _ h.b4 rfl), rfl, ?_, h.low.trans (hw'.low.mono hB), fun c h1 h2 => (hw'.low.block c h2).trans (h.other c h1 h2)⟩
 have hf := h.fw
 exact ⟨hw'.cells _ _ hf.f rfl, hf.row.of ((hw'.cells _ _ hf.row rfl).trans hf.row.symm), hf.gl, hf.l.below (hw'.low.mono hB) (Nat.le_refl _), hf.bf, hf.bg⟩

set_option maxRecDepth 100000 in
set_option maxHeartbeats 8000000 in
theorem follow_any (w : World) (B fb gb : Nat) (lv : Value) (n : Nat) (L : Prs) (g : List Int) (v : Nat) (h : FlowW w B fb gb lv n L g) (hf : FitL n L) (hBw : B ≤ w.heap.size) :
  Calls Try.prog 35 #[.pointer (some ⟨fb, 0, none⟩), .int .i64 (v : Int)] w fun e w' => e = .returned (.int .i64 ((folF L g v).1 : Int)) ∧ FlowW w' B fb gb lv n L (folF L g v).2 ∧ Below B w w' ∧ (∀ c, c ≠ gb → c < w.heap.size → w'.heap[c]? = w.heap[c]?) := by
 obtain ⟨R, hR⟩ : ∃ R, R = folF L g v := ⟨_, rfl⟩
 rw [← hR]
 have HR := Lib.hid hR
 have HF := Lib.hid hf
 obtain ⟨ao, cap, hlv, hcap, hcl⟩ := h.l.slice
 obtain ⟨m, hm⟩ : ∃ m, m = L.length := ⟨_, rfl⟩
 have HM := Lib.hid hm
 rw [← hm] at hlv hcap hcl
 subst hlv
 have hfl := h.lt
 have HFL := Lib.hid hfl
 have cf1 : w.cell? ⟨fb, 1, none⟩ = some (.slice ao m cap) := cell_of_row _ _ 1 _ _ _ h.f
 have HFW := Lib.hid h
 have HBW := Lib.hid hBw
 clear hR hf h hm hBw
 refine (callsIn_wide (n := 5)).1 ?_
 refine callsIn_of_wp_marks Try.func35 rfl trivial ?_ rfl
 simp only [Try.ntmps35, List.size_toArray, List.length_cons, List.length_nil, Nat.reduceAdd, Nat.reduceSub, Array.replicate_succ, Array.replicate_zero, List.push_toArray, List.append_toArray, List.nil_append, List.cons_append]
 gi_wp2_with (fail)
 have m1 := new_block w (.cells #[.pointer (some ⟨fb, 0, none⟩)] 48)
 have m2 := new_block (w.alloc (.cells #[.pointer (some ⟨fb, 0, none⟩)] 48)) (.cells #[.int .i64 (v : Int)] 3)
 have m3 := new_block ((w.alloc (.cells #[.pointer (some ⟨fb, 0, none⟩)] 48)).alloc (.cells #[.int .i64 (v : Int)] 3)) (.cells #[.int .i64 0] 3)
 simp only [World.size_alloc] at m1 m2 m3
 obtain ⟨W1, hW1⟩ : ∃ W, W = ((w.alloc (.cells #[.pointer (some ⟨fb, 0, none⟩)] 48)).alloc (.cells #[.int .i64 (v : Int)] 3)).alloc (.cells #[.int .i64 0] 3) := ⟨_, rfl⟩
 have z1 : W1.heap.size = w.heap.size + 3 := by rw [hW1]; simp
 rw [← hW1] at m3 ⊢
 have b1 : Below w.heap.size w W1 := (m1.1.trans (m2.1.mono (by omega))).trans (m3.1.mono (by omega))
 have k2 : W1.heap[w.heap.size]? = some (.cells #[.pointer (some ⟨fb, 0, none⟩)] 48 (0, 0)) := (m3.1.block _ (by omega)).trans ((m2.1.block _ (by omega)).trans m1.2)
 have k3 : W1.heap[w.heap.size + 1]? = some (.cells #[.int .i64 (v : Int)] 3 (0, 0)) := (m3.1.block _ (by omega)).trans m2.2
 have k4 : W1.heap[w.heap.size + 1 + 1]? = some (.cells #[.int .i64 0] 3 (0, 0)) := m3.2
 obtain ⟨p2, hp2⟩ : ∃ q, q = w.heap.size := ⟨_, rfl⟩
 obtain ⟨p3, hp3⟩ : ∃ q, q = p2 + 1 := ⟨_, rfl⟩
 obtain ⟨p4, hp4⟩ : ∃ q, q = p3 + 1 := ⟨_, rfl⟩
 rw [← hp2] at k2 k3 k4 ⊢
 rw [← hp3] at k3 k4 ⊢
 rw [← hp4] at k4 ⊢
 have HPS : Hid (w.heap.size ≤ p3 ∧ w.heap.size ≤ p4) := ⟨by omega, by omega⟩
 have HB1 := Lib.hid b1
 have HFW1 := Lib.hid (HFW.out.below b1)
 have HK2 := Lib.hid k2
 have HK3 := Lib.hid k3
 have HK4 := Lib.hid k4
 have HZ1 : Hid (w.heap.size ≤ W1.heap.size) := b1.size
 clear m1 m2 m3 b1 k2 k3 k4 hW1 hp2 hp3 hp4 z1 cf1 HFW
 have HCL : Hid (W1.drew.cell? ⟨fb, 1, none⟩ = some (.slice ao m cap)) := cell_of_row _ _ 1 _ _ _ HFW1.out.f
 have HC2 : Hid (W1.drew.cell? ⟨p2, 0, none⟩ = some (.pointer (some ⟨fb, 0, none⟩))) := cell_of_row _ _ 0 _ _ _ HK2.out
 have HC3 : Hid (W1.drew.cell? ⟨p3, 0, none⟩ = some (.int .i64 (v : Int))) := cell_of_row _ _ 0 _ _ _ HK3.out
 have HLI : Hid (Lis W1.drew W1.drew.heap.size (.slice ao m cap) L) := HFW1.out.l.below (Below.refl _ _).drew (by have h1 := HFW1.out.bf; have h2 := HFW1.out.lt.1; show B ≤ W1.heap.size; omega)
 refine wpIn_flowM (F0 := Fence.wide) (n0 := 5) (fun _ => trivial) (fun h => by cases h) (by kernel_rfl) (by kernel_rfl) 6 6 (by kernel_rfl) (fun j => ([0, 1, 2, 3, 4, 5] : List Nat).getD j 0) (fun j => ([7, 8, 9, 10, 11, 12] : List Nat).getD j 0) (by kernel_rfl) (by kernel_rfl) (by kernel_rfl) (by kernel_rfl) (by kernel_rfl) (by kernel_rfl) (by kernel_rfl) (fun j zv => ([(fun zv => zv = (.pointer (some ⟨fb, 0, none⟩))), (fun zv => zv = (.pointer (some ⟨fb, 0, none⟩))), (fun zv => zv = (.pointer (some ⟨fb, 1, none⟩))), (fun zv => zv = (.slice ao m cap)), (fun zv => zv = (.int .i64 (v : Int))), (fun zv => ∃ q, zv = nbV q)] : List (Value → Prop)).getD j (fun _ => True) zv) (fun d vs W => Clo dp7 d ∧ (d 5 = false → W = W1.drew) ∧ (d 5 = true → ∃ q, vs 5 = nbV q ∧ W1.heap.size ≤ q ∧ InvN q (.slice ao m cap) L v W ∧ Below W1.heap.size W1 W)) ?h0y ?stepy ?finy
 case h0y => exact fun _ => ⟨(fun u k h => by cases h), (fun _ => rfl), (fun h => by cases h)⟩
 case stepy =>
  intro i o a W d vs hi ho hdi hJ hf hr hF
  replace hi : i < 6 := hi
  rcases (show i = 0 ∨ i = 1 ∨ i = 2 ∨ i = 3 ∨ i = 4 ∨ i = 5 by omega) with rfl | rfl | rfl | rfl | rfl | rfl
  all_goals
   replace ho := op_at ho (by rfl)
   subst ho
  ·have f2 : a.tmps.getD 2 undef = (.pointer (some ⟨p2, 0, none⟩)) := hf 2 (by kernel_rfl)
   have h5 : d 5 = false := by cases h : d 5 with | false => rfl | true => have h1 := hJ.1 1 0 (hJ.1 2 1 (hJ.1 3 2 (hJ.1 5 3 h rfl) rfl) rfl) rfl; rw [hdi] at h1; cases h1
   have hW := hJ.2.1 h5
   subst hW
   have c2 := HC2.out
   exact .inl ⟨(fun k b h => by cases h), .inl ⟨0, by decide, rfl, (.pointer (some ⟨fb, 0, none⟩)), W1.drew, (by simp [go_sem, Act.eval, f2, c2]), rfl, ⟨hJ.1.upd (fun k hk => by simp [dp7] at hk), (fun _ => rfl), (fun h => by rw [updC_ne (by omega), h5] at h; cases h)⟩⟩⟩
  ·have d0 : a.tmps.getD 7 undef = (.pointer (some ⟨fb, 0, none⟩)) := fdn (hF 0 (by decide) (hr 0 (by kernel_rfl)))
   have h5 : d 5 = false := by cases h : d 5 with | false => rfl | true => have h1 := hJ.1 2 1 (hJ.1 3 2 (hJ.1 5 3 h rfl) rfl) rfl; rw [hdi] at h1; cases h1
   have hW := hJ.2.1 h5
   subst hW
   exact .inl ⟨(fun k b h => by cases h), .inl ⟨1, by decide, rfl, (.pointer (some ⟨fb, 0, none⟩)), W1.drew, (by simp [go_sem, Act.eval, d0]), rfl, ⟨hJ.1.upd (fun k hk => by rcases (show k = 0 by simpa [dp7] using hk) with rfl; exact hr _ (by kernel_rfl)), (fun _ => rfl), (fun h => by rw [updC_ne (by omega), h5] at h; cases h)⟩⟩⟩
  ·have d1 : a.tmps.getD 8 undef = (.pointer (some ⟨fb, 0, none⟩)) := fdn (hF 1 (by decide) (hr 1 (by kernel_rfl)))
   have h5 : d 5 = false := by cases h : d 5 with | false => rfl | true => have h1 := hJ.1 3 2 (hJ.1 5 3 h rfl) rfl; rw [hdi] at h1; cases h1
   have hW := hJ.2.1 h5
   subst hW
   exact .inl ⟨(fun k b h => by cases h), .inl ⟨2, by decide, rfl, (.pointer (some ⟨fb, 1, none⟩)), W1.drew, (by simp [go_sem, Act.eval, d1]), rfl, ⟨hJ.1.upd (fun k hk => by rcases (show k = 1 by simpa [dp7] using hk) with rfl; exact hr _ (by kernel_rfl)), (fun _ => rfl), (fun h => by rw [updC_ne (by omega), h5] at h; cases h)⟩⟩⟩
  ·have d2 : a.tmps.getD 9 undef = (.pointer (some ⟨fb, 1, none⟩)) := fdn (hF 2 (by decide) (hr 2 (by kernel_rfl)))
   have h5 : d 5 = false := by cases h : d 5 with | false => rfl | true => have h1 := hJ.1 5 3 h rfl; rw [hdi] at h1; cases h1
   have hW := hJ.2.1 h5
   subst hW
   have c1 := HCL.out
   exact .inl ⟨(fun k b h => by cases h), .inl ⟨3, by decide, rfl, (.slice ao m cap), W1.drew, (by simp [go_sem, Act.eval, d2, c1]), rfl, ⟨hJ.1.upd (fun k hk => by rcases (show k = 2 by simpa [dp7] using hk) with rfl; exact hr _ (by kernel_rfl)), (fun _ => rfl), (fun h => by rw [updC_ne (by omega), h5] at h; cases h)⟩⟩⟩
  ·have f3 : a.tmps.getD 3 undef = (.pointer (some ⟨p3, 0, none⟩)) := hf 3 (by kernel_rfl)
   have h5 : d 5 = false := by cases h : d 5 with | false => rfl | true => have h1 := hJ.1 5 4 h rfl; rw [hdi] at h1; cases h1
   have hW := hJ.2.1 h5
   subst hW
   have c3 := HC3.out
   exact .inl ⟨(fun k b h => by cases h), .inl ⟨4, by decide, rfl, (.int .i64 (v : Int)), W1.drew, (by simp [go_sem, Act.eval, f3, c3]), rfl, ⟨hJ.1.upd (fun k hk => by simp [dp7] at hk), (fun _ => rfl), (fun h => by rw [updC_ne (by omega), h5] at h; cases h)⟩⟩⟩
  ·have d3 : a.tmps.getD 10 undef = (.slice ao m cap) := fdn (hF 3 (by decide) (hr 3 (by kernel_rfl)))
   have d4 : a.tmps.getD 11 undef = (.int .i64 (v : Int)) := fdn (hF 4 (by decide) (hr 4 (by kernel_rfl)))
   have hW := hJ.2.1 hdi
   subst hW
   refine .inl ⟨(fun k b h => by cases h), .inr (.inr ⟨5, by decide, rfl, 41, #[(.slice ao m cap), .int .i64 (v : Int)], W1.drew, (by simp [go_sem, Act.eval, d3, d4]), ?_⟩)⟩
   refine (callsIn_wide.2 (neigh_any (.slice ao m cap) L v W1.drew HLI.out)).mono ?_
   rintro e W' ⟨q, rfl, hq, hinv, hbel⟩
   exact ⟨_, rfl, ⟨q, rfl⟩, hJ.1.upd (fun k hk => by rcases (show k = 3 ∨ k = 4 by simpa [dp7] using hk) with rfl | rfl <;> exact hr _ (by kernel_rfl)), (fun h => by rw [updC_eq] at h; cases h), fun _ => ⟨q, updW_eq, hq, hinv, (bdN W1.heap.size W1 1).trans hbel⟩⟩
 case finy =>
  intro d vs Wy hall hJ hF
  have h0 : vs 0 = (.pointer (some ⟨fb, 0, none⟩)) := hF 0 (by decide)
  have h1 : vs 1 = (.pointer (some ⟨fb, 0, none⟩)) := hF 1 (by decide)
  have h2 : vs 2 = (.pointer (some ⟨fb, 1, none⟩)) := hF 2 (by decide)
  have h3 : vs 3 = (.slice ao m cap) := hF 3 (by decide)
  have h4 : vs 4 = (.int .i64 (v : Int)) := hF 4 (by decide)
  have h5 : (fun zv => ∃ q, zv = nbV q) (vs 5) := hF 5 (by decide)
  clear hF
  obtain ⟨qn, hqn, hqs, hinv, hbel⟩ := hJ.2.2 (hall 5 (by decide))
  show (_ : Exit → Act → World → Prop) Exit.normal (puts _ vs 6 _) Wy
  simp only [puts, h0, h1, h2, h3, h4, List.getD_cons_zero, List.getD_cons_succ]
  clear h0 h1 h2 h3 h4
  have hri : LR w B fb gb (.slice ao m cap) n L g v p2 p3 p4 qn [] Wy :=
   ⟨(fun x hx => by cases hx), HFW1.out.below hbel, hinv, stays HK2.out hbel, stays HK3.out hbel, stays HK4.out hbel, HB1.out.trans (hbel.mono HZ1.out), ⟨HPS.out.1, HPS.out.2, Nat.le_trans HZ1.out hqs⟩⟩
  have HRI := Lib.hid hri
  have HSY : Hid (w.heap.size ≤ Wy.heap.size) := hri.low.size
  simp only [hqn]
  simp only [Act.put, List.setIfInBounds_toArray, List.set_cons_succ, List.set_cons_zero]
  clear hJ hall h5 hqn hqs hinv hbel hri HFW1 HB1 HK2 HK3 HK4 HZ1 HCL HC2 HC3 HLI
  gi_wp2_with (fail)
  refine wpIn_range_H (F := Fence.wide) (n := 5) rfl (by omega) (gf := 50) (lb := #[.pointer (some ⟨qn, 0, none⟩), .pointer (some ⟨qn + 1, 0, none⟩)]) ?hg trivial (enters_of Try.func50 (by kernel_rfl) rfl) (encs := encN) (Inv := InvN qn (.slice ao m cap) L v) (neigh_iter qn (.slice ao m cap) L v 4) (fun x => rfl) ?hRput
   (fun pre W => LR w B fb gb (.slice ao m cap) n L g v p2 p3 p4 qn pre W)
   (fun c pre W => c = .ret ∧ LX w B fb gb (.slice ao m cap) n L R.2 p4 R.1 W)
   ?hI ?hIp ?hIxp ?hInv ?h0 (A := ?A) (fun (x : Nat × Nat) (u k : Nat) (_ _ _ _ : Unit) W => x = (u, k)) ?hAxp ?assign ?body ?done ?stop
  case hg => rfl
  case hRput => exact fun pre x W l o o' h _ _ => h
  case hI =>
   rintro s' A A' h1 hb
   exact h1.below hb
  case hIp =>
   rintro s' A l o o' h1 hl ho hc
   exact h1.put HBW.out (by have := HSY.out; omega) ho hc
  case hIxp =>
   rintro c s' A l o o' ⟨h0, h1⟩ hl ho hc
   exact ⟨h0, h1.put HBW.out (by have := HSY.out; omega) ho hc⟩
  case hInv => rintro s' W' h1; exact h1.inv
  case h0 => exact HRI.out
  case hAxp => exact fun x u k _ _ _ _ W l o o' h _ _ _ => h
  case assign =>
   rintro yl pre ⟨u, k⟩ W' K h1 hR hK
   have HK := Lib.hid hK
   have HP := Lib.hid h1
   have HR' := Lib.hid hR
   clear hK h1 hR
   simp only [encN]
   gi_wp2
   have d1 : Unit := ()
   have d2 : Unit := ()
   have d3 : Unit := ()
   have d4 : Unit := ()
   exact HK.out u k d1 d2 d3 d4 _ (KeepsOthers.refl _) HP.out HR'.out rfl
  case body =>
   rintro yl pre x u k d1 d2 d3 d4 W0 hyl ⟨rl, hrl⟩ h1 ⟨rest, hR⟩ rfl
   have hedge : Edge L k u v := mem_nb.1 (by rw [hR]; simp)
   have hk := hedge.1
   have hne : endA L k ≠ endB L k := by have := HF.out.lt k hk; omega
   have HRI1 := Lib.hid h1
   have HRL := Lib.hid hrl
   have HRR := Lib.hid hR
   obtain ⟨bl, ol, hbl, -, cA, cB⟩ := Lis.at (h1.fw.l.below (Below.refl B W0).drew (Nat.le_refl _)) k hk
   subst hbl
   have cb2 : W0.drew.cell? ⟨p2, 0, none⟩ = some (.pointer (some ⟨fb, 0, none⟩)) := cell_of_row _ _ 0 _ _ _ h1.b2
   have cb3 : W0.drew.cell? ⟨p3, 0, none⟩ = some (.int .i64 (v : Int)) := cell_of_row _ _ 0 _ _ _ h1.b3
   have cl1 : W0.drew.cell? ⟨fb, 1, none⟩ = some (.slice (some ⟨bl, ol, none⟩) m cap) := cell_of_row _ _ 1 _ _ _ h1.fw.f
   have cl2 : W0.drew.cell? ⟨fb, 2, none⟩ = some (.slice (some ⟨gb, 0, none⟩) m m) := by rw [HM.out]; exact cell_of_row _ _ 2 _ _ _ h1.fw.f
   have cG : W0.drew.cell? ⟨gb, k, none⟩ = some (.int .i64 (g.getD k 0)) := h1.fw.row.cell k (by rw [h1.fw.gl]; exact hk)
   have HPP : Hid (folP L g v (u, k) = ((decide (endA L k = v) && g.getD k 0 == 1) || (decide (endB L k = v) && g.getD k 0 == -1))) := rfl
   obtain ⟨x, hx⟩ : ∃ x, x = endA L k := ⟨_, rfl⟩
   obtain ⟨y, hy⟩ : ∃ x, x = endB L k := ⟨_, rfl⟩
   obtain ⟨z, hz⟩ : ∃ z, z = g.getD k 0 := ⟨_, rfl⟩
   rw [← hx] at cA HPP hne
   rw [← hy] at cB HPP hne
   rw [← hz] at cG HPP
   have hkn : 0 ≤ (k : Int) ∧ (k : Int) < (m : Int) := by have := HM.out; omega
   have HED := Lib.hid hedge
   have hxy : x = v ∨ y = v := by
    rcases hedge.2 with ⟨e1, e2⟩ | ⟨e1, e2⟩
    ·exact .inr (hy.trans e2)
    ·exact .inl (hx.trans e1)
   have HFIN : Hid (folP L g v (u, k) = true → R = (u, g.set k 0)) := by
    intro hp
    rw [HR.out]
    unfold folF
    have h0 : (nbF L v).find? (folP L g v) = some (u, k) := by
     rw [HRR.out, List.find?_append, List.find?_eq_none.2 (fun x hx => by rw [HRI1.out.no x hx]; simp)]
     simp only [Option.none_or]
     rw [List.find?_cons, hp]
    rw [h0]
   clear h1 hR hedge hrl hx hy hz hk
   by_cases hxv : x = v
   ·have hyv : y ≠ v := by omega
    by_cases hz1 : z = 1
    ·have HE : Hid (folP L g v (u, k) = true) := by show _ = _; rw [HPP.out]; simp [hxv, hz1]
     subst hz1
     subst hxv
     gi_wp2_with (fail)
     refine wpIn_flowM (F0 := (Fence.wide.inRound yl)) (n0 := 3) (fun _ => trivial) (fun h => by cases h) (by kernel_rfl) (by kernel_rfl) 42 42 (by kernel_rfl) (fun j => ([0, 1, 2, 3, 4, 5, 6, 7, 8, 9, 10, 11, 12, 13, 14, 15, 16, 17, 18, 19, 20, 21, 22, 23, 24, 25, 26, 27, 28, 29, 30, 31, 32, 33, 34, 35, 36, 37, 38, 39, 40, 41] : List Nat).getD j 0) (fun j => ([15, 16, 17, 18, 19, 20, 21, 22, 23, 24, 25, 26, 27, 28, 29, 30, 31, 32, 33, 34, 35, 36, 37, 38, 39, 40, 41, 42, 43, 44, 45, 46, 47, 48, 49, 50, 51, 52, 53, 54, 55, 56] : List Nat).getD j 0) (by kernel_rfl) (by kernel_rfl) (by kernel_rfl) (by kernel_rfl) (by kernel_rfl) (by kernel_rfl) (by kernel_rfl) (fun j zv => ([(fun zv => zv = (.pointer (some ⟨fb, 0, none⟩))), (fun zv => zv = (.pointer (some ⟨fb, 0, none⟩))), (fun zv => zv = (.pointer (some ⟨fb, 1, none⟩))), (fun zv => zv = (.slice (some ⟨bl, ol, none⟩) m cap)), (fun zv => zv = (.int .i64 (k : Int))), (fun zv => zv = (.pointer (some ⟨bl, ol + k * 2, none⟩))), (fun zv => zv = (.pointer (some ⟨bl, ol + k * 2, none⟩))), (fun zv => zv = (.int .i64 (x : Int))), (fun zv => zv = (.int .i64 (x : Int))), (fun zv => zv = (.bool true)), (fun zv => zv = (.bool true)), (fun zv => zv = (.pointer (some ⟨fb, 0, none⟩))), (fun zv => zv = (.pointer (some ⟨fb, 0, none⟩))), (fun zv => zv = (.pointer (some ⟨fb, 2, none⟩))), (fun zv => zv = (.slice (some ⟨gb, 0, none⟩) m m)), (fun zv => zv = (.int .i64 (k : Int))), (fun zv => zv = (.pointer (some ⟨gb, k, none⟩))), (fun zv => zv = (.int .i64 1)), (fun zv => zv = (.bool true)), (fun zv => zv = (.bool true)), (fun zv => zv = (.bool true)), (fun zv => zv = undef), (fun zv => zv = undef), (fun zv => zv = undef), (fun zv => zv = undef), (fun zv => zv = undef), (fun zv => zv = undef), (fun zv => zv = undef), (fun zv => zv = undef), (fun zv => zv = undef), (fun zv => zv = undef), (fun zv => zv = undef), (fun zv => zv = undef), (fun zv => zv = undef), (fun zv => zv = undef), (fun zv => zv = undef), (fun zv => zv = undef), (fun zv => zv = undef), (fun zv => zv = undef), (fun zv => zv = undef), (fun zv => zv = undef), (fun zv => zv = (.bool true))] : List (Value → Prop)).getD j (fun _ => True) zv) (fun _ _ W => W = W0.drew) ?h0x ?stepx ?finx
     case h0x => exact fun _ => rfl
     case stepx =>
      intro i o a W d vs hi ho hdi hJ hf hr hF
      replace hi : i < 42 := hi
      rcases (show i = 0 ∨ i = 1 ∨ i = 2 ∨ i = 3 ∨ i = 4 ∨ i = 5 ∨ i = 6 ∨ i = 7 ∨ i = 8 ∨ i = 9 ∨ i = 10 ∨ i = 11 ∨ i = 12 ∨ i = 13 ∨ i = 14 ∨ i = 15 ∨ i = 16 ∨ i = 17 ∨ i = 18 ∨ i = 19 ∨ i = 20 ∨ i = 21 ∨ i = 22 ∨ i = 23 ∨ i = 24 ∨ i = 25 ∨ i = 26 ∨ i = 27 ∨ i = 28 ∨ i = 29 ∨ i = 30 ∨ i = 31 ∨ i = 32 ∨ i = 33 ∨ i = 34 ∨ i = 35 ∨ i = 36 ∨ i = 37 ∨ i = 38 ∨ i = 39 ∨ i = 40 ∨ i = 41 by omega) with rfl | rfl | rfl | rfl | rfl | rfl | rfl | rfl | rfl | rfl | rfl | rfl | rfl | rfl | rfl | rfl | rfl | rfl | rfl | rfl | rfl | rfl | rfl | rfl | rfl | rfl | rfl | rfl | rfl | rfl | rfl | rfl | rfl | rfl | rfl | rfl | rfl | rfl | rfl | rfl | rfl | rfl
      all_goals
       replace ho := op_at ho (by rfl)
       subst ho
      ·have f2 : a.tmps.getD 2 undef = (.pointer (some ⟨p2, 0, none⟩)) := hf 2 (by kernel_rfl)
       subst hJ
       exact .inl ⟨(fun k b h => by cases h), .inl ⟨0, by decide, rfl, (.pointer (some ⟨fb, 0, none⟩)), W0.drew, (by simp [go_sem, Act.eval, f2, cb2]), rfl, rfl⟩⟩
      ·have d0 : a.tmps.getD 15 undef = (.pointer (some ⟨fb, 0, none⟩)) := fdn (hF 0 (by decide) (hr 0 (by kernel_rfl)))
       subst hJ
       exact .inl ⟨(fun k b h => by cases h), .inl ⟨1, by decide, rfl, (.pointer (some ⟨fb, 0, none⟩)), W0.drew, (by simp [go_sem, Act.eval, d0]), rfl, rfl⟩⟩
      ·have d1 : a.tmps.getD 16 undef = (.pointer (some ⟨fb, 0, none⟩)) := fdn (hF 1 (by decide) (hr 1 (by kernel_rfl)))
       subst hJ
       exact .inl ⟨(fun k b h => by cases h), .inl ⟨2, by decide, rfl, (.pointer (some ⟨fb, 1, none⟩)), W0.drew, (by simp [go_sem, Act.eval, d1]), rfl, rfl⟩⟩
      ·have d2 : a.tmps.getD 17 undef = (.pointer (some ⟨fb, 1, none⟩)) := fdn (hF 2 (by decide) (hr 2 (by kernel_rfl)))
       subst hJ
       exact .inl ⟨(fun k b h => by cases h), .inl ⟨3, by decide, rfl, (.slice (some ⟨bl, ol, none⟩) m cap), W0.drew, (by simp [go_sem, Act.eval, d2, cl1]), rfl, rfl⟩⟩
      ·have f6 : a.tmps.getD 6 undef = (.int .i64 (k : Int)) := hf 6 (by kernel_rfl)
       subst hJ
       exact .inl ⟨(fun k b h => by cases h), .inl ⟨4, by decide, rfl, (.int .i64 (k : Int)), W0.drew, (by simp [go_sem, Act.eval, f6]), rfl, rfl⟩⟩
      ·have d3 : a.tmps.getD 18 undef = (.slice (some ⟨bl, ol, none⟩) m cap) := fdn (hF 3 (by decide) (hr 3 (by kernel_rfl)))
       have d4 : a.tmps.getD 19 undef = (.int .i64 (k : Int)) := fdn (hF 4 (by decide) (hr 4 (by kernel_rfl)))
       subst hJ
       exact .inl ⟨(fun k b h => by cases h), .inl ⟨5, by decide, rfl, (.pointer (some ⟨bl, ol + k * 2, none⟩)), W0.drew, (by simp [go_sem, Act.eval, d3, d4, hkn]), rfl, rfl⟩⟩
      ·have d5 : a.tmps.getD 20 undef = (.pointer (some ⟨bl, ol + k * 2, none⟩)) := fdn (hF 5 (by decide) (hr 5 (by kernel_rfl)))
       subst hJ
       exact .inl ⟨(fun k b h => by cases h), .inl ⟨6, by decide, rfl, (.pointer (some ⟨bl, ol + k * 2, none⟩)), W0.drew, (by simp [go_sem, Act.eval, d5]), rfl, rfl⟩⟩
      ·have d6 : a.tmps.getD 21 undef = (.pointer (some ⟨bl, ol + k * 2, none⟩)) := fdn (hF 6 (by decide) (hr 6 (by kernel_rfl)))
       subst hJ
       exact .inl ⟨(fun k b h => by cases h), .inl ⟨7, by decide, rfl, (.int .i64 (x : Int)), W0.drew, (by simp [go_sem, Act.eval, d6, cA]), rfl, rfl⟩⟩
      ·have f3 : a.tmps.getD 3 undef = (.pointer (some ⟨p3, 0, none⟩)) := hf 3 (by kernel_rfl)
       subst hJ
       exact .inl ⟨(fun k b h => by cases h), .inl ⟨8, by decide, rfl, (.int .i64 (x : Int)), W0.drew, (by simp [go_sem, Act.eval, f3, cb3]), rfl, rfl⟩⟩
      ·have d7 : a.tmps.getD 22 undef = (.int .i64 (x : Int)) := fdn (hF 7 (by decide) (hr 7 (by kernel_rfl)))
       have d8 : a.tmps.getD 23 undef = (.int .i64 (x : Int)) := fdn (hF 8 (by decide) (hr 8 (by kernel_rfl)))
       subst hJ
       exact .inl ⟨(fun k b h => by cases h), .inl ⟨9, by decide, rfl, (.bool true), W0.drew, (by simp [go_sem, Act.eval, d7, d8]), rfl, rfl⟩⟩
      ·have d9 : a.tmps.getD 24 undef = (.bool true) := fdn (hF 9 (by decide) (hr 9 (by kernel_rfl)))
       subst hJ
       exact .inl ⟨(fun k b h => by cases h), .inl ⟨10, by decide, rfl, (.bool true), W0.drew, (by simp [go_sem, Act.eval, d9]), rfl, rfl⟩⟩
      ·have d10 : a.tmps.getD 25 undef = (.bool true) := fdn (hF 10 (by decide) (hr 10 (by kernel_rfl)))
       have f2 : a.tmps.getD 2 undef = (.pointer (some ⟨p2, 0, none⟩)) := hf 2 (by kernel_rfl)
       subst hJ
       exact .inl ⟨(fun k b h => by cases h; exact ⟨10, by decide, rfl, d10⟩), .inl ⟨11, by decide, rfl, (.pointer (some ⟨fb, 0, none⟩)), W0.drew, (by simp [go_sem, Act.eval, d10, f2, cb2]), rfl, rfl⟩⟩
      ·have d11 : a.tmps.getD 26 undef = (.pointer (some ⟨fb, 0, none⟩)) := fdn (hF 11 (by decide) (hr 11 (by kernel_rfl)))
       have d10 : a.tmps.getD 25 undef = (.bool true) := fdn (hF 10 (by decide) (hr 10 (by kernel_rfl)))
       subst hJ
       exact .inl ⟨(fun k b h => by cases h; exact ⟨10, by decide, rfl, d10⟩), .inl ⟨12, by decide, rfl, (.pointer (some ⟨fb, 0, none⟩)), W0.drew, (by simp [go_sem, Act.eval, d11, d10]), rfl, rfl⟩⟩
      ·have d12 : a.tmps.getD 27 undef = (.pointer (some ⟨fb, 0, none⟩)) := fdn (hF 12 (by decide) (hr 12 (by kernel_rfl)))
       have d10 : a.tmps.getD 25 undef = (.bool true) := fdn (hF 10 (by decide) (hr 10 (by kernel_rfl)))
       subst hJ
       exact .inl ⟨(fun k b h => by cases h; exact ⟨10, by decide, rfl, d10⟩), .inl ⟨13, by decide, rfl, (.pointer (some ⟨fb, 2, none⟩)), W0.drew, (by simp [go_sem, Act.eval, d12, d10]), rfl, rfl⟩⟩
      ·have d13 : a.tmps.getD 28 undef = (.pointer (some ⟨fb, 2, none⟩)) := fdn (hF 13 (by decide) (hr 13 (by kernel_rfl)))
       have d10 : a.tmps.getD 25 undef = (.bool true) := fdn (hF 10 (by decide) (hr 10 (by kernel_rfl)))
       subst hJ
       exact .inl ⟨(fun k b h => by cases h; exact ⟨10, by decide, rfl, d10⟩), .inl ⟨14, by decide, rfl, (.slice (some ⟨gb, 0, none⟩) m m), W0.drew, (by simp [go_sem, Act.eval, d13, d10, cl2]), rfl, rfl⟩⟩
      ·have d10 : a.tmps.getD 25 undef = (.bool true) := fdn (hF 10 (by decide) (hr 10 (by kernel_rfl)))
       have f6 : a.tmps.getD 6 undef = (.int .i64 (k : Int)) := hf 6 (by kernel_rfl)
       subst hJ
       exact .inl ⟨(fun k b h => by cases h; exact ⟨10, by decide, rfl, d10⟩), .inl ⟨15, by decide, rfl, (.int .i64 (k : Int)), W0.drew, (by simp [go_sem, Act.eval, d10, f6]), rfl, rfl⟩⟩
      ·have d14 : a.tmps.getD 29 undef = (.slice (some ⟨gb, 0, none⟩) m m) := fdn (hF 14 (by decide) (hr 14 (by kernel_rfl)))
       have d15 : a.tmps.getD 30 undef = (.int .i64 (k : Int)) := fdn (hF 15 (by decide) (hr 15 (by kernel_rfl)))
       have d10 : a.tmps.getD 25 undef = (.bool true) := fdn (hF 10 (by decide) (hr 10 (by kernel_rfl)))
       subst hJ
       exact .inl ⟨(fun k b h => by cases h; exact ⟨10, by decide, rfl, d10⟩), .inl ⟨16, by decide, rfl, (.pointer (some ⟨gb, k, none⟩)), W0.drew, (by simp [go_sem, Act.eval, d14, d15, d10, hkn]), rfl, rfl⟩⟩
      ·have d16 : a.tmps.getD 31 undef = (.pointer (some ⟨gb, k, none⟩)) := fdn (hF 16 (by decide) (hr 16 (by kernel_rfl)))
       have d10 : a.tmps.getD 25 undef = (.bool true) := fdn (hF 10 (by decide) (hr 10 (by kernel_rfl)))
       subst hJ
       exact .inl ⟨(fun k b h => by cases h; exact ⟨10, by decide, rfl, d10⟩), .inl ⟨17, by decide, rfl, (.int .i64 1), W0.drew, (by simp [go_sem, Act.eval, d16, d10, cG]), rfl, rfl⟩⟩
      ·have d17 : a.tmps.getD 32 undef = (.int .i64 1) := fdn (hF 17 (by decide) (hr 17 (by kernel_rfl)))
       have d10 : a.tmps.getD 25 undef = (.bool true) := fdn (hF 10 (by decide) (hr 10 (by kernel_rfl)))
       subst hJ
       exact .inl ⟨(fun k b h => by cases h; exact ⟨10, by decide, rfl, d10⟩), .inl ⟨18, by decide, rfl, (.bool true), W0.drew, (by simp [go_sem, Act.eval, d17, d10]), rfl, rfl⟩⟩
      ·have d10 : a.tmps.getD 25 undef = (.bool true) := fdn (hF 10 (by decide) (hr 10 (by kernel_rfl)))
       have d18 : a.tmps.getD 33 undef = (.bool true) := fdn (hF 18 (by decide) (hr 18 (by kernel_rfl)))
       subst hJ
       exact .inl ⟨(fun k b h => by cases h), .inl ⟨19, by decide, rfl, (.bool true), W0.drew, (by simp [go_sem, Act.eval, d10, d18]), rfl, rfl⟩⟩
      ·have d19 : a.tmps.getD 34 undef = (.bool true) := fdn (hF 19 (by decide) (hr 19 (by kernel_rfl)))
       subst hJ
       exact .inl ⟨(fun k b h => by cases h), .inl ⟨20, by decide, rfl, (.bool true), W0.drew, (by simp [go_sem, Act.eval, d19]), rfl, rfl⟩⟩
      ·have d20 : a.tmps.getD 35 undef = (.bool true) := fdn (hF 20 (by decide) (hr 20 (by kernel_rfl)))
       subst hJ
       exact .inr ⟨20, false, 20, rfl, by decide, rfl, (nhB d20 rfl), .inl ⟨21, by decide, rfl, rfl, rfl⟩⟩
      ·have d20 : a.tmps.getD 35 undef = (.bool true) := fdn (hF 20 (by decide) (hr 20 (by kernel_rfl)))
       subst hJ
       exact .inr ⟨20, false, 20, rfl, by decide, rfl, (nhB d20 rfl), .inl ⟨22, by decide, rfl, rfl, rfl⟩⟩
      ·have d20 : a.tmps.getD 35 undef = (.bool true) := fdn (hF 20 (by decide) (hr 20 (by kernel_rfl)))
       subst hJ
       exact .inr ⟨20, false, 20, rfl, by decide, rfl, (nhB d20 rfl), .inl ⟨23, by decide, rfl, rfl, rfl⟩⟩
      ·have d20 : a.tmps.getD 35 undef = (.bool true) := fdn (hF 20 (by decide) (hr 20 (by kernel_rfl)))
       subst hJ
       exact .inr ⟨20, false, 20, rfl, by decide, rfl, (nhB d20 rfl), .inl ⟨24, by decide, rfl, rfl, rfl⟩⟩
      ·have d20 : a.tmps.getD 35 undef = (.bool true) := fdn (hF 20 (by decide) (hr 20 (by kernel_rfl)))
       subst hJ
       exact .inr ⟨20, false, 20, rfl, by decide, rfl, (nhB d20 rfl), .inl ⟨25, by decide, rfl, rfl, rfl⟩⟩
      ·have d20 : a.tmps.getD 35 undef = (.bool true) := fdn (hF 20 (by decide) (hr 20 (by kernel_rfl)))
       subst hJ
       exact .inr ⟨20, false, 20, rfl, by decide, rfl, (nhB d20 rfl), .inl ⟨26, by decide, rfl, rfl, rfl⟩⟩
      ·have d20 : a.tmps.getD 35 undef = (.bool true) := fdn (hF 20 (by decide) (hr 20 (by kernel_rfl)))
       subst hJ
       exact .inr ⟨20, false, 20, rfl, by decide, rfl, (nhB d20 rfl), .inl ⟨27, by decide, rfl, rfl, rfl⟩⟩
      ·have d20 : a.tmps.getD 35 undef = (.bool true) := fdn (hF 20 (by decide) (hr 20 (by kernel_rfl)))
       subst hJ
       exact .inr ⟨20, false, 20, rfl, by decide, rfl, (nhB d20 rfl), .inl ⟨28, by decide, rfl, rfl, rfl⟩⟩
      ·have d20 : a.tmps.getD 35 undef = (.bool true) := fdn (hF 20 (by decide) (hr 20 (by kernel_rfl)))
       subst hJ
       exact .inr ⟨20, false, 20, rfl, by decide, rfl, (nhB d20 rfl), .inl ⟨29, by decide, rfl, rfl, rfl⟩⟩
      ·have d20 : a.tmps.getD 35 undef = (.bool true) := fdn (hF 20 (by decide) (hr 20 (by kernel_rfl)))
       subst hJ
       exact .inr ⟨20, false, 20, rfl, by decide, rfl, (nhB d20 rfl), .inl ⟨30, by decide, rfl, rfl, rfl⟩⟩
      ·have d20 : a.tmps.getD 35 undef = (.bool true) := fdn (hF 20 (by decide) (hr 20 (by kernel_rfl)))
       subst hJ
       exact .inr ⟨20, false, 20, rfl, by decide, rfl, (nhB d20 rfl), .inl ⟨31, by decide, rfl, rfl, rfl⟩⟩
      ·have d31 : a.tmps.getD 46 undef = undef := fdn (hF 31 (by decide) (hr 31 (by kernel_rfl)))
       subst hJ
       exact .inr ⟨31, true, 31, rfl, by decide, rfl, (nhU d31), .inl ⟨32, by decide, rfl, rfl, rfl⟩⟩
      ·have d31 : a.tmps.getD 46 undef = undef := fdn (hF 31 (by decide) (hr 31 (by kernel_rfl)))
       subst hJ
       exact .inr ⟨31, true, 31, rfl, by decide, rfl, (nhU d31), .inl ⟨33, by decide, rfl, rfl, rfl⟩⟩
      ·have d31 : a.tmps.getD 46 undef = undef := fdn (hF 31 (by decide) (hr 31 (by kernel_rfl)))
       subst hJ
       exact .inr ⟨31, true, 31, rfl, by decide, rfl, (nhU d31), .inl ⟨34, by decide, rfl, rfl, rfl⟩⟩
      ·have d31 : a.tmps.getD 46 undef = undef := fdn (hF 31 (by decide) (hr 31 (by kernel_rfl)))
       subst hJ
       exact .inr ⟨31, true, 31, rfl, by decide, rfl, (nhU d31), .inl ⟨35, by decide, rfl, rfl, rfl⟩⟩
      ·have d31 : a.tmps.getD 46 undef = undef := fdn (hF 31 (by decide) (hr 31 (by kernel_rfl)))
       subst hJ
       exact .inr ⟨31, true, 31, rfl, by decide, rfl, (nhU d31), .inl ⟨36, by decide, rfl, rfl, rfl⟩⟩
      ·have d31 : a.tmps.getD 46 undef = undef := fdn (hF 31 (by decide) (hr 31 (by kernel_rfl)))
       subst hJ
       exact .inr ⟨31, true, 31, rfl, by decide, rfl, (nhU d31), .inl ⟨37, by decide, rfl, rfl, rfl⟩⟩
      ·have d31 : a.tmps.getD 46 undef = undef := fdn (hF 31 (by decide) (hr 31 (by kernel_rfl)))
       subst hJ
       exact .inr ⟨31, true, 31, rfl, by decide, rfl, (nhU d31), .inl ⟨38, by decide, rfl, rfl, rfl⟩⟩
      ·have d31 : a.tmps.getD 46 undef = undef := fdn (hF 31 (by decide) (hr 31 (by kernel_rfl)))
       subst hJ
       exact .inr ⟨31, true, 31, rfl, by decide, rfl, (nhU d31), .inl ⟨39, by decide, rfl, rfl, rfl⟩⟩
      ·have d20 : a.tmps.getD 35 undef = (.bool true) := fdn (hF 20 (by decide) (hr 20 (by kernel_rfl)))
       subst hJ
       exact .inr ⟨20, false, 20, rfl, by decide, rfl, (nhB d20 rfl), .inl ⟨40, by decide, rfl, rfl, rfl⟩⟩
      ·have d20 : a.tmps.getD 35 undef = (.bool true) := fdn (hF 20 (by decide) (hr 20 (by kernel_rfl)))
       subst hJ
       exact .inl ⟨(fun k b h => by cases h), .inl ⟨41, by decide, rfl, (.bool true), W0.drew, (by simp [go_sem, Act.eval, d20]), rfl, rfl⟩⟩
     case finx =>
      intro d vs Wx hall hJ hF
      have h0 : vs 0 = (.pointer (some ⟨fb, 0, none⟩)) := hF 0 (by decide)
      have h1 : vs 1 = (.pointer (some ⟨fb, 0, none⟩)) := hF 1 (by decide)
      have h2 : vs 2 = (.pointer (some ⟨fb, 1, none⟩)) := hF 2 (by decide)
      have h3 : vs 3 = (.slice (some ⟨bl, ol, none⟩) m cap) := hF 3 (by decide)
      have h4 : vs 4 = (.int .i64 (k : Int)) := hF 4 (by decide)
      have h5 : vs 5 = (.pointer (some ⟨bl, ol + k * 2, none⟩)) := hF 5 (by decide)
      have h6 : vs 6 = (.pointer (some ⟨bl, ol + k * 2, none⟩)) := hF 6 (by decide)
      have h7 : vs 7 = (.int .i64 (x : Int)) := hF 7 (by decide)
      have h8 : vs 8 = (.int .i64 (x : Int)) := hF 8 (by decide)
      have h9 : vs 9 = (.bool true) := hF 9 (by decide)
      have h10 : vs 10 = (.bool true) := hF 10 (by decide)
      have h11 : vs 11 = (.pointer (some ⟨fb, 0, none⟩)) := hF 11 (by decide)
      have h12 : vs 12 = (.pointer (some ⟨fb, 0, none⟩)) := hF 12 (by decide)
      have h13 : vs 13 = (.pointer (some ⟨fb, 2, none⟩)) := hF 13 (by decide)
      have h14 : vs 14 = (.slice (some ⟨gb, 0, none⟩) m m) := hF 14 (by decide)
      have h15 : vs 15 = (.int .i64 (k : Int)) := hF 15 (by decide)
      have h16 : vs 16 = (.pointer (some ⟨gb, k, none⟩)) := hF 16 (by decide)
      have h17 : vs 17 = (.int .i64 1) := hF 17 (by decide)
      have h18 : vs 18 = (.bool true) := hF 18 (by decide)
      have h19 : vs 19 = (.bool true) := hF 19 (by decide)
      have h20 : vs 20 = (.bool true) := hF 20 (by decide)
      have h21 : vs 21 = undef := hF 21 (by decide)
      have h22 : vs 22 = undef := hF 22 (by decide)
      have h23 : vs 23 = undef := hF 23 (by decide)
      have h24 : vs 24 = undef := hF 24 (by decide)
      have h25 : vs 25 = undef := hF 25 (by decide)
      have h26 : vs 26 = undef := hF 26 (by decide)
      have h27 : vs 27 = undef := hF 27 (by decide)
      have h28 : vs 28 = undef := hF 28 (by decide)
      have h29 : vs 29 = undef := hF 29 (by decide)
      have h30 : vs 30 = undef := hF 30 (by decide)
      have h31 : vs 31 = undef := hF 31 (by decide)
      have h32 : vs 32 = undef := hF 32 (by decide)
      have h33 : vs 33 = undef := hF 33 (by decide)
      have h34 : vs 34 = undef := hF 34 (by decide)
      have h35 : vs 35 = undef := hF 35 (by decide)
      have h36 : vs 36 = undef := hF 36 (by decide)
      have h37 : vs 37 = undef := hF 37 (by decide)
      have h38 : vs 38 = undef := hF 38 (by decide)
      have h39 : vs 39 = undef := hF 39 (by decide)
      have h40 : vs 40 = undef := hF 40 (by decide)
      have h41 : vs 41 = (.bool true) := hF 41 (by decide)
      clear hF
      show (_ : Exit → Act → World → Prop) Exit.normal (puts _ vs 42 _) Wx
      simp only [puts, h0, h1, h2, h3, h4, h5, h6, h7, h8, h9, h10, h11, h12, h13, h14, h15, h16, h17, h18, h19, h20, h21, h22, h23, h24, h25, h26, h27, h28, h29, h30, h31, h32, h33, h34, h35, h36, h37, h38, h39, h40, h41, List.getD_cons_zero, List.getD_cons_succ]
      clear h0 h1 h2 h3 h4 h5 h6 h7 h8 h9 h10 h11 h12 h13 h14 h15 h16 h17 h18 h19 h20 h21 h22 h23 h24 h25 h26 h27 h28 h29 h30 h31 h32 h33 h34 h35 h36 h37 h38 h39 h40 h41
      subst hJ
      simp only [Act.put, List.setIfInBounds_toArray, List.set_cons_succ, List.set_cons_zero]
      obtain ⟨Wd, hWd⟩ : ∃ Wd, Wd = W0.drew := ⟨_, rfl⟩
      have HD0 := Lib.hid (HRI1.out.below (bdN W0.heap.size W0 1))
      have HKO : Hid (KeepsOthers W0 Wd) := by show KeepsOthers _ _; rw [hWd]; exact ⟨Nat.le_refl _, fun _ _ h _ => h⟩
      have hd1 : W0.drewN 1 = Wd := by rw [hWd]; rfl
      rw [hd1] at HD0
      rw [← hWd] at cb2 cb3 cl1 cl2 cG cA cB ⊢
      have fG := HD0.out.fw.row.frozen k
      have cb4 := cell_of_row _ _ 0 _ _ _ HD0.out.b4
      have fb4 := frozen_of_row _ _ 0 _ _ HD0.out.b4
      have hg4 : gb ≠ p4 := by have := HFL.out; have := HPS.out; omega
      clear hWd hd1 hall
      gi_wp2_with (fail)
      have hR2 := HFIN.out HE.out
      rw [hR2]
      exact ⟨HKO.out.trans ((KeepsOthers.setCell _ ⟨gb, k, none⟩ _).trans (KeepsOthers.setCell _ ⟨p4, 0, none⟩ _)), rfl, HD0.out.fin HBW.out HFL.out⟩
    ·have HE : Hid (folP L g v (u, k) = false) := by show _ = _; rw [HPP.out]; simp [hyv, hz1]
     have hzb : (z == 1) = false := by simpa using hz1
     have hyb : ((y : Int) == (x : Int)) = false := by rw [beq_eq_false_iff_ne]; omega
     subst hxv
     gi_wp2_with (fail)
     refine wpIn_flowM (F0 := (Fence.wide.inRound yl)) (n0 := 3) (fun _ => trivial) (fun h => by cases h) (by kernel_rfl) (by kernel_rfl) 42 42 (by kernel_rfl) (fun j => ([0, 1, 2, 3, 4, 5, 6, 7, 8, 9, 10, 11, 12, 13, 14, 15, 16, 17, 18, 19, 20, 21, 22, 23, 24, 25, 26, 27, 28, 29, 30, 31, 32, 33, 34, 35, 36, 37, 38, 39, 40, 41] : List Nat).getD j 0) (fun j => ([15, 16, 17, 18, 19, 20, 21, 22, 23, 24, 25, 26, 27, 28, 29, 30, 31, 32, 33, 34, 35, 36, 37, 38, 39, 40, 41, 42, 43, 44, 45, 46, 47, 48, 49, 50, 51, 52, 53, 54, 55, 56] : List Nat).getD j 0) (by kernel_rfl) (by kernel_rfl) (by kernel_rfl) (by kernel_rfl) (by kernel_rfl) (by kernel_rfl) (by kernel_rfl) (fun j zv => ([(fun zv => zv = (.pointer (some ⟨fb, 0, none⟩))), (fun zv => zv = (.pointer (some ⟨fb, 0, none⟩))), (fun zv => zv = (.pointer (some ⟨fb, 1, none⟩))), (fun zv => zv = (.slice (some ⟨bl, ol, none⟩) m cap)), (fun zv => zv = (.int .i64 (k : Int))), (fun zv => zv = (.pointer (some ⟨bl, ol + k * 2, none⟩))), (fun zv => zv = (.pointer (some ⟨bl, ol + k * 2, none⟩))), (fun zv => zv = (.int .i64 (x : Int))), (fun zv => zv = (.int .i64 (x : Int))), (fun zv => zv = (.bool true)), (fun zv => zv = (.bool true)), (fun zv => zv = (.pointer (some ⟨fb, 0, none⟩))), (fun zv => zv = (.pointer (some ⟨fb, 0, none⟩))), (fun zv => zv = (.pointer (some ⟨fb, 2, none⟩))), (fun zv => zv = (.slice (some ⟨gb, 0, none⟩) m m)), (fun zv => zv = (.int .i64 (k : Int))), (fun zv => zv = (.pointer (some ⟨gb, k, none⟩))), (fun zv => zv = (.int .i64 z)), (fun zv => zv = (.bool false)), (fun zv => zv = (.bool false)), (fun zv => zv = (.bool false)), (fun zv => zv = (.pointer (some ⟨fb, 0, none⟩))), (fun zv => zv = (.pointer (some ⟨fb, 0, none⟩))), (fun zv => zv = (.pointer (some ⟨fb, 1, none⟩))), (fun zv => zv = (.slice (some ⟨bl, ol, none⟩) m cap)), (fun zv => zv = (.int .i64 (k : Int))), (fun zv => zv = (.pointer (some ⟨bl, ol + k * 2, none⟩))), (fun zv => zv = (.pointer (some ⟨bl, ol + k * 2 + 1, none⟩))), (fun zv => zv = (.int .i64 (y : Int))), (fun zv => zv = (.int .i64 (x : Int))), (fun zv => zv = (.bool false)), (fun zv => zv = (.bool false)), (fun zv => zv = undef), (fun zv => zv = undef), (fun zv => zv = undef), (fun zv => zv = undef), (fun zv => zv = undef), (fun zv => zv = undef), (fun zv => zv = undef), (fun zv => zv = undef), (fun zv => zv = (.bool false)), (fun zv => zv = (.bool false))] : List (Value → Prop)).getD j (fun _ => True) zv) (fun _ _ W => W = W0.drew) ?h0z ?stepz ?finz
     case h0z => exact fun _ => rfl
     case stepz =>
      intro i o a W d vs hi ho hdi hJ hf hr hF
      replace hi : i < 42 := hi
      rcases (show i = 0 ∨ i = 1 ∨ i = 2 ∨ i = 3 ∨ i = 4 ∨ i = 5 ∨ i = 6 ∨ i = 7 ∨ i = 8 ∨ i = 9 ∨ i = 10 ∨ i = 11 ∨ i = 12 ∨ i = 13 ∨ i = 14 ∨ i = 15 ∨ i = 16 ∨ i = 17 ∨ i = 18 ∨ i = 19 ∨ i = 20 ∨ i = 21 ∨ i = 22 ∨ i = 23 ∨ i = 24 ∨ i = 25 ∨ i = 26 ∨ i = 27 ∨ i = 28 ∨ i = 29 ∨ i = 30 ∨ i = 31 ∨ i = 32 ∨ i = 33 ∨ i = 34 ∨ i = 35 ∨ i = 36 ∨ i = 37 ∨ i = 38 ∨ i = 39 ∨ i = 40 ∨ i = 41 by omega) with rfl | rfl | rfl | rfl | rfl | rfl | rfl | rfl | rfl | rfl | rfl | rfl | rfl | rfl | rfl | rfl | rfl | rfl | rfl | rfl | rfl | rfl | rfl | rfl | rfl | rfl | rfl | rfl | rfl | rfl | rfl | rfl | rfl | rfl | rfl | rfl | rfl | rfl | rfl | rfl | rfl | rfl
      all_goals
       replace ho := op_at ho (by rfl)
       subst ho
      ·have f2 : a.tmps.getD 2 undef = (.pointer (some ⟨p2, 0, none⟩)) := hf 2 (by kernel_rfl)
       subst hJ
       exact .inl ⟨(fun k b h => by cases h), .inl ⟨0, by decide, rfl, (.pointer (some ⟨fb, 0, none⟩)), W0.drew, (by simp [go_sem, Act.eval, f2, cb2]), rfl, rfl⟩⟩
      ·have d0 : a.tmps.getD 15 undef = (.pointer (some ⟨fb, 0, none⟩)) := fdn (hF 0 (by decide) (hr 0 (by kernel_rfl)))
       subst hJ
       exact .inl ⟨(fun k b h => by cases h), .inl ⟨1, by decide, rfl, (.pointer (some ⟨fb, 0, none⟩)), W0.drew, (by simp [go_sem, Act.eval, d0]), rfl, rfl⟩⟩
      ·have d1 : a.tmps.getD 16 undef = (.pointer (some ⟨fb, 0, none⟩)) := fdn (hF 1 (by decide) (hr 1 (by kernel_rfl)))
       subst hJ
       exact .inl ⟨(fun k b h => by cases h), .inl ⟨2, by decide, rfl, (.pointer (some ⟨fb, 1, none⟩)), W0.drew, (by simp [go_sem, Act.eval, d1]), rfl, rfl⟩⟩
      ·have d2 : a.tmps.getD 17 undef = (.pointer (some ⟨fb, 1, none⟩)) := fdn (hF 2 (by decide) (hr 2 (by kernel_rfl)))
       subst hJ
       exact .inl ⟨(fun k b h => by cases h), .inl ⟨3, by decide, rfl, (.slice (some ⟨bl, ol, none⟩) m cap), W0.drew, (by simp [go_sem, Act.eval, d2, cl1]), rfl, rfl⟩⟩
      ·have f6 : a.tmps.getD 6 undef = (.int .i64 (k : Int)) := hf 6 (by kernel_rfl)
       subst hJ
       exact .inl ⟨(fun k b h => by cases h), .inl ⟨4, by decide, rfl, (.int .i64 (k : Int)), W0.drew, (by simp [go_sem, Act.eval, f6]), rfl, rfl⟩⟩
      ·have d3 : a.tmps.getD 18 undef = (.slice (some ⟨bl, ol, none⟩) m cap) := fdn (hF 3 (by decide) (hr 3 (by kernel_rfl)))
       have d4 : a.tmps.getD 19 undef = (.int .i64 (k : Int)) := fdn (hF 4 (by decide) (hr 4 (by kernel_rfl)))
       subst hJ
       exact .inl ⟨(fun k b h => by cases h), .inl ⟨5, by decide, rfl, (.pointer (some ⟨bl, ol + k * 2, none⟩)), W0.drew, (by simp [go_sem, Act.eval, d3, d4, hkn]), rfl, rfl⟩⟩
      ·have d5 : a.tmps.getD 20 undef = (.pointer (some ⟨bl, ol + k * 2, none⟩)) := fdn (hF 5 (by decide) (hr 5 (by kernel_rfl)))
       subst hJ
       exact .inl ⟨(fun k b h => by cases h), .inl ⟨6, by decide, rfl, (.pointer (some ⟨bl, ol + k * 2, none⟩)), W0.drew, (by simp [go_sem, Act.eval, d5]), rfl, rfl⟩⟩
      ·have d6 : a.tmps.getD 21 undef = (.pointer (some ⟨bl, ol + k * 2, none⟩)) := fdn (hF 6 (by decide) (hr 6 (by kernel_rfl)))
       subst hJ
       exact .inl ⟨(fun k b h => by cases h), .inl ⟨7, by decide, rfl, (.int .i64 (x : Int)), W0.drew, (by simp [go_sem, Act.eval, d6, cA]), rfl, rfl⟩⟩
      ·have f3 : a.tmps.getD 3 undef = (.pointer (some ⟨p3, 0, none⟩)) := hf 3 (by kernel_rfl)
       subst hJ
       exact .inl ⟨(fun k b h => by cases h), .inl ⟨8, by decide, rfl, (.int .i64 (x : Int)), W0.drew, (by simp [go_sem, Act.eval, f3, cb3]), rfl, rfl⟩⟩
      ·have d7 : a.tmps.getD 22 undef = (.int .i64 (x : Int)) := fdn (hF 7 (by decide) (hr 7 (by kernel_rfl)))
       have d8 : a.tmps.getD 23 undef = (.int .i64 (x : Int)) := fdn (hF 8 (by decide) (hr 8 (by kernel_rfl)))
       subst hJ
       exact .inl ⟨(fun k b h => by cases h), .inl ⟨9, by decide, rfl, (.bool true), W0.drew, (by simp [go_sem, Act.eval, d7, d8]), rfl, rfl⟩⟩
      ·have d9 : a.tmps.getD 24 undef = (.bool true) := fdn (hF 9 (by decide) (hr 9 (by kernel_rfl)))
       subst hJ
       exact .inl ⟨(fun k b h => by cases h), .inl ⟨10, by decide, rfl, (.bool true), W0.drew, (by simp [go_sem, Act.eval, d9]), rfl, rfl⟩⟩
      ·have d10 : a.tmps.getD 25 undef = (.bool true) := fdn (hF 10 (by decide) (hr 10 (by kernel_rfl)))
       have f2 : a.tmps.getD 2 undef = (.pointer (some ⟨p2, 0, none⟩)) := hf 2 (by kernel_rfl)
       subst hJ
       exact .inl ⟨(fun k b h => by cases h; exact ⟨10, by decide, rfl, d10⟩), .inl ⟨11, by decide, rfl, (.pointer (some ⟨fb, 0, none⟩)), W0.drew, (by simp [go_sem, Act.eval, d10, f2, cb2]), rfl, rfl⟩⟩
      ·have d11 : a.tmps.getD 26 undef = (.pointer (some ⟨fb, 0, none⟩)) := fdn (hF 11 (by decide) (hr 11 (by kernel_rfl)))
       have d10 : a.tmps.getD 25 undef = (.bool true) := fdn (hF 10 (by decide) (hr 10 (by kernel_rfl)))
       subst hJ
       exact .inl ⟨(fun k b h => by cases h; exact ⟨10, by decide, rfl, d10⟩), .inl ⟨12, by decide, rfl, (.pointer (some ⟨fb, 0, none⟩)), W0.drew, (by simp [go_sem, Act.eval, d11, d10]), rfl, rfl⟩⟩
      ·have d12 : a.tmps.getD 27 undef = (.pointer (some ⟨fb, 0, none⟩)) := fdn (hF 12 (by decide) (hr 12 (by kernel_rfl)))
       have d10 : a.tmps.getD 25 undef = (.bool true) := fdn (hF 10 (by decide) (hr 10 (by kernel_rfl)))
       subst hJ
       exact .inl ⟨(fun k b h => by cases h; exact ⟨10, by decide, rfl, d10⟩), .inl ⟨13, by decide, rfl, (.pointer (some ⟨fb, 2, none⟩)), W0.drew, (by simp [go_sem, Act.eval, d12, d10]), rfl, rfl⟩⟩
      ·have d13 : a.tmps.getD 28 undef = (.pointer (some ⟨fb, 2, none⟩)) := fdn (hF 13 (by decide) (hr 13 (by kernel_rfl)))
       have d10 : a.tmps.getD 25 undef = (.bool true) := fdn (hF 10 (by decide) (hr 10 (by kernel_rfl)))
       subst hJ
       exact .inl ⟨(fun k b h => by cases h; exact ⟨10, by decide, rfl, d10⟩), .inl ⟨14, by decide, rfl, (.slice (some ⟨gb, 0, none⟩) m m), W0.drew, (by simp [go_sem, Act.eval, d13, d10, cl2]), rfl, rfl⟩⟩
      ·have d10 : a.tmps.getD 25 undef = (.bool true) := fdn (hF 10 (by decide) (hr 10 (by kernel_rfl)))
       have f6 : a.tmps.getD 6 undef = (.int .i64 (k : Int)) := hf 6 (by kernel_rfl)
       subst hJ
       exact .inl ⟨(fun k b h => by cases h; exact ⟨10, by decide, rfl, d10⟩), .inl ⟨15, by decide, rfl, (.int .i64 (k : Int)), W0.drew, (by simp [go_sem, Act.eval, d10, f6]), rfl, rfl⟩⟩
      ·have d14 : a.tmps.getD 29 undef = (.slice (some ⟨gb, 0, none⟩) m m) := fdn (hF 14 (by decide) (hr 14 (by kernel_rfl)))
       have d15 : a.tmps.getD 30 undef = (.int .i64 (k : Int)) := fdn (hF 15 (by decide) (hr 15 (by kernel_rfl)))
       have d10 : a.tmps.getD 25 undef = (.bool true) := fdn (hF 10 (by decide) (hr 10 (by kernel_rfl)))
       subst hJ
       exact .inl ⟨(fun k b h => by cases h; exact ⟨10, by decide, rfl, d10⟩), .inl ⟨16, by decide, rfl, (.pointer (some ⟨gb, k, none⟩)), W0.drew, (by simp [go_sem, Act.eval, d14, d15, d10, hkn]), rfl, rfl⟩⟩
      ·have d16 : a.tmps.getD 31 undef = (.pointer (some ⟨gb, k, none⟩)) := fdn (hF 16 (by decide) (hr 16 (by kernel_rfl)))
       have d10 : a.tmps.getD 25 undef = (.bool true) := fdn (hF 10 (by decide) (hr 10 (by kernel_rfl)))
       subst hJ
       exact .inl ⟨(fun k b h => by cases h; exact ⟨10, by decide, rfl, d10⟩), .inl ⟨17, by decide, rfl, (.int .i64 z), W0.drew, (by simp [go_sem, Act.eval, d16, d10, cG]), rfl, rfl⟩⟩
      ·have d17 : a.tmps.getD 32 undef = (.int .i64 z) := fdn (hF 17 (by decide) (hr 17 (by kernel_rfl)))
       have d10 : a.tmps.getD 25 undef = (.bool true) := fdn (hF 10 (by decide) (hr 10 (by kernel_rfl)))
       subst hJ
       exact .inl ⟨(fun k b h => by cases h; exact ⟨10, by decide, rfl, d10⟩), .inl ⟨18, by decide, rfl, (.bool false), W0.drew, (by simp [go_sem, Act.eval, d17, d10, hzb]), rfl, rfl⟩⟩
      ·have d10 : a.tmps.getD 25 undef = (.bool true) := fdn (hF 10 (by decide) (hr 10 (by kernel_rfl)))
       have d18 : a.tmps.getD 33 undef = (.bool false) := fdn (hF 18 (by decide) (hr 18 (by kernel_rfl)))
       subst hJ
       exact .inl ⟨(fun k b h => by cases h), .inl ⟨19, by decide, rfl, (.bool false), W0.drew, (by simp [go_sem, Act.eval, d10, d18]), rfl, rfl⟩⟩
      ·have d19 : a.tmps.getD 34 undef = (.bool false) := fdn (hF 19 (by decide) (hr 19 (by kernel_rfl)))
       subst hJ
       exact .inl ⟨(fun k b h => by cases h), .inl ⟨20, by decide, rfl, (.bool false), W0.drew, (by simp [go_sem, Act.eval, d19]), rfl, rfl⟩⟩
      ·have d20 : a.tmps.getD 35 undef = (.bool false) := fdn (hF 20 (by decide) (hr 20 (by kernel_rfl)))
       have f2 : a.tmps.getD 2 undef = (.pointer (some ⟨p2, 0, none⟩)) := hf 2 (by kernel_rfl)
       subst hJ
       exact .inl ⟨(fun k b h => by cases h; exact ⟨20, by decide, rfl, d20⟩), .inl ⟨21, by decide, rfl, (.pointer (some ⟨fb, 0, none⟩)), W0.drew, (by simp [go_sem, Act.eval, d20, f2, cb2]), rfl, rfl⟩⟩
      ·have d21 : a.tmps.getD 36 undef = (.pointer (some ⟨fb, 0, none⟩)) := fdn (hF 21 (by decide) (hr 21 (by kernel_rfl)))
       have d20 : a.tmps.getD 35 undef = (.bool false) := fdn (hF 20 (by decide) (hr 20 (by kernel_rfl)))
       subst hJ
       exact .inl ⟨(fun k b h => by cases h; exact ⟨20, by decide, rfl, d20⟩), .inl ⟨22, by decide, rfl, (.pointer (some ⟨fb, 0, none⟩)), W0.drew, (by simp [go_sem, Act.eval, d21, d20]), rfl, rfl⟩⟩
      ·have d22 : a.tmps.getD 37 undef = (.pointer (some ⟨fb, 0, none⟩)) := fdn (hF 22 (by decide) (hr 22 (by kernel_rfl)))
       have d20 : a.tmps.getD 35 undef = (.bool false) := fdn (hF 20 (by decide) (hr 20 (by kernel_rfl)))
       subst hJ
       exact .inl ⟨(fun k b h => by cases h; exact ⟨20, by decide, rfl, d20⟩), .inl ⟨23, by decide, rfl, (.pointer (some ⟨fb, 1, none⟩)), W0.drew, (by simp [go_sem, Act.eval, d22, d20]), rfl, rfl⟩⟩
      ·have d23 : a.tmps.getD 38 undef = (.pointer (some ⟨fb, 1, none⟩)) := fdn (hF 23 (by decide) (hr 23 (by kernel_rfl)))
       have d20 : a.tmps.getD 35 undef = (.bool false) := fdn (hF 20 (by decide) (hr 20 (by kernel_rfl)))
       subst hJ
       exact .inl ⟨(fun k b h => by cases h; exact ⟨20, by decide, rfl, d20⟩), .inl ⟨24, by decide, rfl, (.slice (some ⟨bl, ol, none⟩) m cap), W0.drew, (by simp [go_sem, Act.eval, d23, d20, cl1]), rfl, rfl⟩⟩
      ·have d20 : a.tmps.getD 35 undef = (.bool false) := fdn (hF 20 (by decide) (hr 20 (by kernel_rfl)))
       have f6 : a.tmps.getD 6 undef = (.int .i64 (k : Int)) := hf 6 (by kernel_rfl)
       subst hJ
       exact .inl ⟨(fun k b h => by cases h; exact ⟨20, by decide, rfl, d20⟩), .inl ⟨25, by decide, rfl, (.int .i64 (k : Int)), W0.drew, (by simp [go_sem, Act.eval, d20, f6]), rfl, rfl⟩⟩
      ·have d24 : a.tmps.getD 39 undef = (.slice (some ⟨bl, ol, none⟩) m cap) := fdn (hF 24 (by decide) (hr 24 (by kernel_rfl)))
       have d25 : a.tmps.getD 40 undef = (.int .i64 (k : Int)) := fdn (hF 25 (by decide) (hr 25 (by kernel_rfl)))
       have d20 : a.tmps.getD 35 undef = (.bool false) := fdn (hF 20 (by decide) (hr 20 (by kernel_rfl)))
       subst hJ
       exact .inl ⟨(fun k b h => by cases h; exact ⟨20, by decide, rfl, d20⟩), .inl ⟨26, by decide, rfl, (.pointer (some ⟨bl, ol + k * 2, none⟩)), W0.drew, (by simp [go_sem, Act.eval, d24, d25, d20, hkn]), rfl, rfl⟩⟩
      ·have d26 : a.tmps.getD 41 undef = (.pointer (some ⟨bl, ol + k * 2, none⟩)) := fdn (hF 26 (by decide) (hr 26 (by kernel_rfl)))
       have d20 : a.tmps.getD 35 undef = (.bool false) := fdn (hF 20 (by decide) (hr 20 (by kernel_rfl)))
       subst hJ
       exact .inl ⟨(fun k b h => by cases h; exact ⟨20, by decide, rfl, d20⟩), .inl ⟨27, by decide, rfl, (.pointer (some ⟨bl, ol + k * 2 + 1, none⟩)), W0.drew, (by simp [go_sem, Act.eval, d26, d20]), rfl, rfl⟩⟩
      ·have d27 : a.tmps.getD 42 undef = (.pointer (some ⟨bl, ol + k * 2 + 1, none⟩)) := fdn (hF 27 (by decide) (hr 27 (by kernel_rfl)))
       have d20 : a.tmps.getD 35 undef = (.bool false) := fdn (hF 20 (by decide) (hr 20 (by kernel_rfl)))
       subst hJ
       exact .inl ⟨(fun k b h => by cases h; exact ⟨20, by decide, rfl, d20⟩), .inl ⟨28, by decide, rfl, (.int .i64 (y : Int)), W0.drew, (by simp [go_sem, Act.eval, d27, d20, cB]), rfl, rfl⟩⟩
      ·have d20 : a.tmps.getD 35 undef = (.bool false) := fdn (hF 20 (by decide) (hr 20 (by kernel_rfl)))
       have f3 : a.tmps.getD 3 undef = (.pointer (some ⟨p3, 0, none⟩)) := hf 3 (by kernel_rfl)
       subst hJ
       exact .inl ⟨(fun k b h => by cases h; exact ⟨20, by decide, rfl, d20⟩), .inl ⟨29, by decide, rfl, (.int .i64 (x : Int)), W0.drew, (by simp [go_sem, Act.eval, d20, f3, cb3]), rfl, rfl⟩⟩
      ·have d28 : a.tmps.getD 43 undef = (.int .i64 (y : Int)) := fdn (hF 28 (by decide) (hr 28 (by kernel_rfl)))
       have d29 : a.tmps.getD 44 undef = (.int .i64 (x : Int)) := fdn (hF 29 (by decide) (hr 29 (by kernel_rfl)))
       have d20 : a.tmps.getD 35 undef = (.bool false) := fdn (hF 20 (by decide) (hr 20 (by kernel_rfl)))
       subst hJ
       exact .inl ⟨(fun k b h => by cases h; exact ⟨20, by decide, rfl, d20⟩), .inl ⟨30, by decide, rfl, (.bool false), W0.drew, (by simp [go_sem, Act.eval, d28, d29, d20, hyb]), rfl, rfl⟩⟩
      ·have d30 : a.tmps.getD 45 undef = (.bool false) := fdn (hF 30 (by decide) (hr 30 (by kernel_rfl)))
       have d20 : a.tmps.getD 35 undef = (.bool false) := fdn (hF 20 (by decide) (hr 20 (by kernel_rfl)))
       subst hJ
       exact .inl ⟨(fun k b h => by cases h; exact ⟨20, by decide, rfl, d20⟩), .inl ⟨31, by decide, rfl, (.bool false), W0.drew, (by simp [go_sem, Act.eval, d30, d20]), rfl, rfl⟩⟩
      ·have d31 : a.tmps.getD 46 undef = (.bool false) := fdn (hF 31 (by decide) (hr 31 (by kernel_rfl)))
       subst hJ
       exact .inr ⟨31, true, 31, rfl, by decide, rfl, (nhB d31 rfl), .inl ⟨32, by decide, rfl, rfl, rfl⟩⟩
      ·have d31 : a.tmps.getD 46 undef = (.bool false) := fdn (hF 31 (by decide) (hr 31 (by kernel_rfl)))
       subst hJ
       exact .inr ⟨31, true, 31, rfl, by decide, rfl, (nhB d31 rfl), .inl ⟨33, by decide, rfl, rfl, rfl⟩⟩
      ·have d31 : a.tmps.getD 46 undef = (.bool false) := fdn (hF 31 (by decide) (hr 31 (by kernel_rfl)))
       subst hJ
       exact .inr ⟨31, true, 31, rfl, by decide, rfl, (nhB d31 rfl), .inl ⟨34, by decide, rfl, rfl, rfl⟩⟩
      ·have d31 : a.tmps.getD 46 undef = (.bool false) := fdn (hF 31 (by decide) (hr 31 (by kernel_rfl)))
       subst hJ
       exact .inr ⟨31, true, 31, rfl, by decide, rfl, (nhB d31 rfl), .inl ⟨35, by decide, rfl, rfl, rfl⟩⟩
      ·have d31 : a.tmps.getD 46 undef = (.bool false) := fdn (hF 31 (by decide) (hr 31 (by kernel_rfl)))
       subst hJ
       exact .inr ⟨31, true, 31, rfl, by decide, rfl, (nhB d31 rfl), .inl ⟨36, by decide, rfl, rfl, rfl⟩⟩
      ·have d31 : a.tmps.getD 46 undef = (.bool false) := fdn (hF 31 (by decide) (hr 31 (by kernel_rfl)))
       subst hJ
       exact .inr ⟨31, true, 31, rfl, by decide, rfl, (nhB d31 rfl), .inl ⟨37, by decide, rfl, rfl, rfl⟩⟩
      ·have d31 : a.tmps.getD 46 undef = (.bool false) := fdn (hF 31 (by decide) (hr 31 (by kernel_rfl)))
       subst hJ
       exact .inr ⟨31, true, 31, rfl, by decide, rfl, (nhB d31 rfl), .inl ⟨38, by decide, rfl, rfl, rfl⟩⟩
      ·have d31 : a.tmps.getD 46 undef = (.bool false) := fdn (hF 31 (by decide) (hr 31 (by kernel_rfl)))
       subst hJ
       exact .inr ⟨31, true, 31, rfl, by decide, rfl, (nhB d31 rfl), .inl ⟨39, by decide, rfl, rfl, rfl⟩⟩
      ·have d31 : a.tmps.getD 46 undef = (.bool false) := fdn (hF 31 (by decide) (hr 31 (by kernel_rfl)))
       have d20 : a.tmps.getD 35 undef = (.bool false) := fdn (hF 20 (by decide) (hr 20 (by kernel_rfl)))
       subst hJ
       exact .inl ⟨(fun k b h => by cases h; exact ⟨20, by decide, rfl, d20⟩), .inl ⟨40, by decide, rfl, (.bool false), W0.drew, (by simp [go_sem, Act.eval, d31, d20]), rfl, rfl⟩⟩
      ·have d20 : a.tmps.getD 35 undef = (.bool false) := fdn (hF 20 (by decide) (hr 20 (by kernel_rfl)))
       have d40 : a.tmps.getD 55 undef = (.bool false) := fdn (hF 40 (by decide) (hr 40 (by kernel_rfl)))
       subst hJ
       exact .inl ⟨(fun k b h => by cases h), .inl ⟨41, by decide, rfl, (.bool false), W0.drew, (by simp [go_sem, Act.eval, d20, d40]), rfl, rfl⟩⟩
     case finz =>
      intro d vs Wz hall hJ hF
      have h0 : vs 0 = (.pointer (some ⟨fb, 0, none⟩)) := hF 0 (by decide)
      have h1 : vs 1 = (.pointer (some ⟨fb, 0, none⟩)) := hF 1 (by decide)
      have h2 : vs 2 = (.pointer (some ⟨fb, 1, none⟩)) := hF 2 (by decide)
      have h3 : vs 3 = (.slice (some ⟨bl, ol, none⟩) m cap) := hF 3 (by decide)
      have h4 : vs 4 = (.int .i64 (k : Int)) := hF 4 (by decide)
      have h5 : vs 5 = (.pointer (some ⟨bl, ol + k * 2, none⟩)) := hF 5 (by decide)
      have h6 : vs 6 = (.pointer (some ⟨bl, ol + k * 2, none⟩)) := hF 6 (by decide)
      have h7 : vs 7 = (.int .i64 (x : Int)) := hF 7 (by decide)
      have h8 : vs 8 = (.int .i64 (x : Int)) := hF 8 (by decide)
      have h9 : vs 9 = (.bool true) := hF 9 (by decide)
      have h10 : vs 10 = (.bool true) := hF 10 (by decide)
      have h11 : vs 11 = (.pointer (some ⟨fb, 0, none⟩)) := hF 11 (by decide)
      have h12 : vs 12 = (.pointer (some ⟨fb, 0, none⟩)) := hF 12 (by decide)
      have h13 : vs 13 = (.pointer (some ⟨fb, 2, none⟩)) := hF 13 (by decide)
      have h14 : vs 14 = (.slice (some ⟨gb, 0, none⟩) m m) := hF 14 (by decide)
      have h15 : vs 15 = (.int .i64 (k : Int)) := hF 15 (by decide)
      have h16 : vs 16 = (.pointer (some ⟨gb, k, none⟩)) := hF 16 (by decide)
      have h17 : vs 17 = (.int .i64 z) := hF 17 (by decide)
      have h18 : vs 18 = (.bool false) := hF 18 (by decide)
      have h19 : vs 19 = (.bool false) := hF 19 (by decide)
      have h20 : vs 20 = (.bool false) := hF 20 (by decide)
      have h21 : vs 21 = (.pointer (some ⟨fb, 0, none⟩)) := hF 21 (by decide)
      have h22 : vs 22 = (.pointer (some ⟨fb, 0, none⟩)) := hF 22 (by decide)
      have h23 : vs 23 = (.pointer (some ⟨fb, 1, none⟩)) := hF 23 (by decide)
      have h24 : vs 24 = (.slice (some ⟨bl, ol, none⟩) m cap) := hF 24 (by decide)
      have h25 : vs 25 = (.int .i64 (k : Int)) := hF 25 (by decide)
      have h26 : vs 26 = (.pointer (some ⟨bl, ol + k * 2, none⟩)) := hF 26 (by decide)
      have h27 : vs 27 = (.pointer (some ⟨bl, ol + k * 2 + 1, none⟩)) := hF 27 (by decide)
      have h28 : vs 28 = (.int .i64 (y : Int)) := hF 28 (by decide)
      have h29 : vs 29 = (.int .i64 (x : Int)) := hF 29 (by decide)
      have h30 : vs 30 = (.bool false) := hF 30 (by decide)
      have h31 : vs 31 = (.bool false) := hF 31 (by decide)
      have h32 : vs 32 = undef := hF 32 (by decide)
      have h33 : vs 33 = undef := hF 33 (by decide)
      have h34 : vs 34 = undef := hF 34 (by decide)
      have h35 : vs 35 = undef := hF 35 (by decide)
      have h36 : vs 36 = undef := hF 36 (by decide)
      have h37 : vs 37 = undef := hF 37 (by decide)
      have h38 : vs 38 = undef := hF 38 (by decide)
      have h39 : vs 39 = undef := hF 39 (by decide)
      have h40 : vs 40 = (.bool false) := hF 40 (by decide)
      have h41 : vs 41 = (.bool false) := hF 41 (by decide)
      clear hF
      show (_ : Exit → Act → World → Prop) Exit.normal (puts _ vs 42 _) Wz
      simp only [puts, h0, h1, h2, h3, h4, h5, h6, h7, h8, h9, h10, h11, h12, h13, h14, h15, h16, h17, h18, h19, h20, h21, h22, h23, h24, h25, h26, h27, h28, h29, h30, h31, h32, h33, h34, h35, h36, h37, h38, h39, h40, h41, List.getD_cons_zero, List.getD_cons_succ]
      clear h0 h1 h2 h3 h4 h5 h6 h7 h8 h9 h10 h11 h12 h13 h14 h15 h16 h17 h18 h19 h20 h21 h22 h23 h24 h25 h26 h27 h28 h29 h30 h31 h32 h33 h34 h35 h36 h37 h38 h39 h40 h41
      subst hJ
      simp only [Act.put, List.setIfInBounds_toArray, List.set_cons_succ, List.set_cons_zero]
      have HD0 := Lib.hid (HRI1.out.below (bdN W0.heap.size W0 1))
      clear hall cb2 cb3 cl1 cl2 cG cA cB
      gi_wp2_with (fail)
      exact ⟨⟨Nat.le_refl _, fun _ _ h _ => h⟩, HD0.out.skip HE.out⟩
   ·have hyv : y = v := hxy.resolve_left hxv
    have hxb : ((x : Int) == (v : Int)) = false := by rw [beq_eq_false_iff_ne]; omega
    by_cases hz1 : z = -1
    ·have HE : Hid (folP L g v (u, k) = true) := by show _ = _; rw [HPP.out]; simp [hyv, hz1]
     subst hz1
     subst hyv
     gi_wp2_with (fail)
     refine wpIn_flowM (F0 := (Fence.wide.inRound yl)) (n0 := 3) (fun _ => trivial) (fun h => by cases h) (by kernel_rfl) (by kernel_rfl) 42 42 (by kernel_rfl) (fun j => ([0, 1, 2, 3, 4, 5, 6, 7, 8, 9, 10, 11, 12, 13, 14, 15, 16, 17, 18, 19, 20, 21, 22, 23, 24, 25, 26, 27, 28, 29, 30, 31, 32, 33, 34, 35, 36, 37, 38, 39, 40, 41] : List Nat).getD j 0) (fun j => ([15, 16, 17, 18, 19, 20, 21, 22, 23, 24, 25, 26, 27, 28, 29, 30, 31, 32, 33, 34, 35, 36, 37, 38, 39, 40, 41, 42, 43, 44, 45, 46, 47, 48, 49, 50, 51, 52, 53, 54, 55, 56] : List Nat).getD j 0) (by kernel_rfl) (by kernel_rfl) (by kernel_rfl) (by kernel_rfl) (by kernel_rfl) (by kernel_rfl) (by kernel_rfl) (fun j zv => ([(fun zv => zv = (.pointer (some ⟨fb, 0, none⟩))), (fun zv => zv = (.pointer (some ⟨fb, 0, none⟩))), (fun zv => zv = (.pointer (some ⟨fb, 1, none⟩))), (fun zv => zv = (.slice (some ⟨bl, ol, none⟩) m cap)), (fun zv => zv = (.int .i64 (k : Int))), (fun zv => zv = (.pointer (some ⟨bl, ol + k * 2, none⟩))), (fun zv => zv = (.pointer (some ⟨bl, ol + k * 2, none⟩))), (fun zv => zv = (.int .i64 (x : Int))), (fun zv => zv = (.int .i64 (y : Int))), (fun zv => zv = (.bool false)), (fun zv => zv = (.bool false)), (fun zv => zv = undef), (fun zv => zv = undef), (fun zv => zv = undef), (fun zv => zv = undef), (fun zv => zv = undef), (fun zv => zv = undef), (fun zv => zv = undef), (fun zv => zv = undef), (fun zv => zv = (.bool false)), (fun zv => zv = (.bool false)), (fun zv => zv = (.pointer (some ⟨fb, 0, none⟩))), (fun zv => zv = (.pointer (some ⟨fb, 0, none⟩))), (fun zv => zv = (.pointer (some ⟨fb, 1, none⟩))), (fun zv => zv = (.slice (some ⟨bl, ol, none⟩) m cap)), (fun zv => zv = (.int .i64 (k : Int))), (fun zv => zv = (.pointer (some ⟨bl, ol + k * 2, none⟩))), (fun zv => zv = (.pointer (some ⟨bl, ol + k * 2 + 1, none⟩))), (fun zv => zv = (.int .i64 (y : Int))), (fun zv => zv = (.int .i64 (y : Int))), (fun zv => zv = (.bool true)), (fun zv => zv = (.bool true)), (fun zv => zv = (.pointer (some ⟨fb, 0, none⟩))), (fun zv => zv = (.pointer (some ⟨fb, 0, none⟩))), (fun zv => zv = (.pointer (some ⟨fb, 2, none⟩))), (fun zv => zv = (.slice (some ⟨gb, 0, none⟩) m m)), (fun zv => zv = (.int .i64 (k : Int))), (fun zv => zv = (.pointer (some ⟨gb, k, none⟩))), (fun zv => zv = (.int .i64 (-1))), (fun zv => zv = (.bool true)), (fun zv => zv = (.bool true)), (fun zv => zv = (.bool true))] : List (Value → Prop)).getD j (fun _ => True) zv) (fun _ _ W => W = W0.drew) ?h0u ?stepu ?finu
     case h0u => exact fun _ => rfl
     case stepu =>
      intro i o a W d vs hi ho hdi hJ hf hr hF
      replace hi : i < 42 := hi
      rcases (show i = 0 ∨ i = 1 ∨ i = 2 ∨ i = 3 ∨ i = 4 ∨ i = 5 ∨ i = 6 ∨ i = 7 ∨ i = 8 ∨ i = 9 ∨ i = 10 ∨ i = 11 ∨ i = 12 ∨ i = 13 ∨ i = 14 ∨ i = 15 ∨ i = 16 ∨ i = 17 ∨ i = 18 ∨ i = 19 ∨ i = 20 ∨ i = 21 ∨ i = 22 ∨ i = 23 ∨ i = 24 ∨ i = 25 ∨ i = 26 ∨ i = 27 ∨ i = 28 ∨ i = 29 ∨ i = 30 ∨ i = 31 ∨ i = 32 ∨ i = 33 ∨ i = 34 ∨ i = 35 ∨ i = 36 ∨ i = 37 ∨ i = 38 ∨ i = 39 ∨ i = 40 ∨ i = 41 by omega) with rfl | rfl | rfl | rfl | rfl | rfl | rfl | rfl | rfl | rfl | rfl | rfl | rfl | rfl | rfl | rfl | rfl | rfl | rfl | rfl | rfl | rfl | rfl | rfl | rfl | rfl | rfl | rfl | rfl | rfl | rfl | rfl | rfl | rfl | rfl | rfl | rfl | rfl | rfl | rfl | rfl | rfl
      all_goals
       replace ho := op_at ho (by rfl)
       subst ho
      ·have f2 : a.tmps.getD 2 undef = (.pointer (some ⟨p2, 0, none⟩)) := hf 2 (by kernel_rfl)
       subst hJ
       exact .inl ⟨(fun k b h => by cases h), .inl ⟨0, by decide, rfl, (.pointer (some ⟨fb, 0, none⟩)), W0.drew, (by simp [go_sem, Act.eval, f2, cb2]), rfl, rfl⟩⟩
      ·have d0 : a.tmps.getD 15 undef = (.pointer (some ⟨fb, 0, none⟩)) := fdn (hF 0 (by decide) (hr 0 (by kernel_rfl)))
       subst hJ
       exact .inl ⟨(fun k b h => by cases h), .inl ⟨1, by decide, rfl, (.pointer (some ⟨fb, 0, none⟩)), W0.drew, (by simp [go_sem, Act.eval, d0]), rfl, rfl⟩⟩
      ·have d1 : a.tmps.getD 16 undef = (.pointer (some ⟨fb, 0, none⟩)) := fdn (hF 1 (by decide) (hr 1 (by kernel_rfl)))
       subst hJ
       exact .inl ⟨(fun k b h => by cases h), .inl ⟨2, by decide, rfl, (.pointer (some ⟨fb, 1, none⟩)), W0.drew, (by simp [go_sem, Act.eval, d1]), rfl, rfl⟩⟩
      ·have d2 : a.tmps.getD 17 undef = (.pointer (some ⟨fb, 1, none⟩)) := fdn (hF 2 (by decide) (hr 2 (by kernel_rfl)))
       subst hJ
       exact .inl ⟨(fun k b h => by cases h), .inl ⟨3, by decide, rfl, (.slice (some ⟨bl, ol, none⟩) m cap), W0.drew, (by simp [go_sem, Act.eval, d2, cl1]), rfl, rfl⟩⟩
      ·have f6 : a.tmps.getD 6 undef = (.int .i64 (k : Int)) := hf 6 (by kernel_rfl)
       subst hJ
       exact .inl ⟨(fun k b h => by cases h), .inl ⟨4, by decide, rfl, (.int .i64 (k : Int)), W0.drew, (by simp [go_sem, Act.eval, f6]), rfl, rfl⟩⟩
      ·have d3 : a.tmps.getD 18 undef = (.slice (some ⟨bl, ol, none⟩) m cap) := fdn (hF 3 (by decide) (hr 3 (by kernel_rfl)))
       have d4 : a.tmps.getD 19 undef = (.int .i64 (k : Int)) := fdn (hF 4 (by decide) (hr 4 (by kernel_rfl)))
       subst hJ
       exact .inl ⟨(fun k b h => by cases h), .inl ⟨5, by decide, rfl, (.pointer (some ⟨bl, ol + k * 2, none⟩)), W0.drew, (by simp [go_sem, Act.eval, d3, d4, hkn]), rfl, rfl⟩⟩
      ·have d5 : a.tmps.getD 20 undef = (.pointer (some ⟨bl, ol + k * 2, none⟩)) := fdn (hF 5 (by decide) (hr 5 (by kernel_rfl)))
       subst hJ
       exact .inl ⟨(fun k b h => by cases h), .inl ⟨6, by decide, rfl, (.pointer (some ⟨bl, ol + k * 2, none⟩)), W0.drew, (by simp [go_sem, Act.eval, d5]), rfl, rfl⟩⟩
      ·have d6 : a.tmps.getD 21 undef = (.pointer (some ⟨bl, ol + k * 2, none⟩)) := fdn (hF 6 (by decide) (hr 6 (by kernel_rfl)))
       subst hJ
       exact .inl ⟨(fun k b h => by cases h), .inl ⟨7, by decide, rfl, (.int .i64 (x : Int)), W0.drew, (by simp [go_sem, Act.eval, d6, cA]), rfl, rfl⟩⟩
      ·have f3 : a.tmps.getD 3 undef = (.pointer (some ⟨p3, 0, none⟩)) := hf 3 (by kernel_rfl)
       subst hJ
       exact .inl ⟨(fun k b h => by cases h), .inl ⟨8, by decide, rfl, (.int .i64 (y : Int)), W0.drew, (by simp [go_sem, Act.eval, f3, cb3]), rfl, rfl⟩⟩
      ·have d7 : a.tmps.getD 22 undef = (.int .i64 (x : Int)) := fdn (hF 7 (by decide) (hr 7 (by kernel_rfl)))
       have d8 : a.tmps.getD 23 undef = (.int .i64 (y : Int)) := fdn (hF 8 (by decide) (hr 8 (by kernel_rfl)))
       subst hJ
       exact .inl ⟨(fun k b h => by cases h), .inl ⟨9, by decide, rfl, (.bool false), W0.drew, (by simp [go_sem, Act.eval, d7, d8, hxb]), rfl, rfl⟩⟩
      ·have d9 : a.tmps.getD 24 undef = (.bool false) := fdn (hF 9 (by decide) (hr 9 (by kernel_rfl)))
       subst hJ
       exact .inl ⟨(fun k b h => by cases h), .inl ⟨10, by decide, rfl, (.bool false), W0.drew, (by simp [go_sem, Act.eval, d9]), rfl, rfl⟩⟩
      ·have d10 : a.tmps.getD 25 undef = (.bool false) := fdn (hF 10 (by decide) (hr 10 (by kernel_rfl)))
       subst hJ
       exact .inr ⟨10, true, 10, rfl, by decide, rfl, (nhB d10 rfl), .inl ⟨11, by decide, rfl, rfl, rfl⟩⟩
      ·have d10 : a.tmps.getD 25 undef = (.bool false) := fdn (hF 10 (by decide) (hr 10 (by kernel_rfl)))
       subst hJ
       exact .inr ⟨10, true, 10, rfl, by decide, rfl, (nhB d10 rfl), .inl ⟨12, by decide, rfl, rfl, rfl⟩⟩
      ·have d10 : a.tmps.getD 25 undef = (.bool false) := fdn (hF 10 (by decide) (hr 10 (by kernel_rfl)))
       subst hJ
       exact .inr ⟨10, true, 10, rfl, by decide, rfl, (nhB d10 rfl), .inl ⟨13, by decide, rfl, rfl, rfl⟩⟩
      ·have d10 : a.tmps.getD 25 undef = (.bool false) := fdn (hF 10 (by decide) (hr 10 (by kernel_rfl)))
       subst hJ
       exact .inr ⟨10, true, 10, rfl, by decide, rfl, (nhB d10 rfl), .inl ⟨14, by decide, rfl, rfl, rfl⟩⟩
      ·have d10 : a.tmps.getD 25 undef = (.bool false) := fdn (hF 10 (by decide) (hr 10 (by kernel_rfl)))
       subst hJ
       exact .inr ⟨10, true, 10, rfl, by decide, rfl, (nhB d10 rfl), .inl ⟨15, by decide, rfl, rfl, rfl⟩⟩
      ·have d10 : a.tmps.getD 25 undef = (.bool false) := fdn (hF 10 (by decide) (hr 10 (by kernel_rfl)))
       subst hJ
       exact .inr ⟨10, true, 10, rfl, by decide, rfl, (nhB d10 rfl), .inl ⟨16, by decide, rfl, rfl, rfl⟩⟩
      ·have d10 : a.tmps.getD 25 undef = (.bool false) := fdn (hF 10 (by decide) (hr 10 (by kernel_rfl)))
       subst hJ
       exact .inr ⟨10, true, 10, rfl, by decide, rfl, (nhB d10 rfl), .inl ⟨17, by decide, rfl, rfl, rfl⟩⟩
      ·have d10 : a.tmps.getD 25 undef = (.bool false) := fdn (hF 10 (by decide) (hr 10 (by kernel_rfl)))
       subst hJ
       exact .inr ⟨10, true, 10, rfl, by decide, rfl, (nhB d10 rfl), .inl ⟨18, by decide, rfl, rfl, rfl⟩⟩
      ·have d10 : a.tmps.getD 25 undef = (.bool false) := fdn (hF 10 (by decide) (hr 10 (by kernel_rfl)))
       subst hJ
       exact .inl ⟨(fun k b h => by cases h), .inl ⟨19, by decide, rfl, (.bool false), W0.drew, (by simp [go_sem, Act.eval, d10]), rfl, rfl⟩⟩
      ·have d19 : a.tmps.getD 34 undef = (.bool false) := fdn (hF 19 (by decide) (hr 19 (by kernel_rfl)))
       subst hJ
       exact .inl ⟨(fun k b h => by cases h), .inl ⟨20, by decide, rfl, (.bool false), W0.drew, (by simp [go_sem, Act.eval, d19]), rfl, rfl⟩⟩
      ·have d20 : a.tmps.getD 35 undef = (.bool false) := fdn (hF 20 (by decide) (hr 20 (by kernel_rfl)))
       have f2 : a.tmps.getD 2 undef = (.pointer (some ⟨p2, 0, none⟩)) := hf 2 (by kernel_rfl)
       subst hJ
       exact .inl ⟨(fun k b h => by cases h; exact ⟨20, by decide, rfl, d20⟩), .inl ⟨21, by decide, rfl, (.pointer (some ⟨fb, 0, none⟩)), W0.drew, (by simp [go_sem, Act.eval, d20, f2, cb2]), rfl, rfl⟩⟩
      ·have d21 : a.tmps.getD 36 undef = (.pointer (some ⟨fb, 0, none⟩)) := fdn (hF 21 (by decide) (hr 21 (by kernel_rfl)))
       have d20 : a.tmps.getD 35 undef = (.bool false) := fdn (hF 20 (by decide) (hr 20 (by kernel_rfl)))
       subst hJ
       exact .inl ⟨(fun k b h => by cases h; exact ⟨20, by decide, rfl, d20⟩), .inl ⟨22, by decide, rfl, (.pointer (some ⟨fb, 0, none⟩)), W0.drew, (by simp [go_sem, Act.eval, d21, d20]), rfl, rfl⟩⟩
      ·have d22 : a.tmps.getD 37 undef = (.pointer (some ⟨fb, 0, none⟩)) := fdn (hF 22 (by decide) (hr 22 (by kernel_rfl)))
       have d20 : a.tmps.getD 35 undef = (.bool false) := fdn (hF 20 (by decide) (hr 20 (by kernel_rfl)))
       subst hJ
       exact .inl ⟨(fun k b h => by cases h; exact ⟨20, by decide, rfl, d20⟩), .inl ⟨23, by decide, rfl, (.pointer (some ⟨fb, 1, none⟩)), W0.drew, (by simp [go_sem, Act.eval, d22, d20]), rfl, rfl⟩⟩
      ·have d23 : a.tmps.getD 38 undef = (.pointer (some ⟨fb, 1, none⟩)) := fdn (hF 23 (by decide) (hr 23 (by kernel_rfl)))
       have d20 : a.tmps.getD 35 undef = (.bool false) := fdn (hF 20 (by decide) (hr 20 (by kernel_rfl)))
       subst hJ
       exact .inl ⟨(fun k b h => by cases h; exact ⟨20, by decide, rfl, d20⟩), .inl ⟨24, by decide, rfl, (.slice (some ⟨bl, ol, none⟩) m cap), W0.drew, (by simp [go_sem, Act.eval, d23, d20, cl1]), rfl, rfl⟩⟩
      ·have d20 : a.tmps.getD 35 undef = (.bool false) := fdn (hF 20 (by decide) (hr 20 (by kernel_rfl)))
       have f6 : a.tmps.getD 6 undef = (.int .i64 (k : Int)) := hf 6 (by kernel_rfl)
       subst hJ
       exact .inl ⟨(fun k b h => by cases h; exact ⟨20, by decide, rfl, d20⟩), .inl ⟨25, by decide, rfl, (.int .i64 (k : Int)), W0.drew, (by simp [go_sem, Act.eval, d20, f6]), rfl, rfl⟩⟩
      ·have d24 : a.tmps.getD 39 undef = (.slice (some ⟨bl, ol, none⟩) m cap) := fdn (hF 24 (by decide) (hr 24 (by kernel_rfl)))
       have d25 : a.tmps.getD 40 undef = (.int .i64 (k : Int)) := fdn (hF 25 (by decide) (hr 25 (by kernel_rfl)))
       have d20 : a.tmps.getD 35 undef = (.bool false) := fdn (hF 20 (by decide) (hr 20 (by kernel_rfl)))
       subst hJ
       exact .inl ⟨(fun k b h => by cases h; exact ⟨20, by decide, rfl, d20⟩), .inl ⟨26, by decide, rfl, (.pointer (some ⟨bl, ol + k * 2, none⟩)), W0.drew, (by simp [go_sem, Act.eval, d24, d25, d20, hkn]), rfl, rfl⟩⟩
      ·have d26 : a.tmps.getD 41 undef = (.pointer (some ⟨bl, ol + k * 2, none⟩)) := fdn (hF 26 (by decide) (hr 26 (by kernel_rfl)))
       have d20 : a.tmps.getD 35 undef = (.bool false) := fdn (hF 20 (by decide) (hr 20 (by kernel_rfl)))
       subst hJ
       exact .inl ⟨(fun k b h => by cases h; exact ⟨20, by decide, rfl, d20⟩), .inl ⟨27, by decide, rfl, (.pointer (some ⟨bl, ol + k * 2 + 1, none⟩)), W0.drew, (by simp [go_sem, Act.eval, d26, d20]), rfl, rfl⟩⟩
      ·have d27 : a.tmps.getD 42 undef = (.pointer (some ⟨bl, ol + k * 2 + 1, none⟩)) := fdn (hF 27 (by decide) (hr 27 (by kernel_rfl)))
       have d20 : a.tmps.getD 35 undef = (.bool false) := fdn (hF 20 (by decide) (hr 20 (by kernel_rfl)))
       subst hJ
       exact .inl ⟨(fun k b h => by cases h; exact ⟨20, by decide, rfl, d20⟩), .inl ⟨28, by decide, rfl, (.int .i64 (y : Int)), W0.drew, (by simp [go_sem, Act.eval, d27, d20, cB]), rfl, rfl⟩⟩
      ·have d20 : a.tmps.getD 35 undef = (.bool false) := fdn (hF 20 (by decide) (hr 20 (by kernel_rfl)))
       have f3 : a.tmps.getD 3 undef = (.pointer (some ⟨p3, 0, none⟩)) := hf 3 (by kernel_rfl)
       subst hJ
       exact .inl ⟨(fun k b h => by cases h; exact ⟨20, by decide, rfl, d20⟩), .inl ⟨29, by decide, rfl, (.int .i64 (y : Int)), W0.drew, (by simp [go_sem, Act.eval, d20, f3, cb3]), rfl, rfl⟩⟩
      ·have d28 : a.tmps.getD 43 undef = (.int .i64 (y : Int)) := fdn (hF 28 (by decide) (hr 28 (by kernel_rfl)))
       have d29 : a.tmps.getD 44 undef = (.int .i64 (y : Int)) := fdn (hF 29 (by decide) (hr 29 (by kernel_rfl)))
       have d20 : a.tmps.getD 35 undef = (.bool false) := fdn (hF 20 (by decide) (hr 20 (by kernel_rfl)))
       subst hJ
       exact .inl ⟨(fun k b h => by cases h; exact ⟨20, by decide, rfl, d20⟩), .inl ⟨30, by decide, rfl, (.bool true), W0.drew, (by simp [go_sem, Act.eval, d28, d29, d20]), rfl, rfl⟩⟩
      ·have d30 : a.tmps.getD 45 undef = (.bool true) := fdn (hF 30 (by decide) (hr 30 (by kernel_rfl)))
       have d20 : a.tmps.getD 35 undef = (.bool false) := fdn (hF 20 (by decide) (hr 20 (by kernel_rfl)))
       subst hJ
       exact .inl ⟨(fun k b h => by cases h; exact ⟨20, by decide, rfl, d20⟩), .inl ⟨31, by decide, rfl, (.bool true), W0.drew, (by simp [go_sem, Act.eval, d30, d20]), rfl, rfl⟩⟩
      ·have d31 : a.tmps.getD 46 undef = (.bool true) := fdn (hF 31 (by decide) (hr 31 (by kernel_rfl)))
       have f2 : a.tmps.getD 2 undef = (.pointer (some ⟨p2, 0, none⟩)) := hf 2 (by kernel_rfl)
       subst hJ
       exact .inl ⟨(fun k b h => by cases h; exact ⟨31, by decide, rfl, d31⟩), .inl ⟨32, by decide, rfl, (.pointer (some ⟨fb, 0, none⟩)), W0.drew, (by simp [go_sem, Act.eval, d31, f2, cb2]), rfl, rfl⟩⟩
      ·have d32 : a.tmps.getD 47 undef = (.pointer (some ⟨fb, 0, none⟩)) := fdn (hF 32 (by decide) (hr 32 (by kernel_rfl)))
       have d31 : a.tmps.getD 46 undef = (.bool true) := fdn (hF 31 (by decide) (hr 31 (by kernel_rfl)))
       subst hJ
       exact .inl ⟨(fun k b h => by cases h; exact ⟨31, by decide, rfl, d31⟩), .inl ⟨33, by decide, rfl, (.pointer (some ⟨fb, 0, none⟩)), W0.drew, (by simp [go_sem, Act.eval, d32, d31]), rfl, rfl⟩⟩
      ·have d33 : a.tmps.getD 48 undef = (.pointer (some ⟨fb, 0, none⟩)) := fdn (hF 33 (by decide) (hr 33 (by kernel_rfl)))
       have d31 : a.tmps.getD 46 undef = (.bool true) := fdn (hF 31 (by decide) (hr 31 (by kernel_rfl)))
       subst hJ
       exact .inl ⟨(fun k b h => by cases h; exact ⟨31, by decide, rfl, d31⟩), .inl ⟨34, by decide, rfl, (.pointer (some ⟨fb, 2, none⟩)), W0.drew, (by simp [go_sem, Act.eval, d33, d31]), rfl, rfl⟩⟩
      ·have d34 : a.tmps.getD 49 undef = (.pointer (some ⟨fb, 2, none⟩)) := fdn (hF 34 (by decide) (hr 34 (by kernel_rfl)))
       have d31 : a.tmps.getD 46 undef = (.bool true) := fdn (hF 31 (by decide) (hr 31 (by kernel_rfl)))
       subst hJ
       exact .inl ⟨(fun k b h => by cases h; exact ⟨31, by decide, rfl, d31⟩), .inl ⟨35, by decide, rfl, (.slice (some ⟨gb, 0, none⟩) m m), W0.drew, (by simp [go_sem, Act.eval, d34, d31, cl2]), rfl, rfl⟩⟩
      ·have d31 : a.tmps.getD 46 undef = (.bool true) := fdn (hF 31 (by decide) (hr 31 (by kernel_rfl)))
       have f6 : a.tmps.getD 6 undef = (.int .i64 (k : Int)) := hf 6 (by kernel_rfl)
       subst hJ
       exact .inl ⟨(fun k b h => by cases h; exact ⟨31, by decide, rfl, d31⟩), .inl ⟨36, by decide, rfl, (.int .i64 (k : Int)), W0.drew, (by simp [go_sem, Act.eval, d31, f6]), rfl, rfl⟩⟩
      ·have d35 : a.tmps.getD 50 undef = (.slice (some ⟨gb, 0, none⟩) m m) := fdn (hF 35 (by decide) (hr 35 (by kernel_rfl)))
       have d36 : a.tmps.getD 51 undef = (.int .i64 (k : Int)) := fdn (hF 36 (by decide) (hr 36 (by kernel_rfl)))
       have d31 : a.tmps.getD 46 undef = (.bool true) := fdn (hF 31 (by decide) (hr 31 (by kernel_rfl)))
       subst hJ
       exact .inl ⟨(fun k b h => by cases h; exact ⟨31, by decide, rfl, d31⟩), .inl ⟨37, by decide, rfl, (.pointer (some ⟨gb, k, none⟩)), W0.drew, (by simp [go_sem, Act.eval, d35, d36, d31, hkn]), rfl, rfl⟩⟩
      ·have d37 : a.tmps.getD 52 undef = (.pointer (some ⟨gb, k, none⟩)) := fdn (hF 37 (by decide) (hr 37 (by kernel_rfl)))
       have d31 : a.tmps.getD 46 undef = (.bool true) := fdn (hF 31 (by decide) (hr 31 (by kernel_rfl)))
       subst hJ
       exact .inl ⟨(fun k b h => by cases h; exact ⟨31, by decide, rfl, d31⟩), .inl ⟨38, by decide, rfl, (.int .i64 (-1)), W0.drew, (by simp [go_sem, Act.eval, d37, d31, cG]), rfl, rfl⟩⟩
      ·have d38 : a.tmps.getD 53 undef = (.int .i64 (-1)) := fdn (hF 38 (by decide) (hr 38 (by kernel_rfl)))
       have d31 : a.tmps.getD 46 undef = (.bool true) := fdn (hF 31 (by decide) (hr 31 (by kernel_rfl)))
       subst hJ
       exact .inl ⟨(fun k b h => by cases h; exact ⟨31, by decide, rfl, d31⟩), .inl ⟨39, by decide, rfl, (.bool true), W0.drew, (by simp [go_sem, Act.eval, d38, d31]), rfl, rfl⟩⟩
      ·have d31 : a.tmps.getD 46 undef = (.bool true) := fdn (hF 31 (by decide) (hr 31 (by kernel_rfl)))
       have d39 : a.tmps.getD 54 undef = (.bool true) := fdn (hF 39 (by decide) (hr 39 (by kernel_rfl)))
       have d20 : a.tmps.getD 35 undef = (.bool false) := fdn (hF 20 (by decide) (hr 20 (by kernel_rfl)))
       subst hJ
       exact .inl ⟨(fun k b h => by cases h; exact ⟨20, by decide, rfl, d20⟩), .inl ⟨40, by decide, rfl, (.bool true), W0.drew, (by simp [go_sem, Act.eval, d31, d39, d20]), rfl, rfl⟩⟩
      ·have d20 : a.tmps.getD 35 undef = (.bool false) := fdn (hF 20 (by decide) (hr 20 (by kernel_rfl)))
       have d40 : a.tmps.getD 55 undef = (.bool true) := fdn (hF 40 (by decide) (hr 40 (by kernel_rfl)))
       subst hJ
       exact .inl ⟨(fun k b h => by cases h), .inl ⟨41, by decide, rfl, (.bool true), W0.drew, (by simp [go_sem, Act.eval, d20, d40]), rfl, rfl⟩⟩
     case finu =>
      intro d vs Wu hall hJ hF
      have h0 : vs 0 = (.pointer (some ⟨fb, 0, none⟩)) := hF 0 (by decide)
      have h1 : vs 1 = (.pointer (some ⟨fb, 0, none⟩)) := hF 1 (by decide)
      have h2 : vs 2 = (.pointer (some ⟨fb, 1, none⟩)) := hF 2 (by decide)
      have h3 : vs 3 = (.slice (some ⟨bl, ol, none⟩) m cap) := hF 3 (by decide)
      have h4 : vs 4 = (.int .i64 (k : Int)) := hF 4 (by decide)
      have h5 : vs 5 = (.pointer (some ⟨bl, ol + k * 2, none⟩)) := hF 5 (by decide)
      have h6 : vs 6 = (.pointer (some ⟨bl, ol + k * 2, none⟩)) := hF 6 (by decide)
      have h7 : vs 7 = (.int .i64 (x : Int)) := hF 7 (by decide)
      have h8 : vs 8 = (.int .i64 (y : Int)) := hF 8 (by decide)
      have h9 : vs 9 = (.bool false) := hF 9 (by decide)
      have h10 : vs 10 = (.bool false) := hF 10 (by decide)
      have h11 : vs 11 = undef := hF 11 (by decide)
      have h12 : vs 12 = undef := hF 12 (by decide)
      have h13 : vs 13 = undef := hF 13 (by decide)
      have h14 : vs 14 = undef := hF 14 (by decide)
      have h15 : vs 15 = undef := hF 15 (by decide)
      have h16 : vs 16 = undef := hF 16 (by decide)
      have h17 : vs 17 = undef := hF 17 (by decide)
      have h18 : vs 18 = undef := hF 18 (by decide)
      have h19 : vs 19 = (.bool false) := hF 19 (by decide)
      have h20 : vs 20 = (.bool false) := hF 20 (by decide)
      have h21 : vs 21 = (.pointer (some ⟨fb, 0, none⟩)) := hF 21 (by decide)
      have h22 : vs 22 = (.pointer (some ⟨fb, 0, none⟩)) := hF 22 (by decide)
      have h23 : vs 23 = (.pointer (some ⟨fb, 1, none⟩)) := hF 23 (by decide)
      have h24 : vs 24 = (.slice (some ⟨bl, ol, none⟩) m cap) := hF 24 (by decide)
      have h25 : vs 25 = (.int .i64 (k : Int)) := hF 25 (by decide)
      have h26 : vs 26 = (.pointer (some ⟨bl, ol + k * 2, none⟩)) := hF 26 (by decide)
      have h27 : vs 27 = (.pointer (some ⟨bl, ol + k * 2 + 1, none⟩)) := hF 27 (by decide)
      have h28 : vs 28 = (.int .i64 (y : Int)) := hF 28 (by decide)
      have h29 : vs 29 = (.int .i64 (y : Int)) := hF 29 (by decide)
      have h30 : vs 30 = (.bool true) := hF 30 (by decide)
      have h31 : vs 31 = (.bool true) := hF 31 (by decide)
      have h32 : vs 32 = (.pointer (some ⟨fb, 0, none⟩)) := hF 32 (by decide)
      have h33 : vs 33 = (.pointer (some ⟨fb, 0, none⟩)) := hF 33 (by decide)
      have h34 : vs 34 = (.pointer (some ⟨fb, 2, none⟩)) := hF 34 (by decide)
      have h35 : vs 35 = (.slice (some ⟨gb, 0, none⟩) m m) := hF 35 (by decide)
      have h36 : vs 36 = (.int .i64 (k : Int)) := hF 36 (by decide)
      have h37 : vs 37 = (.pointer (some ⟨gb, k, none⟩)) := hF 37 (by decide)
      have h38 : vs 38 = (.int .i64 (-1)) := hF 38 (by decide)
      have h39 : vs 39 = (.bool true) := hF 39 (by decide)
      have h40 : vs 40 = (.bool true) := hF 40 (by decide)
      have h41 : vs 41 = (.bool true) := hF 41 (by decide)
      clear hF
      show (_ : Exit → Act → World → Prop) Exit.normal (puts _ vs 42 _) Wu
      simp only [puts, h0, h1, h2, h3, h4, h5, h6, h7, h8, h9, h10, h11, h12, h13, h14, h15, h16, h17, h18, h19, h20, h21, h22, h23, h24, h25, h26, h27, h28, h29, h30, h31, h32, h33, h34, h35, h36, h37, h38, h39, h40, h41, List.getD_cons_zero, List.getD_cons_succ]
      clear h0 h1 h2 h3 h4 h5 h6 h7 h8 h9 h10 h11 h12 h13 h14 h15 h16 h17 h18 h19 h20 h21 h22 h23 h24 h25 h26 h27 h28 h29 h30 h31 h32 h33 h34 h35 h36 h37 h38 h39 h40 h41
      subst hJ
      simp only [Act.put, List.setIfInBounds_toArray, List.set_cons_succ, List.set_cons_zero]
      obtain ⟨Wd, hWd⟩ : ∃ Wd, Wd = W0.drew := ⟨_, rfl⟩
      have HD0 := Lib.hid (HRI1.out.below (bdN W0.heap.size W0 1))
      have HKO : Hid (KeepsOthers W0 Wd) := by show KeepsOthers _ _; rw [hWd]; exact ⟨Nat.le_refl _, fun _ _ h _ => h⟩
      have hd1 : W0.drewN 1 = Wd := by rw [hWd]; rfl
      rw [hd1] at HD0
      rw [← hWd] at cb2 cb3 cl1 cl2 cG cA cB ⊢
      have fG := HD0.out.fw.row.frozen k
      have cb4 := cell_of_row _ _ 0 _ _ _ HD0.out.b4
      have fb4 := frozen_of_row _ _ 0 _ _ HD0.out.b4
      have hg4 : gb ≠ p4 := by have := HFL.out; have := HPS.out; omega
      clear hWd hd1 hall
      gi_wp2_with (fail)
      have hR2 := HFIN.out HE.out
      rw [hR2]
      exact ⟨HKO.out.trans ((KeepsOthers.setCell _ ⟨gb, k, none⟩ _).trans (KeepsOthers.setCell _ ⟨p4, 0, none⟩ _)), rfl, HD0.out.fin HBW.out HFL.out⟩
    ·have HE : Hid (folP L g v (u, k) = false) := by show _ = _; rw [HPP.out]; simp [hxv, hz1]
     have hzb : (z == -1) = false := by simpa using hz1
     subst hyv
     gi_wp2_with (fail)
     refine wpIn_flowM (F0 := (Fence.wide.inRound yl)) (n0 := 3) (fun _ => trivial) (fun h => by cases h) (by kernel_rfl) (by kernel_rfl) 42 42 (by kernel_rfl) (fun j => ([0, 1, 2, 3, 4, 5, 6, 7, 8, 9, 10, 11, 12, 13, 14, 15, 16, 17, 18, 19, 20, 21, 22, 23, 24, 25, 26, 27, 28, 29, 30, 31, 32, 33, 34, 35, 36, 37, 38, 39, 40, 41] : List Nat).getD j 0) (fun j => ([15, 16, 17, 18, 19, 20, 21, 22, 23, 24, 25, 26, 27, 28, 29, 30, 31, 32, 33, 34, 35, 36, 37, 38, 39, 40, 41, 42, 43, 44, 45, 46, 47, 48, 49, 50, 51, 52, 53, 54, 55, 56] : List Nat).getD j 0) (by kernel_rfl) (by kernel_rfl) (by kernel_rfl) (by kernel_rfl) (by kernel_rfl) (by kernel_rfl) (by kernel_rfl) (fun j zv => ([(fun zv => zv = (.pointer (some ⟨fb, 0, none⟩))), (fun zv => zv = (.pointer (some ⟨fb, 0, none⟩))), (fun zv => zv = (.pointer (some ⟨fb, 1, none⟩))), (fun zv => zv = (.slice (some ⟨bl, ol, none⟩) m cap)), (fun zv => zv = (.int .i64 (k : Int))), (fun zv => zv = (.pointer (some ⟨bl, ol + k * 2, none⟩))), (fun zv => zv = (.pointer (some ⟨bl, ol + k * 2, none⟩))), (fun zv => zv = (.int .i64 (x : Int))), (fun zv => zv = (.int .i64 (y : Int))), (fun zv => zv = (.bool false)), (fun zv => zv = (.bool false)), (fun zv => zv = undef), (fun zv => zv = undef), (fun zv => zv = undef), (fun zv => zv = undef), (fun zv => zv = undef), (fun zv => zv = undef), (fun zv => zv = undef), (fun zv => zv = undef), (fun zv => zv = (.bool false)), (fun zv => zv = (.bool false)), (fun zv => zv = (.pointer (some ⟨fb, 0, none⟩))), (fun zv => zv = (.pointer (some ⟨fb, 0, none⟩))), (fun zv => zv = (.pointer (some ⟨fb, 1, none⟩))), (fun zv => zv = (.slice (some ⟨bl, ol, none⟩) m cap)), (fun zv => zv = (.int .i64 (k : Int))), (fun zv => zv = (.pointer (some ⟨bl, ol + k * 2, none⟩))), (fun zv => zv = (.pointer (some ⟨bl, ol + k * 2 + 1, none⟩))), (fun zv => zv = (.int .i64 (y : Int))), (fun zv => zv = (.int .i64 (y : Int))), (fun zv => zv = (.bool true)), (fun zv => zv = (.bool true)), (fun zv => zv = (.pointer (some ⟨fb, 0, none⟩))), (fun zv => zv = (.pointer (some ⟨fb, 0, none⟩))), (fun zv => zv = (.pointer (some ⟨fb, 2, none⟩))), (fun zv => zv = (.slice (some ⟨gb, 0, none⟩) m m)), (fun zv => zv = (.int .i64 (k : Int))), (fun zv => zv = (.pointer (some ⟨gb, k, none⟩))), (fun zv => zv = (.int .i64 z)), (fun zv => zv = (.bool false)), (fun zv => zv = (.bool false)), (fun zv => zv = (.bool false))] : List (Value → Prop)).getD j (fun _ => True) zv) (fun _ _ W => W = W0.drew) ?h0t ?stept ?fint
     case h0t => exact fun _ => rfl
     case stept =>
      intro i o a W d vs hi ho hdi hJ hf hr hF
      replace hi : i < 42 := hi
      rcases (show i = 0 ∨ i = 1 ∨ i = 2 ∨ i = 3 ∨ i = 4 ∨ i = 5 ∨ i = 6 ∨ i = 7 ∨ i = 8 ∨ i = 9 ∨ i = 10 ∨ i = 11 ∨ i = 12 ∨ i = 13 ∨ i = 14 ∨ i = 15 ∨ i = 16 ∨ i = 17 ∨ i = 18 ∨ i = 19 ∨ i = 20 ∨ i = 21 ∨ i = 22 ∨ i = 23 ∨ i = 24 ∨ i = 25 ∨ i = 26 ∨ i = 27 ∨ i = 28 ∨ i = 29 ∨ i = 30 ∨ i = 31 ∨ i = 32 ∨ i = 33 ∨ i = 34 ∨ i = 35 ∨ i = 36 ∨ i = 37 ∨ i = 38 ∨ i = 39 ∨ i = 40 ∨ i = 41 by omega) with rfl | rfl | rfl | rfl | rfl | rfl | rfl | rfl | rfl | rfl | rfl | rfl | rfl | rfl | rfl | rfl | rfl | rfl | rfl | rfl | rfl | rfl | rfl | rfl | rfl | rfl | rfl | rfl | rfl | rfl | rfl | rfl | rfl | rfl | rfl | rfl | rfl | rfl | rfl | rfl | rfl | rfl
      all_goals
       replace ho := op_at ho (by rfl)
       subst ho
      ·have f2 : a.tmps.getD 2 undef = (.pointer (some ⟨p2, 0, none⟩)) := hf 2 (by kernel_rfl)
       subst hJ
       exact .inl ⟨(fun k b h => by cases h), .inl ⟨0, by decide, rfl, (.pointer (some ⟨fb, 0, none⟩)), W0.drew, (by simp [go_sem, Act.eval, f2, cb2]), rfl, rfl⟩⟩
      ·have d0 : a.tmps.getD 15 undef = (.pointer (some ⟨fb, 0, none⟩)) := fdn (hF 0 (by decide) (hr 0 (by kernel_rfl)))
       subst hJ
       exact .inl ⟨(fun k b h => by cases h), .inl ⟨1, by decide, rfl, (.pointer (some ⟨fb, 0, none⟩)), W0.drew, (by simp [go_sem, Act.eval, d0]), rfl, rfl⟩⟩
      ·have d1 : a.tmps.getD 16 undef = (.pointer (some ⟨fb, 0, none⟩)) := fdn (hF 1 (by decide) (hr 1 (by kernel_rfl)))
       subst hJ
       exact .inl ⟨(fun k b h => by cases h), .inl ⟨2, by decide, rfl, (.pointer (some ⟨fb, 1, none⟩)), W0.drew, (by simp [go_sem, Act.eval, d1]), rfl, rfl⟩⟩
      ·have d2 : a.tmps.getD 17 undef = (.pointer (some ⟨fb, 1, none⟩)) := fdn (hF 2 (by decide) (hr 2 (by kernel_rfl)))
       subst hJ
       exact .inl ⟨(fun k b h => by cases h), .inl ⟨3, by decide, rfl, (.slice (some ⟨bl, ol, none⟩) m cap), W0.drew, (by simp [go_sem, Act.eval, d2, cl1]), rfl, rfl⟩⟩
      ·have f6 : a.tmps.getD 6 undef = (.int .i64 (k : Int)) := hf 6 (by kernel_rfl)
       subst hJ
       exact .inl ⟨(fun k b h => by cases h), .inl ⟨4, by decide, rfl, (.int .i64 (k : Int)), W0.drew, (by simp [go_sem, Act.eval, f6]), rfl, rfl⟩⟩
      ·have d3 : a.tmps.getD 18 undef = (.slice (some ⟨bl, ol, none⟩) m cap) := fdn (hF 3 (by decide) (hr 3 (by kernel_rfl)))
       have d4 : a.tmps.getD 19 undef = (.int .i64 (k : Int)) := fdn (hF 4 (by decide) (hr 4 (by kernel_rfl)))
       subst hJ
       exact .inl ⟨(fun k b h => by cases h), .inl ⟨5, by decide, rfl, (.pointer (some ⟨bl, ol + k * 2, none⟩)), W0.drew, (by simp [go_sem, Act.eval, d3, d4, hkn]), rfl, rfl⟩⟩
      ·have d5 : a.tmps.getD 20 undef = (.pointer (some ⟨bl, ol + k * 2, none⟩)) := fdn (hF 5 (by decide) (hr 5 (by kernel_rfl)))
       subst hJ
       exact .inl ⟨(fun k b h => by cases h), .inl ⟨6, by decide, rfl, (.pointer (some ⟨bl, ol + k * 2, none⟩)), W0.drew, (by simp [go_sem, Act.eval, d5]), rfl, rfl⟩⟩
      ·have d6 : a.tmps.getD 21 undef = (.pointer (some ⟨bl, ol + k * 2, none⟩)) := fdn (hF 6 (by decide) (hr 6 (by kernel_rfl)))
       subst hJ
       exact .inl ⟨(fun k b h => by cases h), .inl ⟨7, by decide, rfl, (.int .i64 (x : Int)), W0.drew, (by simp [go_sem, Act.eval, d6, cA]), rfl, rfl⟩⟩
      ·have f3 : a.tmps.getD 3 undef = (.pointer (some ⟨p3, 0, none⟩)) := hf 3 (by kernel_rfl)
       subst hJ
       exact .inl ⟨(fun k b h => by cases h), .inl ⟨8, by decide, rfl, (.int .i64 (y : Int)), W0.drew, (by simp [go_sem, Act.eval, f3, cb3]), rfl, rfl⟩⟩
      ·have d7 : a.tmps.getD 22 undef = (.int .i64 (x : Int)) := fdn (hF 7 (by decide) (hr 7 (by kernel_rfl)))
       have d8 : a.tmps.getD 23 undef = (.int .i64 (y : Int)) := fdn (hF 8 (by decide) (hr 8 (by kernel_rfl)))
       subst hJ
       exact .inl ⟨(fun k b h => by cases h), .inl ⟨9, by decide, rfl, (.bool false), W0.drew, (by simp [go_sem, Act.eval, d7, d8, hxb]), rfl, rfl⟩⟩
      ·have d9 : a.tmps.getD 24 undef = (.bool false) := fdn (hF 9 (by decide) (hr 9 (by kernel_rfl)))
       subst hJ
       exact .inl ⟨(fun k b h => by cases h), .inl ⟨10, by decide, rfl, (.bool false), W0.drew, (by simp [go_sem, Act.eval, d9]), rfl, rfl⟩⟩
      ·have d10 : a.tmps.getD 25 undef = (.bool false) := fdn (hF 10 (by decide) (hr 10 (by kernel_rfl)))
       subst hJ
       exact .inr ⟨10, true, 10, rfl, by decide, rfl, (nhB d10 rfl), .inl ⟨11, by decide, rfl, rfl, rfl⟩⟩
      ·have d10 : a.tmps.getD 25 undef = (.bool false) := fdn (hF 10 (by decide) (hr 10 (by kernel_rfl)))
       subst hJ
       exact .inr ⟨10, true, 10, rfl, by decide, rfl, (nhB d10 rfl), .inl ⟨12, by decide, rfl, rfl, rfl⟩⟩
      ·have d10 : a.tmps.getD 25 undef = (.bool false) := fdn (hF 10 (by decide) (hr 10 (by kernel_rfl)))
       subst hJ
       exact .inr ⟨10, true, 10, rfl, by decide, rfl, (nhB d10 rfl), .inl ⟨13, by decide, rfl, rfl, rfl⟩⟩
      ·have d10 : a.tmps.getD 25 undef = (.bool false) := fdn (hF 10 (by decide) (hr 10 (by kernel_rfl)))
       subst hJ
       exact .inr ⟨10, true, 10, rfl, by decide, rfl, (nhB d10 rfl), .inl ⟨14, by decide, rfl, rfl, rfl⟩⟩
      ·have d10 : a.tmps.getD 25 undef = (.bool false) := fdn (hF 10 (by decide) (hr 10 (by kernel_rfl)))
       subst hJ
       exact .inr ⟨10, true, 10, rfl, by decide, rfl, (nhB d10 rfl), .inl ⟨15, by decide, rfl, rfl, rfl⟩⟩
      ·have d10 : a.tmps.getD 25 undef = (.bool false) := fdn (hF 10 (by decide) (hr 10 (by kernel_rfl)))
       subst hJ
       exact .inr ⟨10, true, 10, rfl, by decide, rfl, (nhB d10 rfl), .inl ⟨16, by decide, rfl, rfl, rfl⟩⟩
      ·have d10 : a.tmps.getD 25 undef = (.bool false) := fdn (hF 10 (by decide) (hr 10 (by kernel_rfl)))
       subst hJ
       exact .inr ⟨10, true, 10, rfl, by decide, rfl, (nhB d10 rfl), .inl ⟨17, by decide, rfl, rfl, rfl⟩⟩
      ·have d10 : a.tmps.getD 25 undef = (.bool false) := fdn (hF 10 (by decide) (hr 10 (by kernel_rfl)))
       subst hJ
       exact .inr ⟨10, true, 10, rfl, by decide, rfl, (nhB d10 rfl), .inl ⟨18, by decide, rfl, rfl, rfl⟩⟩
      ·have d10 : a.tmps.getD 25 undef = (.bool false) := fdn (hF 10 (by decide) (hr 10 (by kernel_rfl)))
       subst hJ
       exact .inl ⟨(fun k b h => by cases h), .inl ⟨19, by decide, rfl, (.bool false), W0.drew, (by simp [go_sem, Act.eval, d10]), rfl, rfl⟩⟩
      ·have d19 : a.tmps.getD 34 undef = (.bool false) := fdn (hF 19 (by decide) (hr 19 (by kernel_rfl)))
       subst hJ
       exact .inl ⟨(fun k b h => by cases h), .inl ⟨20, by decide, rfl, (.bool false), W0.drew, (by simp [go_sem, Act.eval, d19]), rfl, rfl⟩⟩
      ·have d20 : a.tmps.getD 35 undef = (.bool false) := fdn (hF 20 (by decide) (hr 20 (by kernel_rfl)))
       have f2 : a.tmps.getD 2 undef = (.pointer (some ⟨p2, 0, none⟩)) := hf 2 (by kernel_rfl)
       subst hJ
       exact .inl ⟨(fun k b h => by cases h; exact ⟨20, by decide, rfl, d20⟩), .inl ⟨21, by decide, rfl, (.pointer (some ⟨fb, 0, none⟩)), W0.drew, (by simp [go_sem, Act.eval, d20, f2, cb2]), rfl, rfl⟩⟩
      ·have d21 : a.tmps.getD 36 undef = (.pointer (some ⟨fb, 0, none⟩)) := fdn (hF 21 (by decide) (hr 21 (by kernel_rfl)))
       have d20 : a.tmps.getD 35 undef = (.bool false) := fdn (hF 20 (by decide) (hr 20 (by kernel_rfl)))
       subst hJ
       exact .inl ⟨(fun k b h => by cases h; exact ⟨20, by decide, rfl, d20⟩), .inl ⟨22, by decide, rfl, (.pointer (some ⟨fb, 0, none⟩)), W0.drew, (by simp [go_sem, Act.eval, d21, d20]), rfl, rfl⟩⟩
      ·have d22 : a.tmps.getD 37 undef = (.pointer (some ⟨fb, 0, none⟩)) := fdn (hF 22 (by decide) (hr 22 (by kernel_rfl)))
       have d20 : a.tmps.getD 35 undef = (.bool false) := fdn (hF 20 (by decide) (hr 20 (by kernel_rfl)))
       subst hJ
       exact .inl ⟨(fun k b h => by cases h; exact ⟨20, by decide, rfl, d20⟩), .inl ⟨23, by decide, rfl, (.pointer (some ⟨fb, 1, none⟩)), W0.drew, (by simp [go_sem, Act.eval, d22, d20]), rfl, rfl⟩⟩
      ·have d23 : a.tmps.getD 38 undef = (.pointer (some ⟨fb, 1, none⟩)) := fdn (hF 23 (by decide) (hr 23 (by kernel_rfl)))
       have d20 : a.tmps.getD 35 undef = (.bool false) := fdn (hF 20 (by decide) (hr 20 (by kernel_rfl)))
       subst hJ
       exact .inl ⟨(fun k b h => by cases h; exact ⟨20, by decide, rfl, d20⟩), .inl ⟨24, by decide, rfl, (.slice (some ⟨bl, ol, none⟩) m cap), W0.drew, (by simp [go_sem, Act.eval, d23, d20, cl1]), rfl, rfl⟩⟩
      ·have d20 : a.tmps.getD 35 undef = (.bool false) := fdn (hF 20 (by decide) (hr 20 (by kernel_rfl)))
       have f6 : a.tmps.getD 6 undef = (.int .i64 (k : Int)) := hf 6 (by kernel_rfl)
       subst hJ
       exact .inl ⟨(fun k b h => by cases h; exact ⟨20, by decide, rfl, d20⟩), .inl ⟨25, by decide, rfl, (.int .i64 (k : Int)), W0.drew, (by simp [go_sem, Act.eval, d20, f6]), rfl, rfl⟩⟩
      ·have d24 : a.tmps.getD 39 undef = (.slice (some ⟨bl, ol, none⟩) m cap) := fdn (hF 24 (by decide) (hr 24 (by kernel_rfl)))
       have d25 : a.tmps.getD 40 undef = (.int .i64 (k : Int)) := fdn (hF 25 (by decide) (hr 25 (by kernel_rfl)))
       have d20 : a.tmps.getD 35 undef = (.bool false) := fdn (hF 20 (by decide) (hr 20 (by kernel_rfl)))
       subst hJ
       exact .inl ⟨(fun k b h => by cases h; exact ⟨20, by decide, rfl, d20⟩), .inl ⟨26, by decide, rfl, (.pointer (some ⟨bl, ol + k * 2, none⟩)), W0.drew, (by simp [go_sem, Act.eval, d24, d25, d20, hkn]), rfl, rfl⟩⟩
      ·have d26 : a.tmps.getD 41 undef = (.pointer (some ⟨bl, ol + k * 2, none⟩)) := fdn (hF 26 (by decide) (hr 26 (by kernel_rfl)))
       have d20 : a.tmps.getD 35 undef = (.bool false) := fdn (hF 20 (by decide) (hr 20 (by kernel_rfl)))
       subst hJ
       exact .inl ⟨(fun k b h => by cases h; exact ⟨20, by decide, rfl, d20⟩), .inl ⟨27, by decide, rfl, (.pointer (some ⟨bl, ol + k * 2 + 1, none⟩)), W0.drew, (by simp [go_sem, Act.eval, d26, d20]), rfl, rfl⟩⟩
      ·have d27 : a.tmps.getD 42 undef = (.pointer (some ⟨bl, ol + k * 2 + 1, none⟩)) := fdn (hF 27 (by decide) (hr 27 (by kernel_rfl)))
       have d20 : a.tmps.getD 35 undef = (.bool false) := fdn (hF 20 (by decide) (hr 20 (by kernel_rfl)))
       subst hJ
       exact .inl ⟨(fun k b h => by cases h; exact ⟨20, by decide, rfl, d20⟩), .inl ⟨28, by decide, rfl, (.int .i64 (y : Int)), W0.drew, (by simp [go_sem, Act.eval, d27, d20, cB]), rfl, rfl⟩⟩
      ·have d20 : a.tmps.getD 35 undef = (.bool false) := fdn (hF 20 (by decide) (hr 20 (by kernel_rfl)))
       have f3 : a.tmps.getD 3 undef = (.pointer (some ⟨p3, 0, none⟩)) := hf 3 (by kernel_rfl)
       subst hJ
       exact .inl ⟨(fun k b h => by cases h; exact ⟨20, by decide, rfl, d20⟩), .inl ⟨29, by decide, rfl, (.int .i64 (y : Int)), W0.drew, (by simp [go_sem, Act.eval, d20, f3, cb3]), rfl, rfl⟩⟩
      ·have d28 : a.tmps.getD 43 undef = (.int .i64 (y : Int)) := fdn (hF 28 (by decide) (hr 28 (by kernel_rfl)))
       have d29 : a.tmps.getD 44 undef = (.int .i64 (y : Int)) := fdn (hF 29 (by decide) (hr 29 (by kernel_rfl)))
       have d20 : a.tmps.getD 35 undef = (.bool false) := fdn (hF 20 (by decide) (hr 20 (by kernel_rfl)))
       subst hJ
       exact .inl ⟨(fun k b h => by cases h; exact ⟨20, by decide, rfl, d20⟩), .inl ⟨30, by decide, rfl, (.bool true), W0.drew, (by simp [go_sem, Act.eval, d28, d29, d20]), rfl, rfl⟩⟩
      ·have d30 : a.tmps.getD 45 undef = (.bool true) := fdn (hF 30 (by decide) (hr 30 (by kernel_rfl)))
       have d20 : a.tmps.getD 35 undef = (.bool false) := fdn (hF 20 (by decide) (hr 20 (by kernel_rfl)))
       subst hJ
       exact .inl ⟨(fun k b h => by cases h; exact ⟨20, by decide, rfl, d20⟩), .inl ⟨31, by decide, rfl, (.bool true), W0.drew, (by simp [go_sem, Act.eval, d30, d20]), rfl, rfl⟩⟩
      ·have d31 : a.tmps.getD 46 undef = (.bool true) := fdn (hF 31 (by decide) (hr 31 (by kernel_rfl)))
       have f2 : a.tmps.getD 2 undef = (.pointer (some ⟨p2, 0, none⟩)) := hf 2 (by kernel_rfl)
       subst hJ
       exact .inl ⟨(fun k b h => by cases h; exact ⟨31, by decide, rfl, d31⟩), .inl ⟨32, by decide, rfl, (.pointer (some ⟨fb, 0, none⟩)), W0.drew, (by simp [go_sem, Act.eval, d31, f2, cb2]), rfl, rfl⟩⟩
      ·have d32 : a.tmps.getD 47 undef = (.pointer (some ⟨fb, 0, none⟩)) := fdn (hF 32 (by decide) (hr 32 (by kernel_rfl)))
       have d31 : a.tmps.getD 46 undef = (.bool true) := fdn (hF 31 (by decide) (hr 31 (by kernel_rfl)))
       subst hJ
       exact .inl ⟨(fun k b h => by cases h; exact ⟨31, by decide, rfl, d31⟩), .inl ⟨33, by decide, rfl, (.pointer (some ⟨fb, 0, none⟩)), W0.drew, (by simp [go_sem, Act.eval, d32, d31]), rfl, rfl⟩⟩
      ·have d33 : a.tmps.getD 48 undef = (.pointer (some ⟨fb, 0, none⟩)) := fdn (hF 33 (by decide) (hr 33 (by kernel_rfl)))
       have d31 : a.tmps.getD 46 undef = (.bool true) := fdn (hF 31 (by decide) (hr 31 (by kernel_rfl)))
       subst hJ
       exact .inl ⟨(fun k b h => by cases h; exact ⟨31, by decide, rfl, d31⟩), .inl ⟨34, by decide, rfl, (.pointer (some ⟨fb, 2, none⟩)), W0.drew, (by simp [go_sem, Act.eval, d33, d31]), rfl, rfl⟩⟩
      ·have d34 : a.tmps.getD 49 undef = (.pointer (some ⟨fb, 2, none⟩)) := fdn (hF 34 (by decide) (hr 34 (by kernel_rfl)))
       have d31 : a.tmps.getD 46 undef = (.bool true) := fdn (hF 31 (by decide) (hr 31 (by kernel_rfl)))
       subst hJ
       exact .inl ⟨(fun k b h => by cases h; exact ⟨31, by decide, rfl, d31⟩), .inl ⟨35, by decide, rfl, (.slice (some ⟨gb, 0, none⟩) m m), W0.drew, (by simp [go_sem, Act.eval, d34, d31, cl2]), rfl, rfl⟩⟩
      ·have d31 : a.tmps.getD 46 undef = (.bool true) := fdn (hF 31 (by decide) (hr 31 (by kernel_rfl)))
       have f6 : a.tmps.getD 6 undef = (.int .i64 (k : Int)) := hf 6 (by kernel_rfl)
       subst hJ
       exact .inl ⟨(fun k b h => by cases h; exact ⟨31, by decide, rfl, d31⟩), .inl ⟨36, by decide, rfl, (.int .i64 (k : Int)), W0.drew, (by simp [go_sem, Act.eval, d31, f6]), rfl, rfl⟩⟩
      ·have d35 : a.tmps.getD 50 undef = (.slice (some ⟨gb, 0, none⟩) m m) := fdn (hF 35 (by decide) (hr 35 (by kernel_rfl)))
       have d36 : a.tmps.getD 51 undef = (.int .i64 (k : Int)) := fdn (hF 36 (by decide) (hr 36 (by kernel_rfl)))
       have d31 : a.tmps.getD 46 undef = (.bool true) := fdn (hF 31 (by decide) (hr 31 (by kernel_rfl)))
       subst hJ
       exact .inl ⟨(fun k b h => by cases h; exact ⟨31, by decide, rfl, d31⟩), .inl ⟨37, by decide, rfl, (.pointer (some ⟨gb, k, none⟩)), W0.drew, (by simp [go_sem, Act.eval, d35, d36, d31, hkn]), rfl, rfl⟩⟩
      ·have d37 : a.tmps.getD 52 undef = (.pointer (some ⟨gb, k, none⟩)) := fdn (hF 37 (by decide) (hr 37 (by kernel_rfl)))
       have d31 : a.tmps.getD 46 undef = (.bool true) := fdn (hF 31 (by decide) (hr 31 (by kernel_rfl)))
       subst hJ
       exact .inl ⟨(fun k b h => by cases h; exact ⟨31, by decide, rfl, d31⟩), .inl ⟨38, by decide, rfl, (.int .i64 z), W0.drew, (by simp [go_sem, Act.eval, d37, d31, cG]), rfl, rfl⟩⟩
      ·have d38 : a.tmps.getD 53 undef = (.int .i64 z) := fdn (hF 38 (by decide) (hr 38 (by kernel_rfl)))
       have d31 : a.tmps.getD 46 undef = (.bool true) := fdn (hF 31 (by decide) (hr 31 (by kernel_rfl)))
       subst hJ
       exact .inl ⟨(fun k b h => by cases h; exact ⟨31, by decide, rfl, d31⟩), .inl ⟨39, by decide, rfl, (.bool false), W0.drew, (by simp [go_sem, Act.eval, d38, d31, hzb]), rfl, rfl⟩⟩
      ·have d31 : a.tmps.getD 46 undef = (.bool true) := fdn (hF 31 (by decide) (hr 31 (by kernel_rfl)))
       have d39 : a.tmps.getD 54 undef = (.bool false) := fdn (hF 39 (by decide) (hr 39 (by kernel_rfl)))
       have d20 : a.tmps.getD 35 undef = (.bool false) := fdn (hF 20 (by decide) (hr 20 (by kernel_rfl)))
       subst hJ
       exact .inl ⟨(fun k b h => by cases h; exact ⟨20, by decide, rfl, d20⟩), .inl ⟨40, by decide, rfl, (.bool false), W0.drew, (by simp [go_sem, Act.eval, d31, d39, d20]), rfl, rfl⟩⟩
      ·have d20 : a.tmps.getD 35 undef = (.bool false) := fdn (hF 20 (by decide) (hr 20 (by kernel_rfl)))
       have d40 : a.tmps.getD 55 undef = (.bool false) := fdn (hF 40 (by decide) (hr 40 (by kernel_rfl)))
       subst hJ
       exact .inl ⟨(fun k b h => by cases h), .inl ⟨41, by decide, rfl, (.bool false), W0.drew, (by simp [go_sem, Act.eval, d20, d40]), rfl, rfl⟩⟩
     case fint =>
      intro d vs Wt hall hJ hF
      have h0 : vs 0 = (.pointer (some ⟨fb, 0, none⟩)) := hF 0 (by decide)
      have h1 : vs 1 = (.pointer (some ⟨fb, 0, none⟩)) := hF 1 (by decide)
      have h2 : vs 2 = (.pointer (some ⟨fb, 1, none⟩)) := hF 2 (by decide)
      have h3 : vs 3 = (.slice (some ⟨bl, ol, none⟩) m cap) := hF 3 (by decide)
      have h4 : vs 4 = (.int .i64 (k : Int)) := hF 4 (by decide)
      have h5 : vs 5 = (.pointer (some ⟨bl, ol + k * 2, none⟩)) := hF 5 (by decide)
      have h6 : vs 6 = (.pointer (some ⟨bl, ol + k * 2, none⟩)) := hF 6 (by decide)
      have h7 : vs 7 = (.int .i64 (x : Int)) := hF 7 (by decide)
      have h8 : vs 8 = (.int .i64 (y : Int)) := hF 8 (by decide)
      have h9 : vs 9 = (.bool false) := hF 9 (by decide)
      have h10 : vs 10 = (.bool false) := hF 10 (by decide)
      have h11 : vs 11 = undef := hF 11 (by decide)
      have h12 : vs 12 = undef := hF 12 (by decide)
      have h13 : vs 13 = undef := hF 13 (by decide)
      have h14 : vs 14 = undef := hF 14 (by decide)
      have h15 : vs 15 = undef := hF 15 (by decide)
      have h16 : vs 16 = undef := hF 16 (by decide)
      have h17 : vs 17 = undef := hF 17 (by decide)
      have h18 : vs 18 = undef := hF 18 (by decide)
      have h19 : vs 19 = (.bool false) := hF 19 (by decide)
      have h20 : vs 20 = (.bool false) := hF 20 (by decide)
      have h21 : vs 21 = (.pointer (some ⟨fb, 0, none⟩)) := hF 21 (by decide)
      have h22 : vs 22 = (.pointer (some ⟨fb, 0, none⟩)) := hF 22 (by decide)
      have h23 : vs 23 = (.pointer (some ⟨fb, 1, none⟩)) := hF 23 (by decide)
      have h24 : vs 24 = (.slice (some ⟨bl, ol, none⟩) m cap) := hF 24 (by decide)
      have h25 : vs 25 = (.int .i64 (k : Int)) := hF 25 (by decide)
      have h26 : vs 26 = (.pointer (some ⟨bl, ol + k * 2, none⟩)) := hF 26 (by decide)
      have h27 : vs 27 = (.pointer (some ⟨bl, ol + k * 2 + 1, none⟩)) := hF 27 (by decide)
      have h28 : vs 28 = (.int .i64 (y : Int)) := hF 28 (by decide)
      have h29 : vs 29 = (.int .i64 (y : Int)) := hF 29 (by decide)
      have h30 : vs 30 = (.bool true) := hF 30 (by decide)
      have h31 : vs 31 = (.bool true) := hF 31 (by decide)
      have h32 : vs 32 = (.pointer (some ⟨fb, 0, none⟩)) := hF 32 (by decide)
      have h33 : vs 33 = (.pointer (some ⟨fb, 0, none⟩)) := hF 33 (by decide)
      have h34 : vs 34 = (.pointer (some ⟨fb, 2, none⟩)) := hF 34 (by decide)
      have h35 : vs 35 = (.slice (some ⟨gb, 0, none⟩) m m) := hF 35 (by decide)
      have h36 : vs 36 = (.int .i64 (k : Int)) := hF 36 (by decide)
      have h37 : vs 37 = (.pointer (some ⟨gb, k, none⟩)) := hF 37 (by decide)
      have h38 : vs 38 = (.int .i64 z) := hF 38 (by decide)
      have h39 : vs 39 = (.bool false) := hF 39 (by decide)
      have h40 : vs 40 = (.bool false) := hF 40 (by decide)
      have h41 : vs 41 = (.bool false) := hF 41 (by decide)
      clear hF
      show (_ : Exit → Act → World → Prop) Exit.normal (puts _ vs 42 _) Wt
      simp only [puts, h0, h1, h2, h3, h4, h5, h6, h7, h8, h9, h10, h11, h12, h13, h14, h15, h16, h17, h18, h19, h20, h21, h22, h23, h24, h25, h26, h27, h28, h29, h30, h31, h32, h33, h34, h35, h36, h37, h38, h39, h40, h41, List.getD_cons_zero, List.getD_cons_succ]
      clear h0 h1 h2 h3 h4 h5 h6 h7 h8 h9 h10 h11 h12 h13 h14 h15 h16 h17 h18 h19 h20 h21 h22 h23 h24 h25 h26 h27 h28 h29 h30 h31 h32 h33 h34 h35 h36 h37 h38 h39 h40 h41
      subst hJ
      simp only [Act.put, List.setIfInBounds_toArray, List.set_cons_succ, List.set_cons_zero]
      have HD0 := Lib.hid (HRI1.out.below (bdN W0.heap.size W0 1))
      clear hall cb2 cb3 cl1 cl2 cG cA cB
      gi_wp2_with (fail)
      exact ⟨⟨Nat.le_refl _, fun _ _ h _ => h⟩, HD0.out.skip HE.out⟩
  case done =>
   rintro Dd xs W' hxs h1 hD hWD
   have H1 := Lib.hid h1
   have HXS := Lib.hid hxs
   have HDD := Lib.hid hD
   clear h1 hxs hD
   dsimp only
   have HTN : Hid (R = (v, g)) := by
    show _ = _
    rw [HR.out]
    unfold folF
    have h0 : (nbF L v).find? (folP L g v) = none := by
     rw [List.find?_eq_none]
     intro x hx
     rw [H1.out.no x (by rw [HXS.out]; exact hx)]
     simp
    rw [h0]
   have cb3 := cell_of_row _ _ 0 _ _ _ H1.out.b3
   have cb4 := cell_of_row _ _ 0 _ _ _ H1.out.b4
   have fb4 := frozen_of_row _ _ 0 _ _ H1.out.b4
   gi_wp2_with (fail)
   rw [HTN.out]
   have hm : Marks w.heap.size (Dd + 1) [{ target := .collected Dd, args := #[] }] (W'.setCell ⟨p4, 0, none⟩ (.int .i64 (v : Int))) := ⟨⟨Dd, rfl, by have := HSY.out; omega, Nat.lt_succ_self _, (Below.heap_setCell _ _ _ _ (by rintro rfl; have h4 := H1.out.b4; rw [HDD.out] at h4; cases h4)).trans HDD.out, fun d' hd' => by cases hd'⟩, trivial⟩
   exact (fol_end (D := Dd) (H1.out.fin0 HBW.out HFL.out) hm HBW.out H1.out.ge.2.1 HFL.out.1 HFL.out.2 rfl rfl).1
  case stop =>
   rintro Dd c pre W' hpre ⟨hc, h1⟩ hD hWD
   subst hc
   have H1 := Lib.hid h1
   have HDD := Lib.hid hD
   clear h1 hD
   dsimp only
   gi_wp2_with (fail)
   have hm : Marks w.heap.size (Dd + 1) [{ target := .collected Dd, args := #[] }] W' := ⟨⟨Dd, rfl, by have := HSY.out; omega, Nat.lt_succ_self _, HDD.out, fun d' hd' => by cases hd'⟩, trivial⟩
   exact (fol_end (D := Dd) H1.out hm HBW.out HPS.out.2 HFL.out.1 HFL.out.2 rfl rfl).1

end Go.Proofs.Ytenilbofncfbdaa

