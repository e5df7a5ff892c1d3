/- Cuts: the document's tree: plain. No program here.
Cuts: the document's Tree: walked (by program: wip/tools/gen_ce9.py).
Cuts: the law CutsFalls, walked (by program: wip/tools/gen_cfalls.py). -/
import Derived.Test.YtenilbofncfbdaaCF
import Derived.Test.YtenilbofncfbdaaP7
import Derived.Test.YtenilbofncfbdaaP2
import Derived.Test.YtenilbofncfbdaaCJ
import Derived.Test.YtenilbofncfbdaaCN
import Derived.Laws.AppendOwnNone
set_option linter.unusedSimpArgs false
set_option linter.unusedVariables false
namespace Go.Proofs.Ytenilbofncfbdaa

theorem nb_up {n : Nat} {L : Prs} (hf : FitL n L) (v : Nat) : (nbF L v).Pairwise fun x y => x.1 < y.1 := by
  have hz : L.zipIdx.Pairwise fun x y => x.1.1 < y.1.1 ∨ (x.1.1 = y.1.1 ∧ x.1.2 < y.1.2) := by
    rw [List.pairwise_iff_getElem]
    intro i j hi hj hij
    rw [List.length_zipIdx] at hi hj
    have h := hf.sorted i j hij hj
    have ei : L.zipIdx[i]'(by simpa using hi) = (L[i], i) := by simp
    have ej : L.zipIdx[j]'(by simpa using hj) = (L[j], j) := by simp
    rw [ei, ej]
    unfold endA endB at h
    simpa [List.getD_eq_getElem?_getD, List.getElem?_eq_getElem hi, List.getElem?_eq_getElem hj] using h
  unfold nbF
  rw [List.pairwise_append]
  refine ⟨?_, ?_, fun x hx y hy => ?_⟩
  · unfold nbLo
    rw [List.pairwise_map]
    refine (hz.filter _).imp_of_mem fun {x y} hx hy h => ?_
    have a := (List.mem_filter.1 hx).2
    have b := (List.mem_filter.1 hy).2
    rw [beq_iff_eq] at a b
    show x.1.1 < y.1.1
    omega
  · unfold nbHi
    rw [List.pairwise_map]
    refine (hz.filter _).imp_of_mem fun {x y} hx hy h => ?_
    have a := (List.mem_filter.1 hx).2
    have b := (List.mem_filter.1 hy).2
    rw [beq_iff_eq] at a b
    show x.1.2 < y.1.2
    omega
  · unfold nbLo at hx
    unfold nbHi at hy
    obtain ⟨p, hp, rfl⟩ := List.mem_map.1 hx
    obtain ⟨q, hq, rfl⟩ := List.mem_map.1 hy
    obtain ⟨p1, p2⟩ := List.mem_filter.1 hp
    obtain ⟨q1, q2⟩ := List.mem_filter.1 hq
    rw [beq_iff_eq] at p2 q2
    obtain ⟨⟨pa, pb⟩, pk⟩ := p
    obtain ⟨⟨qa, qb⟩, qk⟩ := q
    obtain ⟨r1, r2, r3⟩ := get_ends.1 (List.mem_zipIdx_iff_getElem?.1 p1)
    obtain ⟨s1, s2, s3⟩ := get_ends.1 (List.mem_zipIdx_iff_getElem?.1 q1)
    have := hf.lt pk r1
    have := hf.lt qk s1
    dsimp only at *
    omega
theorem find_least {l : List (Nat × Nat)} (h : l.Pairwise fun x y => x.1 < y.1) {p : Nat × Nat → Bool} {x : Nat × Nat} (hx : l.find? p = some x) : x ∈ l ∧ p x = true ∧ ∀ y ∈ l, p y = true → x.1 ≤ y.1 := by
  obtain ⟨h1, us, bs, rfl, h2⟩ := List.find?_eq_some_iff_append.1 hx
  refine ⟨by simp, h1, fun y hy hp => ?_⟩
  rw [List.pairwise_append] at h
  rcases List.mem_append.1 hy with hy | hy
  · have := h2 y hy; rw [hp] at this; cases this
  · rcases List.mem_cons.1 hy with rfl | hy
    · exact Nat.le_refl _
    · exact Nat.le_of_lt ((List.pairwise_cons.1 h.2.1).1 y hy)
theorem treeN_at {L : Prs} {n : Nat} {d : List Int} : ∀ m, m ≤ n → ∀ v, v < n → (treeN L n d m).getD v 0 = if v < m then (match (nbF L v).find? (parP d v) with | some x => (x.1 : Int) | none => -1) else -1 := by
  intro m
  induction m with
  | zero =>
    intro _ v hv
    rw [if_neg (Nat.not_lt_zero v)]
    unfold treeN
    rw [List.getD_eq_getElem?_getD, List.getElem?_replicate, if_pos hv]
    rfl
  | succ m ih =>
    intro hm v hv
    have h := ih (by omega) v hv
    unfold treeN
    by_cases e : v = m
    · subst e
      unfold parS
      rw [if_neg (Nat.lt_irrefl v)] at h
      rw [if_pos (Nat.lt_succ_self v)]
      cases hfd : (nbF L v).find? (parP d v) with
      | none => exact h
      | some x => exact getD_set_same _ _ _ _ (by rw [treeN_len]; exact hv)
    · have e1 : (parS L d m (treeN L n d m)).getD v 0 = (treeN L n d m).getD v 0 := by
        unfold parS
        cases (nbF L m).find? (parP d m) with
        | none => rfl
        | some x => exact getD_set_other _ _ _ _ _ (Ne.symm e)
      rw [e1, h]
      by_cases c : v < m
      · rw [if_pos c, if_pos (by omega)]
      · rw [if_neg c, if_neg (by omega)]

/-- distances along a pair: both ends reached or neither, and at most one apart -/
def DG (L : Prs) (n : Nat) (d : List Int) : Prop := d.length = n ∧ ∀ k u v, Edge L k u v → (d.getD u 0 < 0 ∧ d.getD v 0 < 0) ∨ (0 ≤ d.getD u 0 ∧ 0 ≤ d.getD v 0 ∧ d.getD u 0 ≤ d.getD v 0 + 1 ∧ d.getD v 0 ≤ d.getD u 0 + 1)
theorem far_dg {L : Prs} {n : Nat} {a : Int} (hf : FitL n L) : DG L n (farI L n a) := by
  by_cases h : 0 ≤ a ∧ a < n
  · obtain ⟨z, rfl⟩ : ∃ z : Nat, a = (z : Int) := ⟨a.toNat, by omega⟩
    have hd := far_ok hf (show z < n by omega)
    refine ⟨hd.dl, fun k u v he => ?_⟩
    by_cases c : 0 ≤ (farI L n z).getD u 0
    · obtain ⟨h1, h2⟩ := hd.edge v u k he.symm c
      obtain ⟨h3, h4⟩ := hd.edge u v k he h1
      exact .inr ⟨c, h1, h4, h2⟩
    · by_cases c2 : 0 ≤ (farI L n z).getD v 0
      · exact absurd (hd.edge u v k he c2).1 c
      · exact .inl ⟨by omega, by omega⟩
  · unfold farI
    rw [if_neg h]
    refine ⟨by simp, fun k u v he => .inl ?_⟩
    obtain ⟨hu, hv, -⟩ := edge_lt hf he
    rw [List.getD_eq_getElem?_getD, List.getElem?_replicate, if_pos hu, List.getD_eq_getElem?_getD, List.getElem?_replicate, if_pos hv]
    exact ⟨by decide, by decide⟩
/-- may u be v's parent, by distances alone? -/
def parQ (d : List Int) (v u : Nat) : Prop := 0 < d.getD v 0 ∧ d.getD u 0 = d.getD v 0 - 1
/-- the least of those that were looked at -/
structure TB (L : Prs) (n : Nat) (d : List Int) (S : Nat → Nat → Prop) (t : List Int) : Prop where
  tl : t.length = n
  none_ : ∀ v, v < n → t.getD v 0 < 0 → t.getD v 0 = -1 ∧ ∀ u, S v u → ¬ parQ d v u
  some_ : ∀ v, v < n → 0 ≤ t.getD v 0 → ∃ u : Nat, t.getD v 0 = (u : Int) ∧ (∃ k, Edge L k u v) ∧ parQ d v u ∧ ∀ x, S v x → parQ d v x → u ≤ x
theorem TB.mono {L : Prs} {n : Nat} {d : List Int} {S S' : Nat → Nat → Prop} {t : List Int} (h : TB L n d S t) (hs : ∀ v u, S' v u → S v u) : TB L n d S' t :=
  ⟨h.tl, fun v hv h0 => ⟨(h.none_ v hv h0).1, fun u hu => (h.none_ v hv h0).2 u (hs v u hu)⟩, fun v hv h0 => by
    obtain ⟨u, h1, h2, h3, h4⟩ := h.some_ v hv h0
    exact ⟨u, h1, h2, h3, fun x hx => h4 x (hs v x hx)⟩⟩
/-- one end's turn: a may take b -/
def tturn (d : List Int) (a b : Nat) (t : List Int) : List Int := if 0 ≤ d.getD a 0 ∧ d.getD a 0 = d.getD b 0 + 1 ∧ (t.getD a 0 < 0 ∨ (b : Int) < t.getD a 0) then t.set a (b : Int) else t
theorem TB.turn {L : Prs} {n : Nat} {d : List Int} {S : Nat → Nat → Prop} {t : List Int} (hf : FitL n L) (hd : DG L n d) (h : TB L n d S t) {k a b : Nat} (he : Edge L k b a) : TB L n d (fun v u => S v u ∨ (v = a ∧ u = b)) (tturn d a b t) := by
  obtain ⟨hb, ha, -⟩ := edge_lt hf he
  have hda := hd.2 k b a he
  unfold tturn
  by_cases c : 0 ≤ d.getD a 0 ∧ d.getD a 0 = d.getD b 0 + 1 ∧ (t.getD a 0 < 0 ∨ (b : Int) < t.getD a 0)
  · rw [if_pos c]
    have hpar : parQ d a b := ⟨by omega, by omega⟩
    have hs : (t.set a (b : Int)).getD a 0 = (b : Int) := getD_set_same _ _ _ _ (by rw [h.tl]; exact ha)
    have ho : ∀ v, v ≠ a → (t.set a (b : Int)).getD v 0 = t.getD v 0 := fun v hv => getD_set_other _ _ _ _ _ (Ne.symm hv)
    refine ⟨by simpa using h.tl, fun v hv h0 => ?_, fun v hv h0 => ?_⟩
    · by_cases e : v = a
      · subst e; rw [hs] at h0; omega
      · rw [ho v e] at h0 ⊢
        refine ⟨(h.none_ v hv h0).1, fun u hu => ?_⟩
        rcases hu with hu | ⟨hu, -⟩
        · exact (h.none_ v hv h0).2 u hu
        · exact absurd hu e
    · by_cases e : v = a
      · subst e
        rw [hs]
        refine ⟨b, rfl, ⟨k, he⟩, hpar, fun x hx hp => ?_⟩
        rcases hx with hx | ⟨-, hx⟩
        · by_cases c0 : t.getD v 0 < 0
          · exact absurd hp ((h.none_ v hv c0).2 x hx)
          · obtain ⟨u, h1, -, -, h4⟩ := h.some_ v hv (by omega)
            have := h4 x hx hp
            omega
        · omega
      · rw [ho v e] at h0 ⊢
        obtain ⟨u, h1, h2, h3, h4⟩ := h.some_ v hv h0
        refine ⟨u, h1, h2, h3, fun x hx hp => ?_⟩
        rcases hx with hx | ⟨hx, -⟩
        · exact h4 x hx hp
        · exact absurd hx e
  · rw [if_neg c]
    have hno : parQ d a b → 0 ≤ t.getD a 0 ∧ t.getD a 0 ≤ (b : Int) := fun ⟨p1, p2⟩ => by
      have : ¬ (t.getD a 0 < 0 ∨ (b : Int) < t.getD a 0) := fun q => c ⟨by omega, by omega, q⟩
      omega
    refine ⟨h.tl, fun v hv h0 => ⟨(h.none_ v hv h0).1, fun u hu => ?_⟩, fun v hv h0 => ?_⟩
    · rcases hu with hu | ⟨rfl, rfl⟩
      · exact (h.none_ v hv h0).2 u hu
      · intro hp; have := hno hp; omega
    · obtain ⟨u, h1, h2, h3, h4⟩ := h.some_ v hv h0
      refine ⟨u, h1, h2, h3, fun x hx hp => ?_⟩
      rcases hx with hx | ⟨rfl, rfl⟩
      · exact h4 x hx hp
      · have := hno hp; omega
def lateE (L : Prs) (i : Nat) (v u : Nat) : Prop := ∃ k, i ≤ k ∧ Edge L k u v
theorem TB.step {L : Prs} {n i : Nat} {d : List Int} {t : List Int} (hf : FitL n L) (hd : DG L n d) (h : TB L n d (lateE L (i + 1)) t) (hi : i < L.length) : TB L n d (lateE L i) (tturn d (endB L i) (endA L i) (tturn d (endA L i) (endB L i) t)) := by
  have hed : Edge L i (endA L i) (endB L i) := ⟨hi, .inl ⟨rfl, rfl⟩⟩
  refine ((h.turn hf hd hed.symm).turn hf hd hed).mono fun v u ⟨k, hk, he⟩ => ?_
  by_cases c : k = i
  · subst c
    rcases he.2 with ⟨h1, h2⟩ | ⟨h1, h2⟩
    · exact .inr ⟨h2.symm, h1.symm⟩
    · exact .inl (.inr ⟨h1.symm, h2.symm⟩)
  · exact .inl (.inl ⟨k, by omega, he⟩)
theorem TB.start {L : Prs} {n : Nat} {d : List Int} : TB L n d (lateE L L.length) (List.replicate n (-1)) := by
  have hz : ∀ v, v < n → (List.replicate n (-1 : Int)).getD v 0 = -1 := fun v hv => by rw [List.getD_eq_getElem?_getD, List.getElem?_replicate, if_pos hv]; rfl
  refine ⟨by simp, fun v hv _ => ⟨hz v hv, fun u ⟨k, hk, he⟩ => ?_⟩, fun v hv h0 => ?_⟩
  · have := he.1; omega
  · rw [hz v hv] at h0; omega
theorem TB.done {L : Prs} {n : Nat} {d : List Int} {t : List Int} (hf : FitL n L) (h : TB L n d (lateE L 0) t) : t = treeN L n d n := by
  refine List.ext_getElem (by rw [h.tl, treeN_len]) fun v h1 h2 => ?_
  have hv : v < n := by rw [← h.tl]; exact h1
  have e1 : t.getD v 0 = t[v] := by simp [List.getD, h1]
  have e2 : (treeN L n d n).getD v 0 = (treeN L n d n)[v] := by simp [List.getD, h2]
  rw [← e1, ← e2, treeN_at n (Nat.le_refl _) v hv, if_pos hv]
  have hpp : ∀ x : Nat × Nat, parP d v x = true ↔ parQ d v x.1 := fun x => by unfold parP parQ; simp
  cases hfd : (nbF L v).find? (parP d v) with
  | none =>
    rw [List.find?_eq_none] at hfd
    by_cases c : 0 ≤ t.getD v 0
    · obtain ⟨u, -, ⟨k, h3⟩, h4, -⟩ := h.some_ v hv c
      exact absurd ((hpp (u, k)).2 h4) (hfd _ (mem_nb.2 h3))
    · exact (h.none_ v hv (by omega)).1
  | some x =>
    obtain ⟨x1, k⟩ := x
    obtain ⟨g1, g2, g3⟩ := find_least (nb_up hf v) hfd
    have he := mem_nb.1 g1
    have hp := (hpp (x1, k)).1 g2
    by_cases c : 0 ≤ t.getD v 0
    · obtain ⟨u, h3, ⟨j, h4⟩, h5, h6⟩ := h.some_ v hv c
      have a1 := h6 x1 ⟨k, Nat.zero_le _, he⟩ hp
      have a2 := g3 (u, j) (mem_nb.2 h4) ((hpp (u, j)).2 h5)
      dsimp only at a2 ⊢
      omega
    · exact absurd hp ((h.none_ v hv (by omega)).2 x1 ⟨k, Nat.zero_le _, he⟩)

end Go.Proofs.Ytenilbofncfbdaa

namespace Go.Proofs.Ytenilbofncfbdaa
open Go.RowKit

theorem far_bd {n : Nat} {L : Prs} {a : Int} (hf : FitL n L) {u : Nat} (hu : u < n) : -1 ≤ (farI L n a).getD u 0 ∧ (farI L n a).getD u 0 < (n : Int) := by
  by_cases h : 0 ≤ a ∧ a < n
  · obtain ⟨z, rfl⟩ : ∃ z : Nat, a = (z : Int) := ⟨a.toNat, by omega⟩
    have hd := far_ok hf (show z < n by omega)
    refine ⟨hd.neg u hu, ?_⟩
    by_cases c : 0 ≤ (farI L n z).getD u 0
    · exact dist_short hf hd hu c
    · omega
  · unfold farI
    rw [if_neg h, List.getD_eq_getElem?_getD, List.getElem?_replicate, if_pos hu]
    exact ⟨by decide, by show (-1 : Int) < (n : Int); omega⟩

set_option maxRecDepth 100000 in
set_option maxHeartbeats 4000000 in
theorem rtree_any (w : World) (lv : Value) (n : Nat) (L : Prs) (a : Int) (hl : Lis w w.heap.size lv L) (hf : FitL n L) (hL : L.length ≤ 1000) (hn : n ≤ 16) :
    Calls Try.prog 29 #[.int .i64 (n : Int), lv, .int .i64 a] w fun e w' => (∃ yb, e = .returned (.slice (some ⟨yb, 0, none⟩) n n) ∧ RowI w' yb (treeI L n a) ∧ w.heap.size ≤ yb) ∧ Below w.heap.size w w' := by
  have HLI : Hid (∀ W, Below w.heap.size w W → Lis W w.heap.size lv L) := fun W hW => hl.below hW (Nat.le_refl _)
  have HF := Lib.hid hf
  have HDI := Lib.hid (rdist_any w lv n L a hl hf hL hn)
  have HBD : Hid (∀ u, u < n → -1 ≤ (farI L n a).getD u 0 ∧ (farI L n a).getD u 0 < (n : Int)) := fun u hu => far_bd hf hu
  have HDG : Hid (DG L n (farI L n a)) := far_dg hf
  have HT : Hid (treeI L n a = treeN L n (farI L n a) n) := rfl
  obtain ⟨E, hE⟩ : ∃ E, E = farI L n a := ⟨_, rfl⟩
  rw [← hE] at HDI HBD HDG HT
  obtain ⟨R, hR⟩ : ∃ R, R = treeI L n a := ⟨_, rfl⟩
  rw [← hR] at HT ⊢
  obtain ⟨al, ac, rfl, hac, hal⟩ := hl.slice
  obtain ⟨ml, hml⟩ : ∃ x, x = L.length := ⟨_, rfl⟩
  rw [← hml] at hac hal hL HDI HLI ⊢
  have HML := Lib.hid hml
  clear hl hf hml hE hR
  go_enter Try.func29, Try.ntmps29
  go_wp2_with (fail)
  refine HDI.out.mono ?_
  rintro e W1 ⟨⟨db, rfl, hdr, hdg⟩, hb1⟩
  have hdb : db < W1.heap.size := hdr.lt
  have HD1 : Hid (RowI W1 db E ∧ Below w.heap.size w W1) := ⟨hdr, hb1⟩
  clear hdr hdg hb1 HDI
  go_wp2_with (refine wpList_make_int rfl _ _ rfl n rfl rfl (by omega) ?_)
  intro tb W2 hrow hge hbel
  have HR : Hid (RowI W2 tb (List.replicate 0 (-1) ++ List.replicate (n - 0) 0)) := by show RowI _ _ _; simpa using hrow
  have HB : Hid (Below w.heap.size w W2) := HD1.out.2.trans (hbel.mono HD1.out.2.size)
  have HGE : Hid (w.heap.size ≤ tb) := Nat.le_trans HD1.out.2.size hge
  have HD : Hid (RowI W2 db E) := HD1.out.1.of (hbel.block db hdb)
  have HNE : Hid (db ≠ tb) := by show db ≠ tb; omega
  clear hrow hge hbel HD1 hdb
  go_wp2_with (fail)
  go_loopw [9] (fun kv wx => ∃ k : Nat, kv = .int .i64 (k : Int) ∧ k ≤ n ∧ Hid (RowI wx tb (List.replicate k (-1) ++ List.replicate (n - k) 0)) ∧ Hid (RowI wx db E) ∧ Hid (Below w.heap.size w wx)) (fun kv _ => n - (intOf kv).toNat)
  case atStart => exact ⟨0, rfl, Nat.zero_le _, HR.out, HD.out, HB.out⟩
  case round =>
    clear HR HB HD
    obtain ⟨k, rfl, hk, HR, HD, HB⟩ := hrel
    by_cases hlt : k < n
    · have cx := HR.out.cell k (by simp; omega)
      have fx := RowV.frozen HR.out k
      have hdl := HR.out.lt
      have hkn : 0 ≤ (k : Int) ∧ (k : Int) < (n : Int) := by omega
      have HR2 : Hid (RowI (wr.setCell ⟨tb, k, none⟩ (.int .i64 (-1))) tb (List.replicate (k + 1) (-1) ++ List.replicate (n - (k + 1)) 0)) := by
        have h := HR.out.set k (-1)
        have e : (List.replicate k (-1 : Int) ++ List.replicate (n - k) 0).set k (-1) = List.replicate (k + 1) (-1) ++ List.replicate (n - (k + 1)) 0 := by
          rw [show n - k = (n - (k + 1)) + 1 by omega, List.replicate_succ, List.set_append_right _ _ (by simp), List.length_replicate, Nat.sub_self, List.set_cons_zero, List.replicate_succ']
          simp
        rw [e] at h
        exact h
      have HB2 : Hid (Below w.heap.size w (wr.setCell ⟨tb, k, none⟩ (.int .i64 (-1)))) := bel_set HGE.out HB.out
      have HD2 : Hid (RowI (wr.setCell ⟨tb, k, none⟩ (.int .i64 (-1))) db E) := HD.out.of (Below.heap_setCell _ _ _ _ HNE.out)
      go_wp2_with (fail)
      go_roundw
      case rel => exact ⟨k + 1, by go_num, by omega, HR2.out, HD2.out, HB2.out⟩
      case measure => simp [intOf] <;> omega
    · obtain rfl : n = k := by omega
      have hr := HR.out
      rw [Nat.sub_self, show List.replicate 0 (0 : Int) = [] from rfl, List.append_nil] at hr
      have HR0 := Lib.hid hr
      clear HR hr
      have HST : Hid (TB L n E (lateE L ml) (List.replicate n (-1))) := by
        show TB L n E (lateE L ml) _
        rw [HML.out]
        exact TB.start
      go_wp2_with (fail)
      go_loopw [10] (fun iv wx => ∃ (j : Nat) (t : List Int), iv = .int .i64 ((j : Int) - 1) ∧ j ≤ ml ∧ Hid (TB L n E (lateE L j) t) ∧ Hid (RowI wx tb t) ∧ Hid (RowI wx db E) ∧ Hid (Below w.heap.size w wx)) (fun iv _ => (intOf iv + 1).toNat)
      case atStart => exact ⟨ml, _, by go_num, Nat.le_refl _, HST.out, HR0.out, HD.out, HB.out⟩
      case round =>
        clear HST HR0 HB HD
        obtain ⟨j, t, rfl, hj, HT1, HR, HD, HB⟩ := hrel
        by_cases hj0 : j = 0
        · subst hj0
          have HE : Hid (t = R) := (TB.done HF.out HT1.out).trans HT.out.symm
          go_wp2_with (fail)
          go_ret
          exact ⟨⟨tb, rfl, by rw [← HE.out]; exact HR.out, HGE.out⟩, HB.out⟩
        · obtain ⟨i, rfl⟩ : ∃ i, j = i + 1 := ⟨j - 1, by omega⟩
          rw [show ((i + 1 : Nat) : Int) - 1 = (i : Int) by omega]
          have hiL : i < L.length := by rw [← HML.out]; omega
          have hil : i < ml := by omega
          obtain ⟨bl, ol, e1, hl1, cA, cB⟩ := Lis.at (HLI.out wr HB.out) i hiL
          subst e1
          have hedge : Edge L i (endA L i) (endB L i) := ⟨hiL, .inl ⟨rfl, rfl⟩⟩
          have hed := edge_lt HF.out hedge
          have hnx := TB.step HF.out HDG.out HT1.out hiL
          have hdg := HDG.out.2 i _ _ hedge
          obtain ⟨x, hx⟩ : ∃ x, x = endA L i := ⟨_, rfl⟩
          obtain ⟨y, hy⟩ : ∃ x, x = endB L i := ⟨_, rfl⟩
          rw [← hx] at cA hed hnx hdg
          rw [← hy] at cB hed hnx hdg
          obtain ⟨hxn, hyn, hxy⟩ := hed
          have hEl : E.length = n := HDG.out.1
          have htl : t.length = n := HT1.out.tl
          have cdx := HD.out.cell x (by rw [hEl]; exact hxn)
          have cdy := HD.out.cell y (by rw [hEl]; exact hyn)
          have ctx := HR.out.cell x (by rw [htl]; exact hxn)
          have cty := HR.out.cell y (by rw [htl]; exact hyn)
          have ftx := RowV.frozen HR.out x
          have fty := RowV.frozen HR.out y
          have hdl := HR.out.lt
          have hx2 : 0 ≤ (x : Int) ∧ (x : Int) < (n : Int) := by omega
          have hy2 : 0 ≤ (y : Int) ∧ (y : Int) < (n : Int) := by omega
          have hi2 : 0 ≤ (i : Int) ∧ (i : Int) < (ml : Int) := by omega
          have HNX := Lib.hid hnx
          have bx := HBD.out x hxn
          have by_ := HBD.out y hyn
          obtain ⟨dx, hdx⟩ : ∃ q, q = E.getD x 0 := ⟨_, rfl⟩
          obtain ⟨dy, hdy⟩ : ∃ q, q = E.getD y 0 := ⟨_, rfl⟩
          obtain ⟨tx, htx⟩ : ∃ q, q = t.getD x 0 := ⟨_, rfl⟩
          obtain ⟨ty, hty⟩ : ∃ q, q = t.getD y 0 := ⟨_, rfl⟩
          rw [← hdx] at cdx hdg bx
          rw [← hdy] at cdy hdg by_
          rw [← htx] at ctx
          rw [← hty] at cty
          have HDX : Hid (E.getD x 0 = dx ∧ E.getD y 0 = dy ∧ t.getD x 0 = tx ∧ t.getD y 0 = ty ∧ t.length = n) := ⟨hdx.symm, hdy.symm, htx.symm, hty.symm, htl⟩
          have hll : bl < wr.heap.size := by have := HB.out.size; omega
          have HXY : Hid (x ≠ y) := hxy
          have HDG2 := Lib.hid hdg
          clear hx hy hnx hdx hdy htx hty hiL hedge hxy htl hEl hdg
          rcases HDG2.out with ⟨q1, q2⟩ | ⟨q1, q2, q3, q4⟩
          · have g1 : decide (0 ≤ dx) = false := by rw [decide_eq_false_iff_not]; omega
            have g2 : decide (0 ≤ dy) = false := by rw [decide_eq_false_iff_not]; omega
            clear HDG2
            go_wp2_with (fail)
            go_quiet (fail)
            generalize hwa : World.drewN wr _ = wa
            replace cdx : wa.cell? ⟨db, x, none⟩ = some (.int .i64 dx) := by rw [← hwa]; exact cdx
            replace cdy : wa.cell? ⟨db, y, none⟩ = some (.int .i64 dy) := by rw [← hwa]; exact cdy
            replace ctx : wa.cell? ⟨tb, x, none⟩ = some (.int .i64 tx) := by rw [← hwa]; exact ctx
            replace cty : wa.cell? ⟨tb, y, none⟩ = some (.int .i64 ty) := by rw [← hwa]; exact cty
            replace ftx : wa.frozen? ⟨tb, x, none⟩ = false := by rw [← hwa]; exact ftx
            replace fty : wa.frozen? ⟨tb, y, none⟩ = false := by rw [← hwa]; exact fty
            replace hdl : tb < wa.heap.size := by rw [← hwa]; exact hdl
            replace HR : Hid (RowI wa tb t) := by rw [← hwa]; exact HR
            replace HD : Hid (RowI wa db E) := by rw [← hwa]; exact HD
            replace HB : Hid (Below w.heap.size w wa) := by rw [← hwa]; exact HB.out.trans (bdN _ _ _)
            clear hwa cA cB
            have HE : Hid (TB L n E (lateE L i) t) := by
              have h := HNX.out
              rw [show tturn E x y t = t by unfold tturn; rw [HDX.out.1, HDX.out.2.1, HDX.out.2.2.1]; exact if_neg (by omega)] at h
              rw [show tturn E y x t = t by unfold tturn; rw [HDX.out.1, HDX.out.2.1, HDX.out.2.2.2.1]; exact if_neg (by omega)] at h
              exact h
            go_wp2_with (fail)
            go_quiet (fail)
            go_wp2_with (fail)
            go_roundw
            case rel => exact ⟨i, _, by go_num, by omega, HE.out, HR.out.of rfl, HD.out.of rfl, HB.out.trans (bdN _ _ _)⟩
            case measure => simp [intOf] <;> omega
          · have g1 : decide (0 ≤ dx) = true := by rw [decide_eq_true_iff]; omega
            have g2 : decide (0 ≤ dy) = true := by rw [decide_eq_true_iff]; omega
            clear HDG2
            by_cases c1 : dx = dy + 1
            · have g3 : (dx == (dy + 1)) = true := by rw [beq_iff_eq]; omega
              have g4 : (dy == (dx + 1)) = false := by rw [beq_eq_false_iff_ne]; omega
              have C1 := Lib.hid c1
              clear c1
              by_cases c2 : tx < 0
              · have g5 : decide (tx < 0) = true := by rw [decide_eq_true_iff]; exact c2
                go_wp2_with (fail)
                go_quiet (fail)
                generalize hwa : World.drewN wr _ = wa
                replace cdx : wa.cell? ⟨db, x, none⟩ = some (.int .i64 dx) := by rw [← hwa]; exact cdx
                replace cdy : wa.cell? ⟨db, y, none⟩ = some (.int .i64 dy) := by rw [← hwa]; exact cdy
                replace ctx : wa.cell? ⟨tb, x, none⟩ = some (.int .i64 tx) := by rw [← hwa]; exact ctx
                replace cty : wa.cell? ⟨tb, y, none⟩ = some (.int .i64 ty) := by rw [← hwa]; exact cty
                replace ftx : wa.frozen? ⟨tb, x, none⟩ = false := by rw [← hwa]; exact ftx
                replace fty : wa.frozen? ⟨tb, y, none⟩ = false := by rw [← hwa]; exact fty
                replace hdl : tb < wa.heap.size := by rw [← hwa]; exact hdl
                replace HR : Hid (RowI wa tb t) := by rw [← hwa]; exact HR
                replace HD : Hid (RowI wa db E) := by rw [← hwa]; exact HD
                replace HB : Hid (Below w.heap.size w wa) := by rw [← hwa]; exact HB.out.trans (bdN _ _ _)
                clear hwa cA cB
                have HE : Hid (TB L n E (lateE L i) (t.set x (y : Int))) := by
                  have h := HNX.out
                  have c1 := C1.out
                  rw [show tturn E x y t = t.set x (y : Int) by unfold tturn; rw [HDX.out.1, HDX.out.2.1, HDX.out.2.2.1]; exact if_pos ⟨by omega, by omega, by omega⟩] at h
                  rw [show tturn E y x (t.set x (y : Int)) = t.set x (y : Int) by unfold tturn; rw [HDX.out.1, HDX.out.2.1]; exact if_neg (by omega)] at h
                  exact h
                have HR1 : Hid (RowI (wa.setCell ⟨tb, x, none⟩ (.int .i64 (y : Int))) tb (t.set x (y : Int))) := HR.out.set x (y : Int)
                have HB1 : Hid (Below w.heap.size w (wa.setCell ⟨tb, x, none⟩ (.int .i64 (y : Int)))) := bel_set HGE.out HB.out
                have HD1 : Hid (RowI (wa.setCell ⟨tb, x, none⟩ (.int .i64 (y : Int))) db E) := HD.out.of (Below.heap_setCell _ _ _ _ HNE.out)
                have cdx1 : (wa.setCell ⟨tb, x, none⟩ (.int .i64 (y : Int))).cell? ⟨db, x, none⟩ = some (.int .i64 dx) := by
                  have h := HD1.out.cell x (by rw [HDG.out.1]; exact hxn)
                  rwa [HDX.out.1] at h
                have cdy1 : (wa.setCell ⟨tb, x, none⟩ (.int .i64 (y : Int))).cell? ⟨db, y, none⟩ = some (.int .i64 dy) := by
                  have h := HD1.out.cell y (by rw [HDG.out.1]; exact hyn)
                  rwa [HDX.out.2.1] at h
                go_wp2_with (fail)
                go_quiet (fail)
                go_wp2_with (fail)
                go_roundw
                case rel => exact ⟨i, _, by go_num, by omega, HE.out, HR1.out.of rfl, HD1.out.of rfl, HB1.out.trans (bdN _ _ _)⟩
                case measure => simp [intOf] <;> omega
              · have g5 : decide (tx < 0) = false := by rw [decide_eq_false_iff_not]; exact c2
                by_cases c3 : (y : Int) < tx
                · have g6 : decide ((y : Int) < tx) = true := by rw [decide_eq_true_iff]; exact c3
                  go_wp2_with (fail)
                  go_quiet (fail)
                  generalize hwa : World.drewN wr _ = wa
                  replace cdx : wa.cell? ⟨db, x, none⟩ = some (.int .i64 dx) := by rw [← hwa]; exact cdx
                  replace cdy : wa.cell? ⟨db, y, none⟩ = some (.int .i64 dy) := by rw [← hwa]; exact cdy
                  replace ctx : wa.cell? ⟨tb, x, none⟩ = some (.int .i64 tx) := by rw [← hwa]; exact ctx
                  replace cty : wa.cell? ⟨tb, y, none⟩ = some (.int .i64 ty) := by rw [← hwa]; exact cty
                  replace ftx : wa.frozen? ⟨tb, x, none⟩ = false := by rw [← hwa]; exact ftx
                  replace fty : wa.frozen? ⟨tb, y, none⟩ = false := by rw [← hwa]; exact fty
                  replace hdl : tb < wa.heap.size := by rw [← hwa]; exact hdl
                  replace HR : Hid (RowI wa tb t) := by rw [← hwa]; exact HR
                  replace HD : Hid (RowI wa db E) := by rw [← hwa]; exact HD
                  replace HB : Hid (Below w.heap.size w wa) := by rw [← hwa]; exact HB.out.trans (bdN _ _ _)
                  clear hwa cA cB
                  have HE : Hid (TB L n E (lateE L i) (t.set x (y : Int))) := by
                    have h := HNX.out
                    have c1 := C1.out
                    rw [show tturn E x y t = t.set x (y : Int) by unfold tturn; rw [HDX.out.1, HDX.out.2.1, HDX.out.2.2.1]; exact if_pos ⟨by omega, by omega, by omega⟩] at h
                    rw [show tturn E y x (t.set x (y : Int)) = t.set x (y : Int) by unfold tturn; rw [HDX.out.1, HDX.out.2.1]; exact if_neg (by omega)] at h
                    exact h
                  have HR1 : Hid (RowI (wa.setCell ⟨tb, x, none⟩ (.int .i64 (y : Int))) tb (t.set x (y : Int))) := HR.out.set x (y : Int)
                  have HB1 : Hid (Below w.heap.size w (wa.setCell ⟨tb, x, none⟩ (.int .i64 (y : Int)))) := bel_set HGE.out HB.out
                  have HD1 : Hid (RowI (wa.setCell ⟨tb, x, none⟩ (.int .i64 (y : Int))) db E) := HD.out.of (Below.heap_setCell _ _ _ _ HNE.out)
                  have cdx1 : (wa.setCell ⟨tb, x, none⟩ (.int .i64 (y : Int))).cell? ⟨db, x, none⟩ = some (.int .i64 dx) := by
                    have h := HD1.out.cell x (by rw [HDG.out.1]; exact hxn)
                    rwa [HDX.out.1] at h
                  have cdy1 : (wa.setCell ⟨tb, x, none⟩ (.int .i64 (y : Int))).cell? ⟨db, y, none⟩ = some (.int .i64 dy) := by
                    have h := HD1.out.cell y (by rw [HDG.out.1]; exact hyn)
                    rwa [HDX.out.2.1] at h
                  go_wp2_with (fail)
                  go_quiet (fail)
                  go_wp2_with (fail)
                  go_roundw
                  case rel => exact ⟨i, _, by go_num, by omega, HE.out, HR1.out.of rfl, HD1.out.of rfl, HB1.out.trans (bdN _ _ _)⟩
                  case measure => simp [intOf] <;> omega
                · have g6 : decide ((y : Int) < tx) = false := by rw [decide_eq_false_iff_not]; exact c3
                  go_wp2_with (fail)
                  go_quiet (fail)
                  generalize hwa : World.drewN wr _ = wa
                  replace cdx : wa.cell? ⟨db, x, none⟩ = some (.int .i64 dx) := by rw [← hwa]; exact cdx
                  replace cdy : wa.cell? ⟨db, y, none⟩ = some (.int .i64 dy) := by rw [← hwa]; exact cdy
                  replace ctx : wa.cell? ⟨tb, x, none⟩ = some (.int .i64 tx) := by rw [← hwa]; exact ctx
                  replace cty : wa.cell? ⟨tb, y, none⟩ = some (.int .i64 ty) := by rw [← hwa]; exact cty
                  replace ftx : wa.frozen? ⟨tb, x, none⟩ = false := by rw [← hwa]; exact ftx
                  replace fty : wa.frozen? ⟨tb, y, none⟩ = false := by rw [← hwa]; exact fty
                  replace hdl : tb < wa.heap.size := by rw [← hwa]; exact hdl
                  replace HR : Hid (RowI wa tb t) := by rw [← hwa]; exact HR
                  replace HD : Hid (RowI wa db E) := by rw [← hwa]; exact HD
                  replace HB : Hid (Below w.heap.size w wa) := by rw [← hwa]; exact HB.out.trans (bdN _ _ _)
                  clear hwa cA cB
                  have HE : Hid (TB L n E (lateE L i) t) := by
                    have h := HNX.out
                    have c1 := C1.out
                    rw [show tturn E x y t = t by unfold tturn; rw [HDX.out.1, HDX.out.2.1, HDX.out.2.2.1]; exact if_neg (by omega)] at h
                    rw [show tturn E y x t = t by unfold tturn; rw [HDX.out.1, HDX.out.2.1, HDX.out.2.2.2.1]; exact if_neg (by omega)] at h
                    exact h
                  go_wp2_with (fail)
                  go_quiet (fail)
                  go_wp2_with (fail)
                  go_roundw
                  case rel => exact ⟨i, _, by go_num, by omega, HE.out, HR.out.of rfl, HD.out.of rfl, HB.out.trans (bdN _ _ _)⟩
                  case measure => simp [intOf] <;> omega
            · have g3 : (dx == (dy + 1)) = false := by rw [beq_eq_false_iff_ne]; omega
              by_cases c4 : dy = dx + 1
              · have g4 : (dy == (dx + 1)) = true := by rw [beq_iff_eq]; omega
                have C1 := Lib.hid c4
                clear c4 c1
                by_cases c2 : ty < 0
                · have g5 : decide (ty < 0) = true := by rw [decide_eq_true_iff]; exact c2
                  go_wp2_with (fail)
                  go_quiet (fail)
                  generalize hwa : World.drewN wr _ = wa
                  replace cdx : wa.cell? ⟨db, x, none⟩ = some (.int .i64 dx) := by rw [← hwa]; exact cdx
                  replace cdy : wa.cell? ⟨db, y, none⟩ = some (.int .i64 dy) := by rw [← hwa]; exact cdy
                  replace ctx : wa.cell? ⟨tb, x, none⟩ = some (.int .i64 tx) := by rw [← hwa]; exact ctx
                  replace cty : wa.cell? ⟨tb, y, none⟩ = some (.int .i64 ty) := by rw [← hwa]; exact cty
                  replace ftx : wa.frozen? ⟨tb, x, none⟩ = false := by rw [← hwa]; exact ftx
                  replace fty : wa.frozen? ⟨tb, y, none⟩ = false := by rw [← hwa]; exact fty
                  replace hdl : tb < wa.heap.size := by rw [← hwa]; exact hdl
                  replace HR : Hid (RowI wa tb t) := by rw [← hwa]; exact HR
                  replace HD : Hid (RowI wa db E) := by rw [← hwa]; exact HD
                  replace HB : Hid (Below w.heap.size w wa) := by rw [← hwa]; exact HB.out.trans (bdN _ _ _)
                  clear hwa cA cB
                  have HE : Hid (TB L n E (lateE L i) (t.set y (x : Int))) := by
                    have h := HNX.out
                    have c1 := C1.out
                    rw [show tturn E x y t = t by unfold tturn; rw [HDX.out.1, HDX.out.2.1, HDX.out.2.2.1]; exact if_neg (by omega)] at h
                    rw [show tturn E y x t = t.set y (x : Int) by unfold tturn; rw [HDX.out.1, HDX.out.2.1, HDX.out.2.2.2.1]; exact if_pos ⟨by omega, by omega, by omega⟩] at h
                    exact h
                  have HR1 : Hid (RowI (wa.setCell ⟨tb, y, none⟩ (.int .i64 (x : Int))) tb (t.set y (x : Int))) := HR.out.set y (x : Int)
                  have HB1 : Hid (Below w.heap.size w (wa.setCell ⟨tb, y, none⟩ (.int .i64 (x : Int)))) := bel_set HGE.out HB.out
                  have HD1 : Hid (RowI (wa.setCell ⟨tb, y, none⟩ (.int .i64 (x : Int))) db E) := HD.out.of (Below.heap_setCell _ _ _ _ HNE.out)
                  go_wp2_with (fail)
                  go_quiet (fail)
                  go_wp2_with (fail)
                  go_roundw
                  case rel => exact ⟨i, _, by go_num, by omega, HE.out, HR1.out.of rfl, HD1.out.of rfl, HB1.out.trans (bdN _ _ _)⟩
                  case measure => simp [intOf] <;> omega
                · have g5 : decide (ty < 0) = false := by rw [decide_eq_false_iff_not]; exact c2
                  by_cases c3 : (x : Int) < ty
                  · have g6 : decide ((x : Int) < ty) = true := by rw [decide_eq_true_iff]; exact c3
                    go_wp2_with (fail)
                    go_quiet (fail)
                    generalize hwa : World.drewN wr _ = wa
                    replace cdx : wa.cell? ⟨db, x, none⟩ = some (.int .i64 dx) := by rw [← hwa]; exact cdx
                    replace cdy : wa.cell? ⟨db, y, none⟩ = some (.int .i64 dy) := by rw [← hwa]; exact cdy
                    replace ctx : wa.cell? ⟨tb, x, none⟩ = some (.int .i64 tx) := by rw [← hwa]; exact ctx
                    replace cty : wa.cell? ⟨tb, y, none⟩ = some (.int .i64 ty) := by rw [← hwa]; exact cty
                    replace ftx : wa.frozen? ⟨tb, x, none⟩ = false := by rw [← hwa]; exact ftx
                    replace fty : wa.frozen? ⟨tb, y, none⟩ = false := by rw [← hwa]; exact fty
                    replace hdl : tb < wa.heap.size := by rw [← hwa]; exact hdl
                    replace HR : Hid (RowI wa tb t) := by rw [← hwa]; exact HR
                    replace HD : Hid (RowI wa db E) := by rw [← hwa]; exact HD
                    replace HB : Hid (Below w.heap.size w wa) := by rw [← hwa]; exact HB.out.trans (bdN _ _ _)
                    clear hwa cA cB
                    have HE : Hid (TB L n E (lateE L i) (t.set y (x : Int))) := by
                      have h := HNX.out
                      have c1 := C1.out
                      rw [show tturn E x y t = t by unfold tturn; rw [HDX.out.1, HDX.out.2.1, HDX.out.2.2.1]; exact if_neg (by omega)] at h
                      rw [show tturn E y x t = t.set y (x : Int) by unfold tturn; rw [HDX.out.1, HDX.out.2.1, HDX.out.2.2.2.1]; exact if_pos ⟨by omega, by omega, by omega⟩] at h
                      exact h
                    have HR1 : Hid (RowI (wa.setCell ⟨tb, y, none⟩ (.int .i64 (x : Int))) tb (t.set y (x : Int))) := HR.out.set y (x : Int)
                    have HB1 : Hid (Below w.heap.size w (wa.setCell ⟨tb, y, none⟩ (.int .i64 (x : Int)))) := bel_set HGE.out HB.out
                    have HD1 : Hid (RowI (wa.setCell ⟨tb, y, none⟩ (.int .i64 (x : Int))) db E) := HD.out.of (Below.heap_setCell _ _ _ _ HNE.out)
                    go_wp2_with (fail)
                    go_quiet (fail)
                    go_wp2_with (fail)
                    go_roundw
                    case rel => exact ⟨i, _, by go_num, by omega, HE.out, HR1.out.of rfl, HD1.out.of rfl, HB1.out.trans (bdN _ _ _)⟩
                    case measure => simp [intOf] <;> omega
                  · have g6 : decide ((x : Int) < ty) = false := by rw [decide_eq_false_iff_not]; exact c3
                    go_wp2_with (fail)
                    go_quiet (fail)
                    generalize hwa : World.drewN wr _ = wa
                    replace cdx : wa.cell? ⟨db, x, none⟩ = some (.int .i64 dx) := by rw [← hwa]; exact cdx
                    replace cdy : wa.cell? ⟨db, y, none⟩ = some (.int .i64 dy) := by rw [← hwa]; exact cdy
                    replace ctx : wa.cell? ⟨tb, x, none⟩ = some (.int .i64 tx) := by rw [← hwa]; exact ctx
                    replace cty : wa.cell? ⟨tb, y, none⟩ = some (.int .i64 ty) := by rw [← hwa]; exact cty
                    replace ftx : wa.frozen? ⟨tb, x, none⟩ = false := by rw [← hwa]; exact ftx
                    replace fty : wa.frozen? ⟨tb, y, none⟩ = false := by rw [← hwa]; exact fty
                    replace hdl : tb < wa.heap.size := by rw [← hwa]; exact hdl
                    replace HR : Hid (RowI wa tb t) := by rw [← hwa]; exact HR
                    replace HD : Hid (RowI wa db E) := by rw [← hwa]; exact HD
                    replace HB : Hid (Below w.heap.size w wa) := by rw [← hwa]; exact HB.out.trans (bdN _ _ _)
                    clear hwa cA cB
                    have HE : Hid (TB L n E (lateE L i) t) := by
                      have h := HNX.out
                      have c1 := C1.out
                      rw [show tturn E x y t = t by unfold tturn; rw [HDX.out.1, HDX.out.2.1, HDX.out.2.2.1]; exact if_neg (by omega)] at h
                      rw [show tturn E y x t = t by unfold tturn; rw [HDX.out.1, HDX.out.2.1, HDX.out.2.2.2.1]; exact if_neg (by omega)] at h
                      exact h
                    go_wp2_with (fail)
                    go_quiet (fail)
                    go_wp2_with (fail)
                    go_roundw
                    case rel => exact ⟨i, _, by go_num, by omega, HE.out, HR.out.of rfl, HD.out.of rfl, HB.out.trans (bdN _ _ _)⟩
                    case measure => simp [intOf] <;> omega
              · have g4 : (dy == (dx + 1)) = false := by rw [beq_eq_false_iff_ne]; omega
                go_wp2_with (fail)
                go_quiet (fail)
                generalize hwa : World.drewN wr _ = wa
                replace cdx : wa.cell? ⟨db, x, none⟩ = some (.int .i64 dx) := by rw [← hwa]; exact cdx
                replace cdy : wa.cell? ⟨db, y, none⟩ = some (.int .i64 dy) := by rw [← hwa]; exact cdy
                replace ctx : wa.cell? ⟨tb, x, none⟩ = some (.int .i64 tx) := by rw [← hwa]; exact ctx
                replace cty : wa.cell? ⟨tb, y, none⟩ = some (.int .i64 ty) := by rw [← hwa]; exact cty
                replace ftx : wa.frozen? ⟨tb, x, none⟩ = false := by rw [← hwa]; exact ftx
                replace fty : wa.frozen? ⟨tb, y, none⟩ = false := by rw [← hwa]; exact fty
                replace hdl : tb < wa.heap.size := by rw [← hwa]; exact hdl
                replace HR : Hid (RowI wa tb t) := by rw [← hwa]; exact HR
                replace HD : Hid (RowI wa db E) := by rw [← hwa]; exact HD
                replace HB : Hid (Below w.heap.size w wa) := by rw [← hwa]; exact HB.out.trans (bdN _ _ _)
                clear hwa cA cB
                have HE : Hid (TB L n E (lateE L i) t) := by
                  have h := HNX.out
                  rw [show tturn E x y t = t by unfold tturn; rw [HDX.out.1, HDX.out.2.1, HDX.out.2.2.1]; exact if_neg (by omega)] at h
                  rw [show tturn E y x t = t by unfold tturn; rw [HDX.out.1, HDX.out.2.1, HDX.out.2.2.2.1]; exact if_neg (by omega)] at h
                  exact h
                go_wp2_with (fail)
                go_quiet (fail)
                go_wp2_with (fail)
                go_roundw
                case rel => exact ⟨i, _, by go_num, by omega, HE.out, HR.out.of rfl, HD.out.of rfl, HB.out.trans (bdN _ _ _)⟩
                case measure => simp [intOf] <;> omega

end Go.Proofs.Ytenilbofncfbdaa

namespace Go.Proofs.Ytenilbofncfbdaa
open Go.RowKit

theorem flat_len : ∀ (xs : Ipr), (xs.flatMap lkV).length = xs.length * 2 := by
  intro xs
  induction xs with
  | nil => rfl
  | cons x r ih => rw [List.flatMap_cons, List.length_append, ih, List.length_cons]; show 2 + _ = _; omega
theorem flat_at (xs : Ipr) {j : Nat} {u : Value} (h : (xs.flatMap lkV)[j]? = some u) : ∃ i, i < xs.length ∧ ((j = i * 2 ∧ u = .int .i64 (xs.getD i (0, 0)).1) ∨ (j = i * 2 + 1 ∧ u = .int .i64 (xs.getD i (0, 0)).2)) := by
  have hj : j < (xs.flatMap lkV).length := (List.getElem?_eq_some_iff.1 h).1
  rw [flat_len] at hj
  have hi : j / 2 < xs.length := by omega
  refine ⟨j / 2, hi, ?_⟩
  obtain ⟨h1, h2⟩ := flat_get xs (j / 2) hi
  by_cases e : j = j / 2 * 2
  · left
    rw [e, h1] at h
    exact ⟨e, by cases h; rfl⟩
  · right
    have e2 : j = j / 2 * 2 + 1 := by omega
    rw [e2, h2] at h
    exact ⟨e2, by cases h; rfl⟩
/-- append of whatever links to no row -/
theorem wpList_append_ls {w : World} {ops : Array Oper} {rest : List Oper} {o : Oper} {a : Act} {Q : Exit → Act → World → Prop} (hgd : o.guard = none) (s x : Operand)
    (ho : o.op = .call { callee := .builtin .append, args := #[s, x], argTypes := #[22, 22] })
    (v : Value) (xs : Ipr) (hs : a.eval s = .slice none 0 0) (hx : a.eval x = v) (hl : Lks w w.heap.size v xs) (hlen : xs.length ≤ 1000)
    (h : ∀ v' w', OwnL w' w.heap.size v' xs → Below w.heap.size w w' → wpList Try.prog ops Q rest (a.put o.dst v') w') : wpList Try.prog ops Q (o :: rest) a w := by
  obtain ⟨i0, hi, hz0, hz1, hz2⟩ := info_parts info_link
  obtain ⟨ao, cap, rfl, h2, h3, h4, h5⟩ := hl
  cases ao with
  | none =>
    obtain rfl : cap = 0 := h4 rfl
    obtain rfl : xs = [] := List.eq_nil_of_length_eq_zero (by omega)
    exact wpList_append_own_none hgd s x _ ho w.heap.size 38 i0 2 Try.underlying22 hi _ 0 [] hs (OwnL.nil w w.heap.size) hx (h _ w (OwnL.nil w w.heap.size) (Below.refl _ _))
  | some ad =>
    refine wpList_append_own _ hgd s x _ ho w.heap.size 38 i0 _ 2 16 Try.underlying22 hi hz0 hz1 hz2 rfl (by decide) _ 0 [] hs (OwnL.nil w w.heap.size) ad xs.length cap (xs.flatMap lkV) hx (flat_len xs) ?_ ?_ (by unfold maxLen; omega) (by omega) (Nat.le_refl _) ?_
    · intro j u hj
      obtain ⟨i, hi2, hju⟩ := flat_at xs hj
      obtain ⟨b, off, e, hb, hc⟩ := h5 (by intro e; subst e; cases hi2)
      cases e
      obtain ⟨c1, c2⟩ := hc _ hi2
      rw [Addr.add_lit]
      rcases hju with ⟨ej, rfl⟩ | ⟨ej, rfl⟩
      · subst ej; exact c1
      · subst ej; rw [← Nat.add_assoc]; exact c2
    · intro u hu
      obtain ⟨y, -, hy⟩ := List.mem_flatMap.1 hu
      simp [lkV] at hy
      rcases hy with rfl | rfl <;> rfl
    · intro v' w' hown' hg' _
      refine h v' w' ?_ ((Below.refl _ w).grown hg' (Nat.le_refl _) (fun k hk => by cases hk))
      unfold OwnL
      simpa using hown'

set_option maxRecDepth 100000 in
set_option maxHeartbeats 4000000 in
theorem law_CutsFalls (W : World) (n : Int) (v : Value) (a : Int) (xs : Ipr) (hx : Lks W W.heap.size v xs) :
    Calls Try.prog 7 #[.int .i64 n, v, .int .i64 a] W fun e w' => e = .returned (.bool true) ∧ Below W.heap.size W w' := by
  have HFA := Lib.hid (fit_any W n v xs hx)
  have HFB : Hid (∀ w, Below W.heap.size W w → Calls Try.prog 17 #[.int .i64 n, v] w fun e w' => e = .returned (.bool (fitB n xs)) ∧ Below w.heap.size w w') := fun w hw => rfit_any w n v xs (hx.below hw hw.size)
  by_cases hf : FitX n xs
  · rw [fitB_true hf] at HFA HFB
    obtain ⟨m, L, rfl, rfl, hfl, hm1, hm16⟩ := hf.nodes
    have hL : L.length ≤ 1000 := Nat.le_trans (fit_len hfl hm16) (by decide)
    have hLp : (prI L).length ≤ 1000 := by rw [prI_len]; exact hL
    have HLI : Hid (∀ w, Below W.heap.size W w → Lis w w.heap.size v L) := fun w hw => hx.below hw hw.size
    have HLP := Lib.hid hLp
    have HRB : Hid (∀ w, Below W.heap.size W w → Calls Try.prog 25 #[.int .i64 (m : Int), v] w fun e w' => (∃ v, e = .returned v ∧ OwnL w' w.heap.size v (prI (bridgesI L m))) ∧ Below w.heap.size w w') := fun w hw => rbridges_any w v m L (hx.below hw hw.size) hfl hL hm16
    have HRJ : Hid (∀ w, Below W.heap.size W w → Calls Try.prog 27 #[.int .i64 (m : Int), v] w fun e w' => (∃ v, e = .returned v ∧ OwnN w' w.heap.size v (nI (jointsI L m))) ∧ Below w.heap.size w w') := fun w hw => rjoints_any w v m L (hx.below hw hw.size) hfl hL hm16
    have HRT : Hid (∀ w, Below W.heap.size W w → Calls Try.prog 29 #[.int .i64 (m : Int), v, .int .i64 a] w fun e w' => (∃ yb, e = .returned (.slice (some ⟨yb, 0, none⟩) m m) ∧ RowI w' yb (treeI L m a) ∧ w.heap.size ≤ yb) ∧ Below w.heap.size w w') := fun w hw => rtree_any w v m L a (hx.below hw hw.size) hfl hL hm16
    have HRK : Hid (∀ w, Below W.heap.size W w → Calls Try.prog 30 #[.int .i64 (m : Int), v] w fun e w' => (∃ v, e = .returned v ∧ OwnG w' w.heap.size v (nII (blocksI L m))) ∧ Below w.heap.size w w') := fun w hw => rblocks_any w v m L (hx.below hw hw.size) hfl hL hm16
    have HCB : Hid (∀ w u, Lis w w.heap.size u L → Calls Try.prog 21 #[.int .i64 (m : Int), u] w fun e w' => (∃ v, e = .returned v ∧ OwnL w' w.heap.size v (prI (bridgesI L m))) ∧ Below w.heap.size w w') := fun w u hu => bridges_any w u m L hu hfl hL hm16
    have HCJ : Hid (∀ w u, Lis w w.heap.size u L → Calls Try.prog 22 #[.int .i64 (m : Int), u] w fun e w' => (∃ v, e = .returned v ∧ OwnN w' w.heap.size v (nI (jointsI L m))) ∧ Below w.heap.size w w') := fun w u hu => joints_any w u m L hu hfl hL hm16
    have HCT : Hid (∀ w u, Lis w w.heap.size u L → Calls Try.prog 28 #[.int .i64 (m : Int), u, .int .i64 a] w fun e w' => (∃ yb, e = .returned (.slice (some ⟨yb, 0, none⟩) m m) ∧ RowI w' yb (treeI L m a) ∧ w.heap.size ≤ yb) ∧ Below w.heap.size w w') := fun w u hu => tree_any w u m L a hu hfl hm16 hm1
    have HCK : Hid (∀ w u, Lis w w.heap.size u L → Calls Try.prog 23 #[.int .i64 (m : Int), u] w fun e w' => (∃ v, e = .returned v ∧ OwnG w' w.heap.size v (nII (blocksI L m))) ∧ Below w.heap.size w w') := fun w u hu => blocks_any w u m L hu hfl hL hm16
    have HLL : Hid (∀ w u1 u2 ys, Lks w w.heap.size u1 ys → Lks w w.heap.size u2 ys → Calls Try.prog 14 #[u1, u2] w fun e w' => e = .returned (.bool true) ∧ Below w.heap.size w w') := fun w u1 u2 ys h1 h2 => by simpa using links_any w u1 u2 ys ys h1 h2
    have HII : Hid (∀ w u1 u2 ys, Its w w.heap.size u1 ys → Its w w.heap.size u2 ys → Calls Try.prog 26 #[u1, u2] w fun e w' => e = .returned (.bool true) ∧ Below w.heap.size w w') := fun w u1 u2 ys h1 h2 => by simpa using ints_any w u1 u2 ys ys h1 h2
    have HTL : Hid ((treeI L m a).length = m) := treeN_len m
    obtain ⟨T, hT⟩ : ∃ T, T = treeI L m a := ⟨_, rfl⟩
    obtain ⟨J, hJ⟩ : ∃ J, J = nI (jointsI L m) := ⟨_, rfl⟩
    obtain ⟨B, hB⟩ : ∃ B, B = prI (bridgesI L m) := ⟨_, rfl⟩
    obtain ⟨K, hK⟩ : ∃ K, K = nII (blocksI L m) := ⟨_, rfl⟩
    rw [← hT] at HCT HRT HTL
    rw [← hJ] at HCJ HRJ
    rw [← hB] at HCB HRB
    rw [← hK] at HCK HRK
    clear hx hf hfl hT hJ hB hK hL hLp
    have HM : Hid (m ≤ 16) := hm16
    go_enter Try.func7, Try.ntmps7
    go_wp2_with (fail)
    refine HFA.out.mono ?_
    rintro e W1 ⟨rfl, hb⟩
    have HB1 : Hid (Below W.heap.size W W1) := hb
    clear hb HFA
    go_wp2_with (fail)
    refine (HFB.out W1 HB1.out).mono ?_
    rintro e W2 ⟨rfl, hb⟩
    have HB2 : Hid (Below W.heap.size W W2) := HB1.out.trans (hb.mono HB1.out.size)
    clear hb HB1
    go_wp2_with (fail)
    refine (HFB.out W2 HB2.out).mono ?_
    rintro e W3 ⟨rfl, hb⟩
    have HB3 : Hid (Below W.heap.size W W3) := HB2.out.trans (hb.mono HB2.out.size)
    clear hb HB2 HFB
    go_wp2_with (refine wpList_append_ls rfl _ _ rfl v (prI L) rfl rfl (HLI.out _ HB3.out) HLP.out ?_)
    intro ov W4 how hb
    have HB4 : Hid (Below W.heap.size W W4) := HB3.out.trans (hb.mono HB3.out.size)
    have HOW : Hid (∀ w, Below W4.heap.size W4 w → Lis w w.heap.size ov L) := fun w hw => how.lks.below hw hw.size
    clear hb HB3 how
    go_wp2_with (fail)
    -- bridges
    refine (HCB.out W4 ov (HOW.out _ (Below.refl _ _))).mono ?_
    rintro e W5 ⟨⟨av, rfl, hav⟩, hb⟩
    have HX5 : Hid (Below W4.heap.size W4 W5) := hb
    have HAV : Hid (∀ w, Below W5.heap.size W5 w → Lks w w.heap.size av B) := fun w hw => hav.lks.below hw hw.size
    clear hb hav HCB
    go_wp2_with (fail)
    refine (HRB.out W5 (HB4.out.trans (HX5.out.mono HB4.out.size))).mono ?_
    rintro e W6 ⟨⟨bv, rfl, hbv⟩, hb⟩
    have HX6 : Hid (Below W4.heap.size W4 W6) := HX5.out.trans (hb.mono HX5.out.size)
    have HL6 : Hid (Lks W6 W6.heap.size av B ∧ Lks W6 W6.heap.size bv B) := ⟨HAV.out W6 hb, hbv.lks⟩
    clear hb hbv HRB HX5 HAV
    go_wp2_with (fail)
    refine (HLL.out W6 av bv B HL6.out.1 HL6.out.2).mono ?_
    rintro e W7 ⟨rfl, hb⟩
    have HX7 : Hid (Below W4.heap.size W4 W7) := HX6.out.trans (hb.mono HX6.out.size)
    clear hb HL6 HX6
    go_wp2_with (fail)
    -- joints
    refine (HCJ.out W7 ov (HOW.out _ HX7.out)).mono ?_
    rintro e W8 ⟨⟨cv, rfl, hav⟩, hb⟩
    have HX8 : Hid (Below W4.heap.size W4 W8) := HX7.out.trans (hb.mono HX7.out.size)
    have HAV : Hid (∀ w, Below W8.heap.size W8 w → Its w w.heap.size cv J) := fun w hw => hav.cel.below hw hw.size
    clear hb hav HCJ HX7
    go_wp2_with (fail)
    refine (HRJ.out W8 (HB4.out.trans (HX8.out.mono HB4.out.size))).mono ?_
    rintro e W9 ⟨⟨dv, rfl, hbv⟩, hb⟩
    have HX9 : Hid (Below W4.heap.size W4 W9) := HX8.out.trans (hb.mono HX8.out.size)
    have HL9 : Hid (Its W9 W9.heap.size cv J ∧ Its W9 W9.heap.size dv J) := ⟨HAV.out W9 hb, hbv.cel⟩
    clear hb hbv HRJ HX8 HAV
    go_wp2_with (fail)
    refine (HII.out W9 cv dv J HL9.out.1 HL9.out.2).mono ?_
    rintro e W10 ⟨rfl, hb⟩
    have HX10 : Hid (Below W4.heap.size W4 W10) := HX9.out.trans (hb.mono HX9.out.size)
    clear hb HL9 HX9
    go_wp2_with (fail)
    -- tree
    refine (HCT.out W10 ov (HOW.out _ HX10.out)).mono ?_
    rintro e W11 ⟨⟨tb, rfl, hav, -⟩, hb⟩
    have HX11 : Hid (Below W4.heap.size W4 W11) := HX10.out.trans (hb.mono HX10.out.size)
    have HAV : Hid (∀ w, Below W11.heap.size W11 w → Its w w.heap.size (.slice (some ⟨tb, 0, none⟩) m m) T) := fun w hw => by
      have h := (hav.its (by rw [HTL.out]; exact Nat.le_trans HM.out (by decide))).below hw hw.size
      rw [HTL.out] at h
      exact h
    clear hb hav HCT HX10
    go_wp2_with (fail)
    refine (HRT.out W11 (HB4.out.trans (HX11.out.mono HB4.out.size))).mono ?_
    rintro e W12 ⟨⟨sb, rfl, hbv, -⟩, hb⟩
    have HX12 : Hid (Below W4.heap.size W4 W12) := HX11.out.trans (hb.mono HX11.out.size)
    have HL12 : Hid (Its W12 W12.heap.size (.slice (some ⟨tb, 0, none⟩) m m) T ∧ Its W12 W12.heap.size (.slice (some ⟨sb, 0, none⟩) m m) T) := ⟨HAV.out W12 hb, by
      have h := hbv.its (by rw [HTL.out]; exact Nat.le_trans HM.out (by decide))
      rw [HTL.out] at h
      exact h⟩
    clear hb hbv HRT HX11 HAV
    go_wp2_with (fail)
    refine (HII.out W12 _ _ T HL12.out.1 HL12.out.2).mono ?_
    rintro e W13 ⟨rfl, hb⟩
    have HX13 : Hid (Below W4.heap.size W4 W13) := HX12.out.trans (hb.mono HX12.out.size)
    clear hb HL12 HX12 HTL
    go_wp2_with (fail)
    -- blocks
    refine (HCK.out W13 ov (HOW.out _ HX13.out)).mono ?_
    rintro e W14 ⟨⟨gv, rfl, hav⟩, hb⟩
    have HX14 : Hid (Below W4.heap.size W4 W14) := HX13.out.trans (hb.mono HX13.out.size)
    have HAV : Hid (∀ w, Below W14.heap.size W14 w → Gis w w.heap.size gv K) := fun w hw => hav.gis.below hw hw.size
    clear hb hav HCK HX13
    go_wp2_with (fail)
    refine (HRK.out W14 (HB4.out.trans (HX14.out.mono HB4.out.size))).mono ?_
    rintro e W15 ⟨⟨hv, rfl, hbv⟩, hb⟩
    have HX15 : Hid (Below W4.heap.size W4 W15) := HX14.out.trans (hb.mono HX14.out.size)
    have hg1 := HAV.out W15 hb
    have hg2 := hbv.gis
    obtain ⟨ag, cg, rfl, hcg, -⟩ := hg1.slice
    obtain ⟨ah, ch, rfl, hch, hkl⟩ := hg2.slice
    obtain ⟨kl, hk⟩ : ∃ x, x = K.length := ⟨_, rfl⟩
    rw [← hk] at hg1 hg2 hcg hch hkl ⊢
    have HK := Lib.hid hk
    have HG : Hid (∀ w, Below W15.heap.size W15 w → Gis w w.heap.size (.slice ag kl cg) K ∧ Gis w w.heap.size (.slice ah kl ch) K) := fun w hw => ⟨hg1.below hw hw.size, hg2.below hw hw.size⟩
    clear hb hbv HRK HX14 HAV hg1 hg2 hk
    go_wp2_with (fail)
    go_loopw [69] (fun iv wx => ∃ i : Nat, iv = .int .i64 (i : Int) ∧ i ≤ kl ∧ Hid (Below W15.heap.size W15 wx)) (fun iv _ => kl - (intOf iv).toNat)
    case atStart => exact ⟨0, rfl, Nat.zero_le _, Below.refl _ _⟩
    case round =>
      obtain ⟨i, rfl, hi, HB⟩ := hrel
      by_cases hlt : i < kl
      · obtain ⟨hga, hgb⟩ := HG.out wr HB.out
        obtain ⟨ab, ao, ra, ea, hla, ca, ia⟩ := hga.at i (by rw [← HK.out]; exact hlt)
        obtain ⟨bb, bo, rb, eb, hlb, cb, ib⟩ := hgb.at i (by rw [← HK.out]; exact hlt)
        subst ea eb
        obtain ⟨KI, hKI⟩ : ∃ x, x = K.getD i [] := ⟨_, rfl⟩
        rw [← hKI] at ia ib
        have HIA := Lib.hid ia
        have HIB := Lib.hid ib
        have HCA : Hid (∀ w, Below wr.heap.size wr w → w.cell? ⟨ab, ao + i, none⟩ = some ra) := fun w hw => (hw.cell (p := ⟨ab, ao + i, none⟩) hla).trans ca
        have HCC : Hid (∀ w, Below wr.heap.size wr w → w.cell? ⟨bb, bo + i, none⟩ = some rb) := fun w hw => (hw.cell (p := ⟨bb, bo + i, none⟩) hlb).trans cb
        have hin : 0 ≤ (i : Int) ∧ (i : Int) < (kl : Int) := by omega
        clear hga hgb ca cb ia ib hKI hla hlb
        go_wp2_with (fail)
        refine wpIn_wide (n := 5).1 (wpIn_flowM (F0 := Fence.wide) (n0 := 5) (fun _ => trivial) (fun h => by cases h) (by kernel_rfl) (by kernel_rfl) 10 10 (by kernel_rfl) (fun j => ([0, 1, 2, 3, 4, 5, 6, 7, 8, 9] : List Nat).getD j 0) (fun j => ([72, 73, 74, 75, 76, 77, 78, 79, 80, 81] : List Nat).getD j 0) (by kernel_rfl) (by kernel_rfl) (by kernel_rfl) (by kernel_rfl) (by kernel_rfl) (by kernel_rfl) (by kernel_rfl) (fun j zv => ([(fun zv => zv = (.slice (some ⟨ab, ao, none⟩) kl cg)), (fun zv => zv = (.int .i64 (i : Int))), (fun zv => zv = (.pointer (some ⟨ab, ao + i, none⟩))), (fun zv => zv = ra), (fun zv => zv = (.slice (some ⟨bb, bo, none⟩) kl ch)), (fun zv => zv = (.int .i64 (i : Int))), (fun zv => zv = (.pointer (some ⟨bb, bo + i, none⟩))), (fun zv => zv = rb), (fun zv => zv = (.bool true)), (fun zv => zv = (.bool false))] : List (Value → Prop)).getD j (fun _ => True) zv) (fun _ _ W => Below wr.heap.size wr W) ?h0c ?stepc ?finc)
        case h0c => exact fun _ => bdN _ _ 1
        case stepc =>
          intro i o a W d vs hi ho hdi hJ hf hr hF
          replace hi : i < 10 := hi
          rcases (show i = 0 ∨ i = 1 ∨ i = 2 ∨ i = 3 ∨ i = 4 ∨ i = 5 ∨ i = 6 ∨ i = 7 ∨ i = 8 ∨ i = 9 by omega) with rfl | rfl | rfl | rfl | rfl | rfl | rfl | rfl | rfl | rfl
          · replace ho := op_at ho (by rfl)
            subst ho
            have f8 : a.tmps.getD 8 undef = (.slice (some ⟨ab, ao, none⟩) kl cg) := hf 8 (by kernel_rfl)
            exact .inl ⟨(fun k b h => by cases h), .inl ⟨0, by decide, rfl, (.slice (some ⟨ab, ao, none⟩) kl cg), W, (by simp [go_sem, Act.eval, f8]), rfl, hJ⟩⟩
          · replace ho := op_at ho (by rfl)
            subst ho
            have f10 : a.tmps.getD 10 undef = (.int .i64 (i : Int)) := hf 10 (by kernel_rfl)
            exact .inl ⟨(fun k b h => by cases h), .inl ⟨1, by decide, rfl, (.int .i64 (i : Int)), W, (by simp [go_sem, Act.eval, f10]), rfl, hJ⟩⟩
          · replace ho := op_at ho (by rfl)
            subst ho
            have d0 : a.tmps.getD 72 undef = (.slice (some ⟨ab, ao, none⟩) kl cg) := by have h1 := hF 0 (by decide) (hr 0 (by kernel_rfl)); exact h1.2.trans h1.1
            have d1 : a.tmps.getD 73 undef = (.int .i64 (i : Int)) := by have h1 := hF 1 (by decide) (hr 1 (by kernel_rfl)); exact h1.2.trans h1.1
            exact .inl ⟨(fun k b h => by cases h), .inl ⟨2, by decide, rfl, (.pointer (some ⟨ab, ao + i, none⟩)), W, (by simp [go_sem, Act.eval, d0, d1, hin]), rfl, hJ⟩⟩
          · replace ho := op_at ho (by rfl)
            subst ho
            have d2 : a.tmps.getD 74 undef = (.pointer (some ⟨ab, ao + i, none⟩)) := by have h1 := hF 2 (by decide) (hr 2 (by kernel_rfl)); exact h1.2.trans h1.1
            have cx := HCA.out W hJ
            exact .inl ⟨(fun k b h => by cases h), .inl ⟨3, by decide, rfl, ra, W, (by simp [go_sem, Act.eval, d2, cx]), rfl, hJ⟩⟩
          · replace ho := op_at ho (by rfl)
            subst ho
            have f9 : a.tmps.getD 9 undef = (.slice (some ⟨bb, bo, none⟩) kl ch) := hf 9 (by kernel_rfl)
            exact .inl ⟨(fun k b h => by cases h), .inl ⟨4, by decide, rfl, (.slice (some ⟨bb, bo, none⟩) kl ch), W, (by simp [go_sem, Act.eval, f9]), rfl, hJ⟩⟩
          · replace ho := op_at ho (by rfl)
            subst ho
            have f10 : a.tmps.getD 10 undef = (.int .i64 (i : Int)) := hf 10 (by kernel_rfl)
            exact .inl ⟨(fun k b h => by cases h), .inl ⟨5, by decide, rfl, (.int .i64 (i : Int)), W, (by simp [go_sem, Act.eval, f10]), rfl, hJ⟩⟩
          · replace ho := op_at ho (by rfl)
            subst ho
            have d4 : a.tmps.getD 76 undef = (.slice (some ⟨bb, bo, none⟩) kl ch) := by have h1 := hF 4 (by decide) (hr 4 (by kernel_rfl)); exact h1.2.trans h1.1
            have d5 : a.tmps.getD 77 undef = (.int .i64 (i : Int)) := by have h1 := hF 5 (by decide) (hr 5 (by kernel_rfl)); exact h1.2.trans h1.1
            exact .inl ⟨(fun k b h => by cases h), .inl ⟨6, by decide, rfl, (.pointer (some ⟨bb, bo + i, none⟩)), W, (by simp [go_sem, Act.eval, d4, d5, hin]), rfl, hJ⟩⟩
          · replace ho := op_at ho (by rfl)
            subst ho
            have d6 : a.tmps.getD 78 undef = (.pointer (some ⟨bb, bo + i, none⟩)) := by have h1 := hF 6 (by decide) (hr 6 (by kernel_rfl)); exact h1.2.trans h1.1
            have cx := HCC.out W hJ
            exact .inl ⟨(fun k b h => by cases h), .inl ⟨7, by decide, rfl, rb, W, (by simp [go_sem, Act.eval, d6, cx]), rfl, hJ⟩⟩
          · replace ho := op_at ho (by rfl)
            subst ho
            have d3 : a.tmps.getD 75 undef = ra := by have h1 := hF 3 (by decide) (hr 3 (by kernel_rfl)); exact h1.2.trans h1.1
            have d7 : a.tmps.getD 79 undef = rb := by have h1 := hF 7 (by decide) (hr 7 (by kernel_rfl)); exact h1.2.trans h1.1
            refine .inl ⟨(fun k b h => by cases h), .inr (.inr ⟨8, by decide, rfl, 26, #[ra, rb], W, (by simp [go_sem, Act.eval, d3, d7]), ?_⟩)⟩
            refine (callsIn_wide.2 (HII.out W ra rb KI (HIA.out.below hJ (Below.size hJ)) (HIB.out.below hJ (Below.size hJ)))).mono ?_
            rintro e W' ⟨rfl, hBe⟩
            exact ⟨_, rfl, rfl, Below.trans hJ (hBe.mono (Below.size hJ))⟩
          · replace ho := op_at ho (by rfl)
            subst ho
            have d8 : a.tmps.getD 80 undef = (.bool true) := by have h1 := hF 8 (by decide) (hr 8 (by kernel_rfl)); exact h1.2.trans h1.1
            exact .inl ⟨(fun k b h => by cases h), .inl ⟨9, by decide, rfl, (.bool false), W, (by simp [go_sem, Act.eval, d8]), rfl, hJ⟩⟩
        case finc =>
          intro d vs Wc hall hJ hF
          have h0 : vs 0 = (.slice (some ⟨ab, ao, none⟩) kl cg) := hF 0 (by decide)
          have h1 : vs 1 = (.int .i64 (i : Int)) := hF 1 (by decide)
          have h2 : vs 2 = (.pointer (some ⟨ab, ao + i, none⟩)) := hF 2 (by decide)
          have h3 : vs 3 = ra := hF 3 (by decide)
          have h4 : vs 4 = (.slice (some ⟨bb, bo, none⟩) kl ch) := hF 4 (by decide)
          have h5 : vs 5 = (.int .i64 (i : Int)) := hF 5 (by decide)
          have h6 : vs 6 = (.pointer (some ⟨bb, bo + i, none⟩)) := hF 6 (by decide)
          have h7 : vs 7 = rb := hF 7 (by decide)
          have h8 : vs 8 = (.bool true) := hF 8 (by decide)
          have h9 : vs 9 = (.bool false) := hF 9 (by decide)
          clear hF
          have hJc : Below wr.heap.size wr Wc := hJ
          clear hJ hall
          show (_ : Exit → Act → World → Prop) Exit.normal (puts _ vs 10 _) Wc
          simp only [puts, h0, h1, h2, h3, h4, h5, h6, h7, h8, h9, List.getD_cons_zero, List.getD_cons_succ]
          clear h0 h1 h2 h3 h4 h5 h6 h7 h8 h9
          simp only [Act.put, List.setIfInBounds_toArray, List.set_cons_succ, List.set_cons_zero]
          go_wp2_with (fail)
          go_roundw
          case rel => exact ⟨i + 1, by go_num, by omega, HB.out.trans (hJc.mono HB.out.size)⟩
          case measure => simp [intOf] <;> omega
      · obtain rfl : kl = i := by omega
        have HX16 : Hid (Below W4.heap.size W4 wr) := HX15.out.trans (HB.out.mono HX15.out.size)
        have HL16 : Hid (Lks wr wr.heap.size ov (prI L) ∧ Lks wr wr.heap.size v (prI L)) := ⟨HOW.out wr HX16.out, HLI.out wr (HB4.out.trans (HX16.out.mono HB4.out.size))⟩
        go_wp2_with (fail)
        refine (HLL.out wr ov v (prI L) HL16.out.1 HL16.out.2).mono ?_
        rintro e W17 ⟨rfl, hb⟩
        have HX17 : Hid (Below W4.heap.size W4 W17) := HX16.out.trans (hb.mono HX16.out.size)
        clear hb
        go_wp2_with (fail)
        refine (awake_any W17).mono ?_
        rintro e Wz ⟨rfl, hb⟩
        have HXz : Hid (Below W4.heap.size W4 Wz) := HX17.out.trans (hb.mono HX17.out.size)
        have HBz : Hid (Below W.heap.size W Wz) := HB4.out.trans (HXz.out.mono HB4.out.size)
        clear hb
        go_wp2_with (fail)
        go_ret
        exact ⟨rfl, HBz.out⟩
  · rw [fitB_false hf] at HFA HFB
    clear hf hx
    go_enter Try.func7, Try.ntmps7
    go_wp2_with (fail)
    refine HFA.out.mono ?_
    rintro e W1 ⟨rfl, hb⟩
    have HB1 : Hid (Below W.heap.size W W1) := hb
    clear hb HFA
    go_wp2_with (fail)
    refine (HFB.out W1 HB1.out).mono ?_
    rintro e W2 ⟨rfl, hb⟩
    have HB2 : Hid (Below W.heap.size W W2) := HB1.out.trans (hb.mono HB1.out.size)
    clear hb HB1
    go_wp2_with (fail)
    refine (HFB.out W2 HB2.out).mono ?_
    rintro e W3 ⟨rfl, hb⟩
    have HB3 : Hid (Below W.heap.size W W3) := HB2.out.trans (hb.mono HB2.out.size)
    clear hb HB2 HFB
    go_wp2_with (fail)
    refine (awake_any W3).mono ?_
    rintro e Wz ⟨rfl, hb⟩
    have HBz := Lib.hid (HB3.out.trans (hb.mono HB3.out.size))
    clear hb
    go_wp2_with (fail)
    go_ret
    exact ⟨rfl, HBz.out⟩

end Go.Proofs.Ytenilbofncfbdaa

