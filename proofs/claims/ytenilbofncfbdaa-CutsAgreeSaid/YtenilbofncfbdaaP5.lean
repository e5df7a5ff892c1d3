/- Cuts: bridges and flows of one, blocks and flows of two and more: plain. No program here.
Cuts: the law CutsAgree, walked (by program: wip/tools/gen_ca1.py). -/
import Derived.Test.YtenilbofncfbdaaP4
import Derived.Test.YtenilbofncfbdaaCJ
import Derived.Test.YtenilbofncfbdaaP2
import Derived.Test.YtenilbofncfbdaaCN
set_option linter.unusedSimpArgs false
set_option linter.unusedVariables false
namespace Go.Proofs.Ytenilbofncfbdaa

theorem cut_one {L : Prs} {S : Nat → Bool} {k : Nat} (m : Nat) (h : ∀ j, j < m → S (endA L j) ≠ S (endB L j) → j = k) : crossF (endA L) (endB L) S m ≤ 1 := by
  rw [← cutN_len]
  have hm : ∀ j ∈ cutN L S m, j = k := fun j hj => h j (mem_cutN.1 hj).1 (mem_cutN.1 hj).2
  have hn := cutN_nodup L S m
  match hc : cutN L S m with
  | [] => simp
  | [x] => simp
  | x :: y :: r =>
    exfalso
    rw [hc] at hm hn
    have h1 := hm x (by simp)
    have h2 := hm y (by simp)
    simp [h1, h2] at hn
theorem cut_two {L : Prs} {S : Nat → Bool} {k j : Nat} (m : Nat) (hk : k < m) (hj : j < m) (hkj : k ≠ j) (h1 : S (endA L k) ≠ S (endB L k)) (h2 : S (endA L j) ≠ S (endB L j)) : 2 ≤ crossF (endA L) (endB L) S m := by
  rw [← cutN_len]
  have m1 := (mem_cutN (L := L)).2 ⟨hk, h1⟩
  have m2 := (mem_cutN (L := L)).2 ⟨hj, h2⟩
  match hc : cutN L S m with
  | [] => rw [hc] at m1; cases m1
  | [x] =>
    rw [hc] at m1 m2
    simp at m1 m2
    omega
  | x :: y :: r => simp
theorem way_cross {L : Prs} {E N : Nat → Prop} {x y : Nat} (h : Way L E N x y) (S : Nat → Bool) (hx : S x = true) (hy : S y = false) : ∃ k, k < L.length ∧ E k ∧ S (endA L k) ≠ S (endB L k) := by
  refine Classical.byContradiction fun hno => ?_
  have := h.inside (fun v => S v = true) hx (fun k u v he hk hu _ => by
    have hs : S (endA L k) = S (endB L k) := Classical.byContradiction fun c => hno ⟨k, he.1, hk, c⟩
    rcases he.2 with ⟨x1, x2⟩ | ⟨x1, x2⟩
    · rw [x1, x2] at hs; rw [← hs]; exact hu
    · rw [x1, x2] at hs; rw [hs]; exact hu)
  rw [hy] at this; cases this
theorem side_of (L : Prs) (E : Nat → Prop) (a : Nat) : ∃ S : Nat → Bool, ∀ v, S v = true ↔ Way L E All a v :=
  ⟨fun v => @decide (Way L E All a v) (Classical.propDecidable _), fun v => @decide_eq_true_iff (Way L E All a v) (Classical.propDecidable _)⟩
theorem side_cross {L : Prs} {E : Nat → Prop} {a : Nat} {S : Nat → Bool} (hS : ∀ v, S v = true ↔ Way L E All a v) {j : Nat} (hj : j < L.length) (h : S (endA L j) ≠ S (endB L j)) : ¬ E j := by
  intro hE
  have e1 : Edge L j (endA L j) (endB L j) := ⟨hj, .inl ⟨rfl, rfl⟩⟩
  apply h
  cases h1 : S (endA L j) with
  | true => exact ((hS _).2 (.step ((hS _).1 h1) e1 hE trivial)).symm
  | false =>
    cases h2 : S (endB L j) with
    | false => rfl
    | true => have := (hS _).2 (.step ((hS _).1 h2) e1.symm hE trivial); rw [h1] at this; cases this
theorem ends_edge {L : Prs} {k : Nat} (hk : k < L.length) : Edge L k (endA L k) (endB L k) := ⟨hk, .inl ⟨rfl, rfl⟩⟩
/-- a pair that is no bridge: a way goes round it -/
theorem not_bridge {L : Prs} {k : Nat} (hk : k < L.length) (h : ¬ Bridge L k) : Way L (· ≠ k) All (endA L k) (endB L k) := by
  refine Classical.byContradiction fun c => h ?_
  exact bridge_of (ends_edge hk) c
theorem br_iff {L : Prs} {n k : Nat} (hf : FitL n L) (hk : k < L.length) : brI L n k = true ↔ Bridge L k := (search_ok hf).2.2.1 k hk
/-- what a way that leaves a side leaves it by, twice -/
theorem cross_round {L : Prs} {S : Nat → Bool} {k : Nat} (hk : k < L.length) (hw : Way L (· ≠ k) All (endA L k) (endB L k)) (h : S (endA L k) ≠ S (endB L k)) : 2 ≤ crossF (endA L) (endB L) S L.length := by
  cases h1 : S (endA L k) with
  | true =>
    cases h2 : S (endB L k) with
    | true => exact absurd (h1.trans h2.symm) h
    | false =>
      obtain ⟨j, j1, j2, j3⟩ := way_cross hw S h1 h2
      exact cut_two _ hk j1 (Ne.symm j2) h j3
  | false =>
    cases h2 : S (endB L k) with
    | false => exact absurd (h1.trans h2.symm) h
    | true =>
      obtain ⟨j, j1, j2, j3⟩ := way_cross hw.symm S h2 h1
      exact cut_two _ hk j1 (Ne.symm j2) h j3
theorem agree_bridge {L : Prs} {n k : Nat} (hf : FitL n L) (hk : k < L.length) : brI L n k = decide (FlV L n (endA L k) (endB L k) = 1) := by
  have he := ends_edge hk
  have hlt := edge_lt hf he
  obtain ⟨⟨S, s1, s2, s3⟩, hle⟩ := flv_ok hf hlt.1 hlt.2.1 hlt.2.2
  have hcr : S (endA L k) ≠ S (endB L k) := by rw [s1, s2]; simp
  rw [Bool.eq_iff_iff, br_iff hf hk, decide_eq_true_iff]
  constructor
  · intro hb
    obtain ⟨T, hT⟩ := side_of L (· ≠ k) (endA L k)
    have t1 : T (endA L k) = true := (hT _).2 (.nil trivial)
    have t2 : T (endB L k) = false := by
      cases c : T (endB L k) with
      | false => rfl
      | true => exact absurd ((hT _).1 c) (hb _ _ he)
    have h1 := hle T t1 t2
    have h2 := cut_one (k := k) L.length (S := T) (L := L) fun j hj hne => by
      have := side_cross hT hj hne
      exact Classical.byContradiction fun c => this c
    have h3 : 0 < (cutN L S L.length).length := List.length_pos_of_mem ((mem_cutN (L := L)).2 ⟨hk, hcr⟩)
    rw [cutN_len] at h3
    omega
  · intro h1
    refine Classical.byContradiction fun hb => ?_
    have := cross_round hk (not_bridge hk hb) hcr
    omega
theorem way_split {L : Prs} {E : Nat → Prop} {k a x : Nat} (h : Way L E All a x) : Way L (fun j => E j ∧ j ≠ k) All a x ∨ ∃ u v, Edge L k u v ∧ Way L (fun j => E j ∧ j ≠ k) All a u ∧ Way L (fun j => E j ∧ j ≠ k) All v x := by
  induction h with
  | nil _ => exact .inl (.nil trivial)
  | @step y z e h1 he hE _ ih =>
    rcases ih with ih | ⟨u, v, h2, h3, h4⟩
    · by_cases c : e = k
      · subst c; exact .inr ⟨y, z, he, ih, .nil trivial⟩
      · exact .inl (.step ih he ⟨hE, c⟩ trivial)
    · by_cases c : e = k
      · subst c
        rcases he.2 with ⟨x1, x2⟩ | ⟨x1, x2⟩ <;> rcases h2.2 with ⟨y1, y2⟩ | ⟨y1, y2⟩
        · obtain rfl : z = v := by omega
          exact .inr ⟨u, z, h2, h3, .nil trivial⟩
        · obtain rfl : z = u := by omega
          exact .inl h3
        · obtain rfl : z = u := by omega
          exact .inl h3
        · obtain rfl : z = v := by omega
          exact .inr ⟨u, z, h2, h3, .nil trivial⟩
      · exact .inr ⟨u, v, h2, h3, .step h4 he ⟨hE, c⟩ trivial⟩
theorem agree_way {L : Prs} {n a b : Nat} (hf : FitL n L) (ha : a < n) (hb : b < n) (hab : a ≠ b) : Way L (fun k => brI L n k = false) All a b ↔ 2 ≤ FlV L n a b := by
  obtain ⟨⟨S, s1, s2, s3⟩, hle⟩ := flv_ok hf ha hb hab
  constructor
  · intro hw
    obtain ⟨k, k1, k2, k3⟩ := way_cross hw S s1 s2
    have hnb : ¬ Bridge L k := fun h => by rw [(br_iff hf k1).2 h] at k2; cases k2
    rw [s3]
    exact cross_round k1 (not_bridge k1 hnb) k3
  · intro h2
    have hone : ∀ k, Way L (· ≠ k) All a b := fun k => by
      obtain ⟨T, hT⟩ := side_of L (· ≠ k) a
      refine (hT b).1 ?_
      cases c : T b with
      | true => rfl
      | false =>
        exfalso
        have h1 := hle T ((hT _).2 (.nil trivial)) c
        have h3 := cut_one (k := k) L.length (S := T) (L := L) fun j hj hne => by
          have := side_cross hT hj hne
          exact Classical.byContradiction fun c => this c
        omega
    have all : ∀ m, Way L (fun k => k < m → brI L n k = false) All a b := by
      intro m
      induction m with
      | zero => exact (hone 0).mono (fun _ h => h) (fun k u v _ _ _ _ => fun h => by omega)
      | succ m ih =>
        by_cases c : brI L n m = false
        · exact ih.mono (fun _ h => h) (fun k u v _ _ _ h => fun hk => by
            by_cases e : k = m
            · rw [e]; exact c
            · exact h (by omega))
        · have go : ∀ {x y}, Way L (fun j => (j < m → brI L n j = false) ∧ j ≠ m) All x y → Way L (fun k => k < m + 1 → brI L n k = false) All x y := fun h => h.mono (fun _ h => h) (fun k u v _ _ _ h => fun hk => h.1 (by have := h.2; omega))
          have av : ∀ {x y}, Way L (fun j => (j < m → brI L n j = false) ∧ j ≠ m) All x y → Way L (· ≠ m) All x y := fun h => h.mono (fun _ h => h) (fun k u v _ _ _ h => h.2)
          rcases way_split (k := m) ih with h | ⟨u, v, h3, h4, h5⟩
          · exact go h
          · exfalso
            have hbr : Bridge L m := (br_iff hf h3.1).1 (by cases h : brI L n m with | true => rfl | false => exact absurd h c)
            exact hbr u v h3 (((av h4).symm.trans (hone m)).trans (av h5).symm)
    exact (all L.length).mono (fun _ h => h) (fun k u v he _ _ h => h he.1)
theorem mem_pickN {L : Prs} {P : Nat → Bool} {p : Nat × Nat} : ∀ m, p ∈ pickN L P m ↔ ∃ k, k < m ∧ P k = true ∧ p = (endA L k, endB L k) := by
  intro m
  induction m with
  | zero => simp [pickN]
  | succ m ih =>
    unfold pickN
    rw [List.mem_append, ih]
    constructor
    · rintro (⟨k, h1, h2, h3⟩ | h)
      · exact ⟨k, by omega, h2, h3⟩
      · split at h
        · rename_i hP; exact ⟨m, by omega, hP, by simpa using h⟩
        · cases h
    · rintro ⟨k, h1, h2, h3⟩
      by_cases e : k = m
      · subst e; rw [if_pos h2]; exact .inr (by simp [h3])
      · exact .inl ⟨k, by omega, h2, h3⟩
theorem edge_mem {L : Prs} {u v : Nat} : (∃ k, Edge L k u v) ↔ (u, v) ∈ L ∨ (v, u) ∈ L := by
  constructor
  · rintro ⟨k, hk, ⟨e1, e2⟩ | ⟨e1, e2⟩⟩
    · exact .inl (List.mem_of_getElem? (get_ends.2 ⟨hk, e1, e2⟩))
    · exact .inr (List.mem_of_getElem? (get_ends.2 ⟨hk, e1, e2⟩))
  · rintro (h | h)
    · obtain ⟨k, hk⟩ := List.getElem?_of_mem h
      obtain ⟨x1, x2, x3⟩ := get_ends.1 hk
      exact ⟨k, x1, .inl ⟨x2, x3⟩⟩
    · obtain ⟨k, hk⟩ := List.getElem?_of_mem h
      obtain ⟨x1, x2, x3⟩ := get_ends.1 hk
      exact ⟨k, x1, .inr ⟨x2, x3⟩⟩
theorem pick_edge {L : Prs} {P : Nat → Bool} {u v : Nat} : (∃ i, Edge (pickN L P L.length) i u v) ↔ ∃ k, Edge L k u v ∧ P k = true := by
  rw [edge_mem, mem_pickN, mem_pickN]
  constructor
  · rintro (⟨k, h1, h2, h3⟩ | ⟨k, h1, h2, h3⟩)
    · injection h3 with e1 e2; exact ⟨k, ⟨h1, .inl ⟨e1.symm, e2.symm⟩⟩, h2⟩
    · injection h3 with e1 e2; exact ⟨k, ⟨h1, .inr ⟨e1.symm, e2.symm⟩⟩, h2⟩
  · rintro ⟨k, ⟨h1, ⟨e1, e2⟩ | ⟨e1, e2⟩⟩, h2⟩
    · exact .inl ⟨k, h1, h2, by rw [e1, e2]⟩
    · exact .inr ⟨k, h1, h2, by rw [e1, e2]⟩
theorem pick_way {L : Prs} {P : Nat → Bool} {a b : Nat} : Way (pickN L P L.length) All All a b ↔ Way L (fun k => P k = true) All a b := by
  constructor
  · intro h
    induction h with
    | nil _ => exact .nil trivial
    | step _ he _ _ ih =>
      obtain ⟨k, h1, h2⟩ := pick_edge.1 ⟨_, he⟩
      exact .step ih h1 h2 trivial
  · intro h
    induction h with
    | nil _ => exact .nil trivial
    | step _ he hk _ ih =>
      obtain ⟨i, hi⟩ := pick_edge.2 ⟨_, he, hk⟩
      exact .step ih hi trivial trivial
theorem far_way {R : Prs} {n v : Nat} {d : List Int} (hf : FitL n R) (hv : v < n) (h : DistOk R n v d) {u : Nat} (hu : u < n) : 0 ≤ d.getD u 0 ↔ Way R All All v u := by
  constructor
  · have key : ∀ (m u : Nat), u < n → d.getD u 0 = (m : Int) → Way R All All v u := by
      intro m
      induction m with
      | zero =>
        intro u hu h0
        have := (h.zero u hu).1 h0
        subst this
        exact .nil trivial
      | succ m ih =>
        intro u hu h0
        obtain ⟨k, x, h1, h2⟩ := h.by_ u hu (by omega)
        exact .step (ih x (edge_lt hf h1).1 (by omega)) h1 trivial trivial
    intro h0
    exact key (d.getD u 0).toNat u hu (by omega)
  · intro hw
    exact hw.inside (fun x => 0 ≤ d.getD x 0) (by have := (h.zero v hv).2 rfl; omega) (fun k x y he _ hx _ => (h.edge y x k he.symm hx).1)
theorem mem_rowD {d : List Int} {k u : Nat} : u ∈ rowD d k ↔ u < k ∧ 0 ≤ d.getD u 0 := by
  unfold rowD
  rw [List.mem_filter, List.mem_range, decide_eq_true_iff]
theorem blk_from {R : Prs} {n : Nat} : ∀ (m : Nat) (B : List Nat), B ∈ (blkN R n m).2 → ∃ v, v < m ∧ B = rowD (farI R n (v : Int)) n := by
  intro m
  induction m with
  | zero => intro B hB; cases hB
  | succ m ih =>
    intro B hB
    unfold blkN at hB
    split at hB
    · obtain ⟨v, h1, h2⟩ := ih B hB; exact ⟨v, by omega, h2⟩
    · rcases List.mem_append.1 hB with hB | hB
      · obtain ⟨v, h1, h2⟩ := ih B hB; exact ⟨v, by omega, h2⟩
      · exact ⟨m, by omega, by simpa using hB⟩
theorem agree_block {L : Prs} {n a b : Nat} {B : List Nat} (hf : FitL n L) (ha : a < n) (hb : b < n) (hab : a ≠ b) (hB : B ∈ blocksI L n) (haB : a ∈ B) : b ∈ B ↔ 2 ≤ FlV L n a b := by
  have hfr : FitL n (restI L n) := pickN_fit hf
  obtain ⟨v, hv, rfl⟩ := blk_from n B hB
  have hd := far_ok hfr hv
  rw [mem_rowD] at haB ⊢
  have h1 := (far_way hfr hv hd ha).1 haB.2
  rw [far_way hfr hv hd hb, ← agree_way hf ha hb hab]
  have e : ∀ {x y}, Way (restI L n) All All x y ↔ Way L (fun k => brI L n k = false) All x y := fun {x y} => by
    have := pick_way (L := L) (P := fun k => !brI L n k) (a := x) (b := y)
    rw [show restI L n = pickN L (fun k => !brI L n k) L.length from rfl, this]
    simp only [Bool.not_eq_true']
  rw [← e]
  exact ⟨fun h => h1.symm.trans h.2, fun h => ⟨hb, h1.trans h⟩⟩
/-- how many of the first m pairs have a node -/
def degN (L : Prs) (v m : Nat) : Nat := ((List.range m).filter fun k => endA L k == v || endB L k == v).length
theorem degN_succ (L : Prs) (v m : Nat) : degN L v (m + 1) = degN L v m + (if endA L m = v ∨ endB L m = v then 1 else 0) := by
  unfold degN
  rw [List.range_succ, List.filter_append, List.length_append, List.filter_cons]
  by_cases h : endA L m = v ∨ endB L m = v
  · rw [if_pos h, if_pos (by simpa using h)]; rfl
  · rw [if_neg h, if_neg (by simpa using h)]; rfl
theorem agree_joint {L : Prs} {n v : Nat} (hf : FitL n L) (hv : v ∈ jointsI L n) : 2 ≤ degN L v L.length := by
  unfold jointsI at hv
  rw [List.mem_filter, List.mem_range] at hv
  have hj : Joint L v := ((search_ok hf).2.2.2 v hv.1).1 hv.2
  refine Classical.byContradiction fun hlt => ?_
  have mem : ∀ {k u}, Edge L k u v → k ∈ (List.range L.length).filter fun k => endA L k == v || endB L k == v := fun {k u} he => by
    rw [List.mem_filter, List.mem_range]
    refine ⟨he.1, ?_⟩
    rcases he.2 with ⟨_, e⟩ | ⟨e, _⟩ <;> simp [e]
  have same : ∀ {j k y z}, Edge L j y v → Edge L k z v → j = k := fun {j k y z} h1 h2 => by
    have m1 := mem h1
    have m2 := mem h2
    unfold degN at hlt
    match hc : (List.range L.length).filter fun k => endA L k == v || endB L k == v with
    | [] => rw [hc] at m1; cases m1
    | [x] => rw [hc] at m1 m2; simp at m1 m2; omega
    | x :: y :: r => rw [hc] at hlt; simp at hlt
  refine no_joint (fun y z j k h1 h2 => ?_) (fun k u h => (edge_lt hf h).2.2) hj
  have e := same h1 h2
  subst e
  have hyv := (edge_lt hf h1).2.2
  have hzv := (edge_lt hf h2).2.2
  have : y = z := by
    rcases h1.2 with ⟨a1, a2⟩ | ⟨a1, a2⟩ <;> rcases h2.2 with ⟨b1, b2⟩ | ⟨b1, b2⟩ <;> omega
  subst this
  exact .nil hyv

end Go.Proofs.Ytenilbofncfbdaa

namespace Go.Proofs.Ytenilbofncfbdaa
open Go.RowKit

theorem pick_prefix (L : Prs) (P : Nat → Bool) (k : Nat) : ∀ m, k ≤ m → ∃ r, pickN L P m = pickN L P k ++ r := by
 intro m
 induction m with
 | zero =>
  intro h
  obtain rfl : k = 0 := by omega
  exact ⟨[], rfl⟩
 | succ m ih =>
  intro h
  by_cases e : k = m + 1
  ·subst e; exact ⟨[], by simp⟩
  ·obtain ⟨r, hr⟩ := ih (by omega)
   refine ⟨r ++ (if P m then [(endA L m, endB L m)] else []), ?_⟩
   show pickN L P m ++ _ = _
   rw [hr, List.append_assoc]
theorem next_is {L : Prs} {P : Nat → Bool} {k m : Nat} (hk : k < m) (hP : P k = true) : (pickN L P k).length < (pickN L P m).length ∧ endA (pickN L P m) (pickN L P k).length = endA L k ∧ endB (pickN L P m) (pickN L P k).length = endB L k ∧ (pickN L P (k + 1)).length = (pickN L P k).length + 1 := by
 obtain ⟨r, hr⟩ := pick_prefix L P (k + 1) m hk
 have e : pickN L P (k + 1) = pickN L P k ++ [(endA L k, endB L k)] := by show pickN L P k ++ _ = _; rw [if_pos hP]
 rw [e, List.append_assoc] at hr
 have g : (pickN L P m).getD (pickN L P k).length (0, 0) = (endA L k, endB L k) := by
  rw [hr, List.getD_eq_getElem?_getD, List.getElem?_append_right (Nat.le_refl _), Nat.sub_self]
  rfl
 refine ⟨by rw [hr]; simp, congrArg Prod.fst g, congrArg Prod.snd g, by rw [e]; simp⟩
theorem next_not {n : Nat} {L : Prs} {P : Nat → Bool} {k : Nat} (hf : FitL n L) (hk : k < L.length) (hP : P k = false) : (pickN L P (k + 1)).length = (pickN L P k).length ∧ ((pickN L P k).length < (pickN L P L.length).length → ¬ (endA (pickN L P L.length) (pickN L P k).length = endA L k ∧ endB (pickN L P L.length) (pickN L P k).length = endB L k)) := by
 constructor
 ·show (pickN L P k ++ _).length = _
  rw [if_neg (by rw [hP]; simp)]; simp
 ·rintro hlt ⟨e1, e2⟩
  obtain ⟨k', h1, h2, h3⟩ := (mem_pickN (P := P) L.length).1 (List.mem_of_getElem? (get_ends.2 ⟨hlt, e1, e2⟩))
  injection h3 with x1 x2
  have := pair_one hf hk h1 x1 x2
  subst this
  rw [hP] at h2; cases h2
theorem flv_swap {L : Prs} {n a b : Nat} (hf : FitL n L) (ha : a < n) (hb : b < n) : FlV L n a b = FlV L n b a := by
 by_cases h : a = b
 ·rw [h]
 ·exact flv_symm hf ha hb h

theorem mem_take_next {l : List Nat} {k : Nat} (hk : k < l.length) (A : Nat) : decide (A ∈ l.take (k + 1)) = (decide (A ∈ l.take k) || (((l.getD k 0 : Nat) : Int) == (A : Int))) := by
 have e : l.getD k 0 = l[k] := by simp [List.getD, hk]
 rw [e, List.take_add_one, List.getElem?_eq_getElem hk, Bool.eq_iff_iff, decide_eq_true_iff, List.mem_append, Bool.or_eq_true, decide_eq_true_iff, beq_iff_eq]
 simp only [Option.toList_some, List.mem_singleton]
 constructor
 ·rintro (h | h)
  ·exact .inl h
  ·exact .inr (by omega)
 ·rintro (h | h)
  ·exact .inl h
  ·exact .inr (by omega)
theorem mod_node {m : Nat} (h1 : 1 ≤ m) (h2 : m ≤ 16) (z : Int) : ∃ A : Nat, A < m ∧ wrap64 ((IntKind.u64.wrap z).tmod (m : Int)) = (A : Int) := by
 obtain ⟨q, hq⟩ : ∃ q : Nat, IntKind.u64.wrap z = (q : Int) := ⟨(IntKind.u64.wrap z).toNat, by rw [IntKind.wrap_u64]; omega⟩
 rw [hq]
 have hlt := Nat.mod_lt q (show 0 < m by omega)
 refine ⟨q % m, hlt, ?_⟩
 show wrap64 ((q % m : Nat) : Int) = _
 unfold wrap64
 omega

set_option maxRecDepth 100000 in
set_option maxHeartbeats 16000000 in
theorem law_CutsAgree (W : World) (n : Int) (v : Value) (a b c : Int) (xs : Ipr) (hx : Lks W W.heap.size v xs) :
  Calls Try.prog 6 #[.int .i64 n, v, .int .i64 a, .int .i64 b, .int .i64 c] W fun e w' => e = .returned (.bool true) ∧ Below W.heap.size W w' := by
 have HC := Lib.hid (rfit_any W n v xs hx)
 by_cases hf : FitX n xs
 ·rw [fitB_true hf] at HC
  obtain ⟨m, L, rfl, rfl, hfl, hm1, hm16⟩ := hf.nodes
  have hL : L.length ≤ 1000 := Nat.le_trans (fit_len hfl hm16) (by decide)
  have HLI : Hid (∀ w, Below W.heap.size W w → Lis w w.heap.size v L) := fun w hw => hx.below hw hw.size
  have HF := Lib.hid hfl
  have HL := Lib.hid hL
  have HFLW : Hid (∀ (w : World) (x y : Nat), Below W.heap.size W w → Calls Try.prog 12 #[.int .i64 (m : Int), v, .int .i64 (x : Int), .int .i64 (y : Int)] w fun e w' => e = .returned (.int .i64 (FlV L m x y : Int)) ∧ Below w.heap.size w w') := fun w x y hw => flow_any w v m L x y (HLI.out w hw) HF.out HL.out hm16
  have HBRC : Hid (∀ w, Below W.heap.size W w → Calls Try.prog 21 #[.int .i64 (m : Int), v] w fun e w' => (∃ v, e = .returned v ∧ OwnL w' w.heap.size v (prI (pickN L (brI L m) L.length))) ∧ Below w.heap.size w w') := fun w hw => bridges_any w v m L (HLI.out w hw) HF.out HL.out hm16
  have HJOC : Hid (∀ w, Below W.heap.size W w → Calls Try.prog 22 #[.int .i64 (m : Int), v] w fun e w' => (∃ v, e = .returned v ∧ OwnN w' w.heap.size v (nI (jointsI L m))) ∧ Below w.heap.size w w') := fun w hw => joints_any w v m L (HLI.out w hw) HF.out HL.out hm16
  have HBKC : Hid (∀ w, Below W.heap.size W w → Calls Try.prog 23 #[.int .i64 (m : Int), v] w fun e w' => (∃ v, e = .returned v ∧ OwnG w' w.heap.size v (nII (blocksI L m))) ∧ Below w.heap.size w w') := fun w hw => blocks_any w v m L (HLI.out w hw) HF.out HL.out hm16
  obtain ⟨al, ac, hv, hac, hal⟩ := (HLI.out W (Below.refl _ _)).slice
  obtain ⟨ml, hml⟩ : ∃ x, x = L.length := ⟨_, rfl⟩
  have HML := Lib.hid hml
  rw [← hml] at hv hac hal hL HBRC
  subst hv
  obtain ⟨P, hP⟩ : ∃ P, P = brI L m := ⟨_, rfl⟩
  rw [← hP] at HBRC
  have HP : Hid (∀ k, k < ml → (FlV L m (endA L k) (endB L k) == 1) = P k) := fun k hk => by rw [hP, agree_bridge HF.out (by rw [← HML.out]; exact hk)]; rfl
  clear hx hf hfl hml hP
  go_enter Try.func6, Try.ntmps6
  go_wp2_with (fail)
  refine HC.out.mono ?_
  rintro e W1 ⟨rfl, hb⟩
  have HB1 := Lib.hid hb
  clear hb HC
  go_wp2_with (fail)
  refine (HBRC.out W1 HB1.out).mono ?_
  rintro e W2 ⟨⟨bv, rfl, hob⟩, hb⟩
  have HB2 := Lib.hid (HB1.out.trans (hb.mono HB1.out.size))
  have hg2 := hob.lks
  obtain ⟨ab, cb, rfl, hcb, hlb⟩ := hg2.slice
  rw [prI_len] at hg2 hcb hlb ⊢
  obtain ⟨nb, hnb⟩ : ∃ x, x = (pickN L P ml).length := ⟨_, rfl⟩
  rw [← hnb] at hg2 hcb hlb ⊢
  have HNB := Lib.hid hnb
  have HG2 : Hid (Lis W2 W2.heap.size (.slice ab nb cb) (pickN L P ml)) := hg2
  have hnbl : nb ≤ 1000 := by rw [hnb]; exact Nat.le_trans (pickN_len ml) hL
  clear hb hob hg2 HBRC hnb
  go_wp2_with (fail)
  go_loopw [12, 37] (fun av kv wx => ∃ t k : Nat, av = .int .i64 (t : Int) ∧ kv = .int .i64 (k : Int) ∧ k ≤ ml ∧ t ≤ nb ∧ Hid (t = (pickN L P k).length) ∧ Hid (Below W2.heap.size W2 wx)) (fun _ kv _ => ml - (intOf kv).toNat)
  case atStart => exact ⟨0, 0, rfl, rfl, Nat.zero_le _, Nat.zero_le _, rfl, Below.refl _ _⟩
  case round =>
   obtain ⟨t, k, rfl, rfl, hk, ht, HT, HB⟩ := hrel
   by_cases hlt : k < ml
   ·have hkL : k < L.length := by have := HML.out; omega
    have hbw := HB2.out.trans (HB.out.mono HB2.out.size)
    obtain ⟨bl, ol, e1, hl1, cA, cB⟩ := Lis.at (HLI.out wr hbw) k hkL
    subst e1
    have hpk := HP.out k hlt
    have hnn := next_not HF.out hkL (P := P)
    have hnx := next_is (L := L) (P := P) hlt
    rw [← HML.out, ← HT.out, ← HNB.out] at hnn
    rw [← HT.out, ← HNB.out] at hnx
    obtain ⟨x, hx⟩ : ∃ x, x = endA L k := ⟨_, rfl⟩
    obtain ⟨y, hy⟩ : ∃ x, x = endB L k := ⟨_, rfl⟩
    rw [← hx] at cA hpk hnn hnx
    rw [← hy] at cB hpk hnn hnx
    have m1 := new_block wr (.cells #[.int .i64 (x : Int), .int .i64 (y : Int)] 38)
    have HFX : Hid (∀ w, Below W.heap.size W w → Calls Try.prog 12 #[.int .i64 (m : Int), .slice (some ⟨bl, ol, none⟩) ml ac, .int .i64 (x : Int), .int .i64 (y : Int)] w fun e w' => e = .returned (.int .i64 (FlV L m x y : Int)) ∧ Below w.heap.size w w') := fun w hw => HFLW.out w x y hw
    obtain ⟨f, hff⟩ : ∃ f, f = FlV L m x y := ⟨_, rfl⟩
    rw [← hff] at HFX hpk
    have hpi : ((f : Int) == 1) = P k := by rw [← hpk, Bool.eq_iff_iff]; simp; omega
    have HBA : Hid (Below W.heap.size W (wr.alloc (.cells #[.int .i64 (x : Int), .int .i64 (y : Int)] 38))) := hbw.trans (m1.1.mono hbw.size)
    have HBA2 : Hid (Below W2.heap.size W2 (wr.alloc (.cells #[.int .i64 (x : Int), .int .i64 (y : Int)] 38))) := HB.out.trans (m1.1.mono HB.out.size)
    have cq0 : (wr.alloc (.cells #[.int .i64 (x : Int), .int .i64 (y : Int)] 38)).cell? ⟨wr.heap.size, 0, none⟩ = some (.int .i64 (x : Int)) := cell_of_row _ _ 0 _ _ _ m1.2
    have cq1 : (wr.alloc (.cells #[.int .i64 (x : Int), .int .i64 (y : Int)] 38)).cell? ⟨wr.heap.size, 1, none⟩ = some (.int .i64 (y : Int)) := cell_of_row _ _ 1 _ _ _ m1.2
    have hbl : bl < wr.heap.size := hl1
    clear hx hy m1 hkL hbw hff hpk
    cases hpq : P k with
    | true =>
     obtain ⟨n1, n2, n3, n4⟩ := hnx hpq
     rw [hpq] at hpi
     obtain ⟨bb, bo, e1, hbb, bA, bB⟩ := Lis.at (HG2.out.below HBA2.out (Nat.le_refl _)) t (by rw [← HNB.out]; exact n1)
     subst e1
     rw [n2] at bA
     rw [n3] at bB
     have htn : 0 ≤ (t : Int) ∧ (t : Int) < (nb : Int) := by omega
     have hdt : decide ((t : Int) < (nb : Int)) = true := by rw [decide_eq_true_iff]; omega
     have HT2 : Hid (t + 1 = (pickN L P (k + 1)).length) := n4.symm
     clear hnn hnx n2 n3 n4
     go_wp2_with (fail)
     go_quiet (fail)
     go_wp2_with (fail)
     refine (HFX.out _ (HBA.out.trans (bdN _ _ _))).mono ?_
     rintro e W3 ⟨rfl, hb⟩
     have HB5 : Hid (Below W2.heap.size W2 W3) := HBA2.out.trans ((bdN _ _ _).trans (hb.mono (by show _ ≤ _; exact HBA2.out.size)))
     clear hb bA bB cq0 cq1
     go_wp2_with (fail)
     go_roundw
     case rel => exact ⟨t + 1, k + 1, by go_num, by go_num, by omega, by omega, HT2.out, HB5.out⟩
     case measure => simp [intOf] <;> omega
    | false =>
     obtain ⟨n1, n2⟩ := hnn hpq
     rw [hpq] at hpi
     have HT2 : Hid (t = (pickN L P (k + 1)).length) := n1.symm
     by_cases htn : t < nb
     ·have hne := n2 htn
      obtain ⟨bb, bo, e1, hbb, bA, bB⟩ := Lis.at (HG2.out.below HBA2.out (Nat.le_refl _)) t (by rw [← HNB.out]; exact htn)
      subst e1
      obtain ⟨x2, hx2⟩ : ∃ x, x = endA (pickN L P ml) t := ⟨_, rfl⟩
      obtain ⟨y2, hy2⟩ : ∃ x, x = endB (pickN L P ml) t := ⟨_, rfl⟩
      rw [← hx2] at bA hne
      rw [← hy2] at bB hne
      have htn0 : 0 ≤ (t : Int) ∧ (t : Int) < (nb : Int) := by omega
      have hdt : decide ((t : Int) < (nb : Int)) = true := by rw [decide_eq_true_iff]; omega
      clear hnx n1 n2 hx2 hy2
      by_cases hxx : x2 = x
      ·subst hxx
       have hyy : ((y2 : Int) == (y : Int)) = false := by rw [beq_eq_false_iff_ne]; intro e; exact hne ⟨rfl, by omega⟩
       go_wp2_with (fail)
       go_quiet (fail)
       go_wp2_with (fail)
       refine (HFX.out _ (HBA.out.trans (bdN _ _ _))).mono ?_
       rintro e W3 ⟨rfl, hb⟩
       have HB5 : Hid (Below W2.heap.size W2 W3) := HBA2.out.trans ((bdN _ _ _).trans (hb.mono (by show _ ≤ _; exact HBA2.out.size)))
       clear hb cq0 cq1
       go_wp2_with (fail)
       go_roundw
       case rel => exact ⟨t, k + 1, rfl, by go_num, by omega, by omega, HT2.out, HB5.out⟩
       case measure => simp [intOf] <;> omega
      ·have hxy : ((x2 : Int) == (x : Int)) = false := by rw [beq_eq_false_iff_ne]; omega
       go_wp2_with (fail)
       go_quiet (fail)
       go_wp2_with (fail)
       refine (HFX.out _ (HBA.out.trans (bdN _ _ _))).mono ?_
       rintro e W3 ⟨rfl, hb⟩
       have HB5 : Hid (Below W2.heap.size W2 W3) := HBA2.out.trans ((bdN _ _ _).trans (hb.mono (by show _ ≤ _; exact HBA2.out.size)))
       clear hb cq0 cq1
       go_wp2_with (fail)
       go_roundw
       case rel => exact ⟨t, k + 1, rfl, by go_num, by omega, by omega, HT2.out, HB5.out⟩
       case measure => simp [intOf] <;> omega
     ·have hdt : decide ((t : Int) < (nb : Int)) = false := by rw [decide_eq_false_iff_not]; omega
      clear hnx n1 n2
      go_wp2_with (fail)
      go_quiet (fail)
      go_wp2_with (fail)
      refine (HFX.out _ (HBA.out.trans (bdN _ _ _))).mono ?_
      rintro e W3 ⟨rfl, hb⟩
      have HB5 : Hid (Below W2.heap.size W2 W3) := HBA2.out.trans ((bdN _ _ _).trans (hb.mono (by show _ ≤ _; exact HBA2.out.size)))
      clear hb cq0 cq1
      go_wp2_with (fail)
      go_roundw
      case rel => exact ⟨t, k + 1, rfl, by go_num, by omega, by omega, HT2.out, HB5.out⟩
      case measure => simp [intOf] <;> omega
   ·obtain rfl : ml = k := by omega
    have htn : (t : Int) = (nb : Int) := by rw [HT.out, ← HNB.out]
    have htb : ((t : Int) != (nb : Int)) = false := by rw [htn]; simp
    have HBx := Lib.hid (HB2.out.trans (HB.out.mono HB2.out.size))
    clear HB htn
    go_wp2_with (fail)
    refine (HJOC.out wr HBx.out).mono ?_
    rintro e W3 ⟨⟨jv, rfl, hoj⟩, hb⟩
    have HB3 := Lib.hid (HBx.out.trans (hb.mono HBx.out.size))
    have hg3 := hoj.cel
    obtain ⟨aj, cj, rfl, hcj, hlj⟩ := hg3.slice
    rw [nI_len] at hg3 hcj hlj ⊢
    obtain ⟨nj, hnj⟩ : ∃ x, x = (jointsI L m).length := ⟨_, rfl⟩
    rw [← hnj] at hg3 hcj hlj ⊢
    have HNJ := Lib.hid hnj
    have HG3 := Lib.hid hg3
    clear hb hoj hg3 hnj
    go_wp2_with (fail)
    go_loopw [76] (fun jv wx => ∃ j : Nat, jv = .int .i64 (j : Int) ∧ j ≤ nj ∧ Hid (Below W3.heap.size W3 wx)) (fun jv _ => nj - (intOf jv).toNat)
    case atStart => exact ⟨0, rfl, Nat.zero_le _, Below.refl _ _⟩
    case round =>
     obtain ⟨j, rfl, hj, HB⟩ := hrel
     by_cases hlt : j < nj
     ·have hjl : j < (jointsI L m).length := by rw [← HNJ.out]; exact hlt
      obtain ⟨gb, go, e1, hgl, cj_⟩ := Its.at (HG3.out.below HB.out (Nat.le_refl _)) j (by rw [nI_len]; exact hjl)
      subst e1
      rw [nI_get] at cj_
      have hdeg := agree_joint (L := L) (n := m) (v := (jointsI L m).getD j 0) HF.out (by
       have e : (jointsI L m).getD j 0 = (jointsI L m)[j] := by simp [List.getD, hjl]
       rw [e]; exact List.getElem_mem hjl)
      rw [← HML.out] at hdeg
      obtain ⟨V, hV⟩ : ∃ V, V = (jointsI L m).getD j 0 := ⟨_, rfl⟩
      rw [← hV] at hdeg cj_
      have HDG := Lib.hid hdeg
      have hgw : gb < wr.heap.size := by have := HB.out.size; omega
      have HBJ := Lib.hid HB.out
      clear hjl hV hdeg HB
      go_wp2_with (fail)
      clear cj_ hgw
      go_loopw [19, 82] (fun dv kv wx => ∃ d k : Nat, dv = .int .i64 (d : Int) ∧ kv = .int .i64 (k : Int) ∧ k ≤ ml ∧ d ≤ k ∧ Hid (d = degN L V k) ∧ Hid (Below W3.heap.size W3 wx)) (fun _ kv _ => ml - (intOf kv).toNat)
      case atStart => exact ⟨0, 0, rfl, rfl, Nat.zero_le _, Nat.zero_le _, rfl, HBJ.out⟩
      case round =>
       clear HBJ
       obtain ⟨d, k, rfl, rfl, hk, hd, HD, HB⟩ := hrel
       by_cases hklt : k < ml
       ·have hkL : k < L.length := by have := HML.out; omega
        have hbw := HB3.out.trans (HB.out.mono HB3.out.size)
        obtain ⟨bl, ol, e1, hl1, cA, cB⟩ := Lis.at (HLI.out wr hbw) k hkL
        subst e1
        have hds := degN_succ L V k
        rw [← HD.out] at hds
        obtain ⟨x, hx⟩ : ∃ x, x = endA L k := ⟨_, rfl⟩
        obtain ⟨y, hy⟩ : ∃ x, x = endB L k := ⟨_, rfl⟩
        rw [← hx] at cA hds
        rw [← hy] at cB hds
        have HDS := Lib.hid hds
        have m1 := new_block wr (.cells #[.int .i64 (x : Int), .int .i64 (y : Int)] 38)
        have HBA2 : Hid (Below W3.heap.size W3 (wr.alloc (.cells #[.int .i64 (x : Int), .int .i64 (y : Int)] 38))) := HB.out.trans (m1.1.mono HB.out.size)
        have hbl : bl < wr.heap.size := hl1
        clear hx hy m1 hkL hbw hds
        by_cases hxv : x = V
        ·subst hxv
         have HE : Hid (d + 1 = degN L x (k + 1)) := by show _ = _; rw [HDS.out, if_pos (.inl rfl)]
         go_wp2_with (fail)
         go_roundw
         case rel => exact ⟨d + 1, k + 1, by go_num, by go_num, by omega, by omega, HE.out, HBA2.out⟩
         case measure => simp [intOf] <;> omega
        ·have hxb : ((x : Int) == (V : Int)) = false := by rw [beq_eq_false_iff_ne]; omega
         by_cases hyv : y = V
         ·subst hyv
          have HE : Hid (d + 1 = degN L y (k + 1)) := by show _ = _; rw [HDS.out, if_pos (.inr rfl)]
          go_wp2_with (fail)
          go_roundw
          case rel => exact ⟨d + 1, k + 1, by go_num, by go_num, by omega, by omega, HE.out, HBA2.out⟩
          case measure => simp [intOf] <;> omega
         ·have hyb : ((y : Int) == (V : Int)) = false := by rw [beq_eq_false_iff_ne]; omega
          have HE : Hid (d = degN L V (k + 1)) := by show _ = _; rw [HDS.out, if_neg (by rintro (h | h) <;> omega)]; rfl
          go_wp2_with (fail)
          go_roundw
          case rel => exact ⟨d, k + 1, rfl, by go_num, by omega, by omega, HE.out, HBA2.out⟩
          case measure => simp [intOf] <;> omega
       ·obtain rfl : ml = k := by omega
        have hd2 : decide ((d : Int) < 2) = false := by rw [decide_eq_false_iff_not]; have := HDG.out; rw [← HD.out] at this; omega
        go_wp2_with (fail)
        go_roundw
        case rel => exact ⟨j + 1, by go_num, by omega, HB.out⟩
        case measure => simp [intOf] <;> omega
     ·obtain rfl : nj = j := by omega
      have HB4 := Lib.hid (HB3.out.trans (HB.out.mono HB3.out.size))
      clear HB
      go_wp2_with (fail)
      go_quiet (fail)
      obtain ⟨A, hA, eA⟩ := mod_node hm1 hm16 a
      obtain ⟨B, hB, eB⟩ := mod_node hm1 hm16 b
      obtain ⟨C, hC, eC⟩ := mod_node hm1 hm16 c
      rw [eA, eB, eC]
      have hsym := flv_swap (a := A) (b := B) HF.out hA hB
      have HFab : Hid (∀ w, Below W.heap.size W w → Calls Try.prog 12 #[.int .i64 (m : Int), .slice al ml ac, .int .i64 (A : Int), .int .i64 (B : Int)] w fun e w' => e = .returned (.int .i64 (FlV L m A B : Int)) ∧ Below w.heap.size w w') := fun w hw => HFLW.out w A B hw
      have HFba : Hid (∀ w, Below W.heap.size W w → Calls Try.prog 12 #[.int .i64 (m : Int), .slice al ml ac, .int .i64 (B : Int), .int .i64 (A : Int)] w fun e w' => e = .returned (.int .i64 (FlV L m A B : Int)) ∧ Below w.heap.size w w') := fun w hw => by rw [hsym]; exact HFLW.out w B A hw
      have HFac : Hid (∀ w, Below W.heap.size W w → Calls Try.prog 12 #[.int .i64 (m : Int), .slice al ml ac, .int .i64 (A : Int), .int .i64 (C : Int)] w fun e w' => e = .returned (.int .i64 (FlV L m A C : Int)) ∧ Below w.heap.size w w') := fun w hw => HFLW.out w A C hw
      have HFbc : Hid (∀ w, Below W.heap.size W w → Calls Try.prog 12 #[.int .i64 (m : Int), .slice al ml ac, .int .i64 (B : Int), .int .i64 (C : Int)] w fun e w' => e = .returned (.int .i64 (FlV L m B C : Int)) ∧ Below w.heap.size w w') := fun w hw => HFLW.out w B C hw
      have HTHREE : Hid (A ≠ B → B ≠ C → A ≠ C → min (FlV L m A B) (FlV L m B C) ≤ FlV L m A C) := fun h1 h2 h3 => flv_three HF.out hA hB hC h1 h2 h3
      have HBLK : Hid (∀ BL, A ≠ B → BL ∈ blocksI L m → A ∈ BL → (B ∈ BL ↔ 2 ≤ FlV L m A B)) := fun BL h1 h2 h3 => agree_block HF.out hA hB h1 h2 h3
      have hbks : (blocksI L m).length ≤ 1000 := Nat.le_trans (blkN_few m) (by omega)
      obtain ⟨fab, hfab⟩ : ∃ x, x = FlV L m A B := ⟨_, rfl⟩
      obtain ⟨fbc, hfbc⟩ : ∃ x, x = FlV L m B C := ⟨_, rfl⟩
      obtain ⟨fac, hfac⟩ : ∃ x, x = FlV L m A C := ⟨_, rfl⟩
      obtain ⟨BS, hBS⟩ : ∃ x, x = blocksI L m := ⟨_, rfl⟩
      rw [← hfab] at HFab HFba HTHREE HBLK
      rw [← hfbc] at HFbc HTHREE
      rw [← hfac] at HFac HTHREE
      rw [← hBS] at HBKC HBLK hbks
      have HBw : Hid (Below W.heap.size W (wr.drewN nq)) := HB4.out.trans (bdN _ _ _)
      obtain ⟨Wa, hWa⟩ : ∃ x, x = wr.drewN nq := ⟨_, rfl⟩
      rw [← hWa] at HBw ⊢
      clear eA eB eC hsym hfab hfbc hfac hBS hWa HFLW HB4
      go_wp2_with (fail)
      refine (HFab.out _ HBw.out).mono ?_
      rintro e W5 ⟨rfl, hb⟩
      have HB5 := Lib.hid (HBw.out.trans (hb.mono HBw.out.size))
      clear hb
      go_wp2_with (fail)
      refine (HFba.out _ HB5.out).mono ?_
      rintro e W6 ⟨rfl, hb⟩
      have HB6 := Lib.hid (HB5.out.trans (hb.mono HB5.out.size))
      clear hb HFba
      by_cases hAB : A = B
      ·have hABb : ((A : Int) != (B : Int)) = false := by rw [hAB]; simp
       clear hAB
       go_wp2_with (fail)
       refine (HBKC.out _ HB6.out).mono ?_
       rintro e W7 ⟨⟨kv, rfl, hog⟩, hb⟩
       have HB7 := Lib.hid (HB6.out.trans (hb.mono HB6.out.size))
       have hg7 := hog.gis
       obtain ⟨ag, cg, rfl, hcg, -⟩ := hg7.slice
       rw [List.length_map] at hg7 hcg ⊢
       obtain ⟨ng, hng⟩ : ∃ x, x = BS.length := ⟨_, rfl⟩
       rw [← hng] at hg7 hcg hbks ⊢
       have HNG := Lib.hid hng
       have HG7 := Lib.hid hg7
       clear hb hog hg7 hng
       go_wp2_with (fail)
       go_loopw [167] (fun jv wx => ∃ j : Nat, jv = .int .i64 (j : Int) ∧ j ≤ ng ∧ Hid (Below W7.heap.size W7 wx)) (fun jv _ => ng - (intOf jv).toNat)
       case atStart => exact ⟨0, rfl, Nat.zero_le _, Below.refl _ _⟩
       case round =>
        obtain ⟨j, rfl, hj, HB⟩ := hrel
        by_cases hlt : j < ng
        ·have hjl : j < BS.length := by rw [← HNG.out]; exact hlt
         obtain ⟨gb, go, rv, e1, hgl, cgj, -⟩ := (HG7.out.below HB.out (Nat.le_refl _)).at j (by rw [List.length_map]; exact hjl)
         subst e1
         obtain ⟨gb', go', rv', e1, -, cg', hits⟩ := HG7.out.at j (by rw [List.length_map]; exact hjl)
         cases e1
         have HBE := HB.out
         rw [HBE.cell (p := ⟨gb, go + j, none⟩) hgl, cg'] at cgj
         cases cgj
         rw [nII_get] at hits
         have HMEM : Hid (BS.getD j [] ∈ BS) := by
          have e : BS.getD j [] = BS[j] := by simp [List.getD, hjl]
          show _ ∈ _
          rw [e]; exact List.getElem_mem hjl
         obtain ⟨BL, hBL⟩ : ∃ x, x = BS.getD j [] := ⟨_, rfl⟩
         rw [← hBL] at hits HMEM
         obtain ⟨ar, cr, rfl, hcr, hlr⟩ := hits.slice
         rw [nI_len] at hits hcr hlr cg'
         obtain ⟨wl, hwl⟩ : ∃ x, x = BL.length := ⟨_, rfl⟩
         rw [← hwl] at hits hcr hlr cg'
         have HWL := Lib.hid hwl
         have HIT := Lib.hid hits
         have hgw : gb < wr.heap.size := by have := HBE.size; omega
         have cgj : wr.cell? ⟨gb, go + j, none⟩ = some (.slice ar wl cr) := by rw [HBE.cell (p := ⟨gb, go + j, none⟩) hgl]; exact cg'
         have m1 := new_block wr (.cells #[.bool false, .bool false] 44)
         have HRV : Hid (RowV (wr.alloc (.cells #[.bool false, .bool false] 44)) wr.heap.size 44 [.bool false, .bool false]) := m1.2
         have HBA : Hid (Below W7.heap.size W7 (wr.alloc (.cells #[.bool false, .bool false] 44))) := HBE.trans (m1.1.mono HBE.size)
         obtain ⟨q, hq⟩ : ∃ q, q = wr.heap.size := ⟨_, rfl⟩
         have HQ := Lib.hid hq
         have HQ7 : Hid (W7.heap.size ≤ q) := by show _ ≤ _; rw [hq]; exact HBE.size
         rw [← hq] at HRV
         clear hjl hBL hits hwl HBE m1 hq cg' HB
         go_wp2_with (fail)
         rw [← HQ.out]
         go_loopw [174] (fun kv wx => ∃ (k : Nat) (i0 i1 : Bool), kv = .int .i64 (k : Int) ∧ k ≤ wl ∧ Hid (RowV wx q 44 [.bool i0, .bool i1]) ∧ Hid (i0 = decide (A ∈ BL.take k) ∧ i1 = decide (B ∈ BL.take k)) ∧ Hid (Below W7.heap.size W7 wx)) (fun kv _ => wl - (intOf kv).toNat)
         case atStart => exact ⟨0, false, false, rfl, Nat.zero_le _, HRV.out, (by show _ ∧ _; simp), HBA.out⟩
         case round =>
          clear HRV HBA cgj hgw HQ
          obtain ⟨k, i0, i1, rfl, hk, HRV, HII, HBX⟩ := hrel
          by_cases hkl : k < wl
          ·have hkL : k < BL.length := by rw [← HWL.out]; exact hkl
           obtain ⟨rb, ro, e1, hrl, cx⟩ := Its.at (HIT.out.below HBX.out (Nat.le_refl _)) k (by rw [nI_len]; exact hkL)
           subst e1
           rw [nI_get] at cx
           have hrw : rb < wr.heap.size := by have := HBX.out.size; omega
           have e0 := mem_take_next hkL A
           have e1 := mem_take_next hkL B
           rw [← HII.out.1] at e0
           rw [← HII.out.2] at e1
           obtain ⟨x, hx⟩ : ∃ x, x = BL.getD k 0 := ⟨_, rfl⟩
           rw [← hx] at cx e0 e1
           have HE : Hid ((i0 || ((x : Int) == (A : Int))) = decide (A ∈ BL.take (k + 1)) ∧ (i1 || ((x : Int) == (B : Int))) = decide (B ∈ BL.take (k + 1))) := ⟨e0.symm, e1.symm⟩
           have c0 : wr.cell? ⟨q, 0, none⟩ = some (.bool i0) := HRV.out.cell 0 (by simp)
           have f0 := RowV.frozen HRV.out 0
           have hql := HRV.out.lt
           have hr2 := HRV.out.set 0 (.bool (i0 || ((x : Int) == (A : Int))))
           have c1 : (wr.setCell ⟨q, 0, none⟩ (.bool (i0 || ((x : Int) == (A : Int))))).cell? ⟨q, 1, none⟩ = some (.bool i1) := hr2.cell 1 (by simp)
           have f1 := RowV.frozen hr2 1
           have HR3 : Hid (RowV ((wr.setCell ⟨q, 0, none⟩ (.bool (i0 || ((x : Int) == (A : Int))))).setCell ⟨q, 1, none⟩ (.bool (i1 || ((x : Int) == (B : Int))))) q 44 [.bool (i0 || ((x : Int) == (A : Int))), .bool (i1 || ((x : Int) == (B : Int)))]) := hr2.set 1 (.bool (i1 || ((x : Int) == (B : Int))))
           have HB3x : Hid (Below W7.heap.size W7 ((wr.setCell ⟨q, 0, none⟩ (.bool (i0 || ((x : Int) == (A : Int))))).setCell ⟨q, 1, none⟩ (.bool (i1 || ((x : Int) == (B : Int)))))) := bel_set HQ7.out (bel_set HQ7.out HBX.out)
           clear hx e0 e1 hkL hr2 hrl
           cases i0 <;> cases i1
           all_goals simp only [Bool.true_or, Bool.false_or] at c1 f1 HR3 HB3x HE
           all_goals go_wp2_with (fail)
           all_goals exact ⟨⟨k + 1, _, _, by go_num, by omega, HR3.out, HE.out, HB3x.out⟩, by simp [intOf] <;> omega⟩
          ·obtain rfl : wl = k := by omega
           rw [show BL.take wl = BL by rw [HWL.out, List.take_length]] at HII
           have HBW : Hid (Below W.heap.size W wr) := HB7.out.trans (HBX.out.mono HB7.out.size)
           have c0 : wr.cell? ⟨q, 0, none⟩ = some (.bool i0) := HRV.out.cell 0 (by simp)
           have c1 : wr.cell? ⟨q, 1, none⟩ = some (.bool i1) := HRV.out.cell 1 (by simp)
           have hql := HRV.out.lt
           go_wp2_with (fail)
           go_quiet (fail)
           go_wp2_with (fail)
           go_roundw
           case rel => exact ⟨j + 1, by go_num, by omega, HBX.out.trans (bdN _ _ _)⟩
           case measure => simp [intOf] <;> omega
        ·obtain rfl : ng = j := by omega
         have HB9 : Hid (Below W.heap.size W wr) := HB7.out.trans (HB.out.mono HB7.out.size)
         go_wp2_with (fail)
         refine (awake_any wr).mono ?_
         rintro e Wz ⟨rfl, hb⟩
         have HBz := Lib.hid (HB9.out.trans (hb.mono HB9.out.size))
         clear hb
         go_wp2_with (fail)
         go_ret
         exact ⟨rfl, HBz.out⟩
      ·have hABb : ((A : Int) != (B : Int)) = true := by rw [bne_iff_ne]; omega
       by_cases hBC : B = C
       ·have hBCb : ((B : Int) != (C : Int)) = false := by rw [hBC]; simp
        clear hBC
        go_wp2_with (fail)
        refine (HBKC.out _ HB6.out).mono ?_
        rintro e W7 ⟨⟨kv, rfl, hog⟩, hb⟩
        have HB7 := Lib.hid (HB6.out.trans (hb.mono HB6.out.size))
        have hg7 := hog.gis
        obtain ⟨ag, cg, rfl, hcg, -⟩ := hg7.slice
        rw [List.length_map] at hg7 hcg ⊢
        obtain ⟨ng, hng⟩ : ∃ x, x = BS.length := ⟨_, rfl⟩
        rw [← hng] at hg7 hcg hbks ⊢
        have HNG := Lib.hid hng
        have HG7 := Lib.hid hg7
        clear hb hog hg7 hng
        go_wp2_with (fail)
        go_loopw [167] (fun jv wx => ∃ j : Nat, jv = .int .i64 (j : Int) ∧ j ≤ ng ∧ Hid (Below W7.heap.size W7 wx)) (fun jv _ => ng - (intOf jv).toNat)
        case atStart => exact ⟨0, rfl, Nat.zero_le _, Below.refl _ _⟩
        case round =>
         obtain ⟨j, rfl, hj, HB⟩ := hrel
         by_cases hlt : j < ng
         ·have hjl : j < BS.length := by rw [← HNG.out]; exact hlt
          obtain ⟨gb, go, rv, e1, hgl, cgj, -⟩ := (HG7.out.below HB.out (Nat.le_refl _)).at j (by rw [List.length_map]; exact hjl)
          subst e1
          obtain ⟨gb', go', rv', e1, -, cg', hits⟩ := HG7.out.at j (by rw [List.length_map]; exact hjl)
          cases e1
          have HBE := HB.out
          rw [HBE.cell (p := ⟨gb, go + j, none⟩) hgl, cg'] at cgj
          cases cgj
          rw [nII_get] at hits
          have HMEM : Hid (BS.getD j [] ∈ BS) := by
           have e : BS.getD j [] = BS[j] := by simp [List.getD, hjl]
           show _ ∈ _
           rw [e]; exact List.getElem_mem hjl
          obtain ⟨BL, hBL⟩ : ∃ x, x = BS.getD j [] := ⟨_, rfl⟩
          rw [← hBL] at hits HMEM
          obtain ⟨ar, cr, rfl, hcr, hlr⟩ := hits.slice
          rw [nI_len] at hits hcr hlr cg'
          obtain ⟨wl, hwl⟩ : ∃ x, x = BL.length := ⟨_, rfl⟩
          rw [← hwl] at hits hcr hlr cg'
          have HWL := Lib.hid hwl
          have HIT := Lib.hid hits
          have hgw : gb < wr.heap.size := by have := HBE.size; omega
          have cgj : wr.cell? ⟨gb, go + j, none⟩ = some (.slice ar wl cr) := by rw [HBE.cell (p := ⟨gb, go + j, none⟩) hgl]; exact cg'
          have m1 := new_block wr (.cells #[.bool false, .bool false] 44)
          have HRV : Hid (RowV (wr.alloc (.cells #[.bool false, .bool false] 44)) wr.heap.size 44 [.bool false, .bool false]) := m1.2
          have HBA : Hid (Below W7.heap.size W7 (wr.alloc (.cells #[.bool false, .bool false] 44))) := HBE.trans (m1.1.mono HBE.size)
          obtain ⟨q, hq⟩ : ∃ q, q = wr.heap.size := ⟨_, rfl⟩
          have HQ := Lib.hid hq
          have HQ7 : Hid (W7.heap.size ≤ q) := by show _ ≤ _; rw [hq]; exact HBE.size
          rw [← hq] at HRV
          clear hjl hBL hits hwl HBE m1 hq cg' HB
          go_wp2_with (fail)
          rw [← HQ.out]
          go_loopw [174] (fun kv wx => ∃ (k : Nat) (i0 i1 : Bool), kv = .int .i64 (k : Int) ∧ k ≤ wl ∧ Hid (RowV wx q 44 [.bool i0, .bool i1]) ∧ Hid (i0 = decide (A ∈ BL.take k) ∧ i1 = decide (B ∈ BL.take k)) ∧ Hid (Below W7.heap.size W7 wx)) (fun kv _ => wl - (intOf kv).toNat)
          case atStart => exact ⟨0, false, false, rfl, Nat.zero_le _, HRV.out, (by show _ ∧ _; simp), HBA.out⟩
          case round =>
           clear HRV HBA cgj hgw HQ
           obtain ⟨k, i0, i1, rfl, hk, HRV, HII, HBX⟩ := hrel
           by_cases hkl : k < wl
           ·have hkL : k < BL.length := by rw [← HWL.out]; exact hkl
            obtain ⟨rb, ro, e1, hrl, cx⟩ := Its.at (HIT.out.below HBX.out (Nat.le_refl _)) k (by rw [nI_len]; exact hkL)
            subst e1
            rw [nI_get] at cx
            have hrw : rb < wr.heap.size := by have := HBX.out.size; omega
            have e0 := mem_take_next hkL A
            have e1 := mem_take_next hkL B
            rw [← HII.out.1] at e0
            rw [← HII.out.2] at e1
            obtain ⟨x, hx⟩ : ∃ x, x = BL.getD k 0 := ⟨_, rfl⟩
            rw [← hx] at cx e0 e1
            have HE : Hid ((i0 || ((x : Int) == (A : Int))) = decide (A ∈ BL.take (k + 1)) ∧ (i1 || ((x : Int) == (B : Int))) = decide (B ∈ BL.take (k + 1))) := ⟨e0.symm, e1.symm⟩
            have c0 : wr.cell? ⟨q, 0, none⟩ = some (.bool i0) := HRV.out.cell 0 (by simp)
            have f0 := RowV.frozen HRV.out 0
            have hql := HRV.out.lt
            have hr2 := HRV.out.set 0 (.bool (i0 || ((x : Int) == (A : Int))))
            have c1 : (wr.setCell ⟨q, 0, none⟩ (.bool (i0 || ((x : Int) == (A : Int))))).cell? ⟨q, 1, none⟩ = some (.bool i1) := hr2.cell 1 (by simp)
            have f1 := RowV.frozen hr2 1
            have HR3 : Hid (RowV ((wr.setCell ⟨q, 0, none⟩ (.bool (i0 || ((x : Int) == (A : Int))))).setCell ⟨q, 1, none⟩ (.bool (i1 || ((x : Int) == (B : Int))))) q 44 [.bool (i0 || ((x : Int) == (A : Int))), .bool (i1 || ((x : Int) == (B : Int)))]) := hr2.set 1 (.bool (i1 || ((x : Int) == (B : Int))))
            have HB3x : Hid (Below W7.heap.size W7 ((wr.setCell ⟨q, 0, none⟩ (.bool (i0 || ((x : Int) == (A : Int))))).setCell ⟨q, 1, none⟩ (.bool (i1 || ((x : Int) == (B : Int)))))) := bel_set HQ7.out (bel_set HQ7.out HBX.out)
            clear hx e0 e1 hkL hr2 hrl
            cases i0 <;> cases i1
            all_goals simp only [Bool.true_or, Bool.false_or] at c1 f1 HR3 HB3x HE
            all_goals go_wp2_with (fail)
            all_goals exact ⟨⟨k + 1, _, _, by go_num, by omega, HR3.out, HE.out, HB3x.out⟩, by simp [intOf] <;> omega⟩
           ·obtain rfl : wl = k := by omega
            rw [show BL.take wl = BL by rw [HWL.out, List.take_length]] at HII
            have HBW : Hid (Below W.heap.size W wr) := HB7.out.trans (HBX.out.mono HB7.out.size)
            have c0 : wr.cell? ⟨q, 0, none⟩ = some (.bool i0) := HRV.out.cell 0 (by simp)
            have c1 : wr.cell? ⟨q, 1, none⟩ = some (.bool i1) := HRV.out.cell 1 (by simp)
            have hql := HRV.out.lt
            cases i0 with
            | false =>
             go_wp2_with (fail)
             go_quiet (fail)
             go_wp2_with (fail)
             go_roundw
             case rel => exact ⟨j + 1, by go_num, by omega, HBX.out.trans (bdN _ _ _)⟩
             case measure => simp [intOf] <;> omega
            | true =>
             have hne : (i1 != decide ((2 : Int) ≤ (fab : Int))) = false := by
              obtain ⟨e0, e1⟩ := HII.out
              have h1 := HBLK.out BL hAB HMEM.out (of_decide_eq_true e0.symm)
              rw [e1, bne_eq_false_iff_eq, Bool.eq_iff_iff, decide_eq_true_iff, decide_eq_true_iff, h1]
              omega
             have hne2 : i1 = decide ((2 : Int) ≤ (fab : Int)) := by simpa using hne
             clear hne
             have HC0 : Hid (∀ W', Below wr.heap.size wr W' → W'.cell? ⟨q, 0, none⟩ = some (.bool true)) := fun W' h => (HRV.out.keep h).cell 0 (by simp)
             have HC1 : Hid (∀ W', Below wr.heap.size wr W' → W'.cell? ⟨q, 1, none⟩ = some (.bool i1)) := fun W' h => (HRV.out.keep h).cell 1 (by simp)
             go_wp2_with (fail)
             refine wpIn_wide (n := 5).1 (wpIn_flowM (F0 := Fence.wide) (n0 := 5) (fun _ => trivial) (fun h => by cases h) (by kernel_rfl) (by kernel_rfl) 18 18 (by kernel_rfl) (fun j => ([0, 1, 2, 3, 4, 5, 6, 7, 8, 9, 10, 11, 12, 13, 14, 15, 16, 17] : List Nat).getD j 0) (fun j => ([195, 196, 197, 198, 199, 200, 201, 202, 203, 204, 205, 206, 207, 208, 209, 210, 211, 212] : List Nat).getD j 0) (by kernel_rfl) (by kernel_rfl) (by kernel_rfl) (by kernel_rfl) (by kernel_rfl) (by kernel_rfl) (by kernel_rfl) (fun j zv => ([(fun zv => zv = (.int .i64 (A : Int))), (fun zv => zv = (.int .i64 (B : Int))), (fun zv => zv = (.bool true)), (fun zv => zv = (.bool true)), (fun zv => zv = (.pointer (some ⟨q, 0, none⟩))), (fun zv => zv = (.bool true)), (fun zv => zv = (.bool true)), (fun zv => zv = (.bool true)), (fun zv => zv = (.pointer (some ⟨q, 1, none⟩))), (fun zv => zv = (.bool i1)), (fun zv => zv = (.int .i64 (m : Int))), (fun zv => zv = (.slice al ml ac)), (fun zv => zv = (.int .i64 (A : Int))), (fun zv => zv = (.int .i64 (B : Int))), (fun zv => zv = (.int .i64 (fab : Int))), (fun zv => zv = (.bool (decide ((2 : Int) ≤ (fab : Int))))), (fun zv => zv = (.bool false)), (fun zv => zv = (.bool false))] : List (Value → Prop)).getD j (fun _ => True) zv) (fun _ _ W => Below wr.heap.size wr W) ?h0c ?stepc ?finc)
             case h0c => exact fun _ => bdN _ _ 1
             case stepc =>
              intro i o a W d vs hi ho hdi hJ hf hr hF
              replace hi : i < 18 := hi
              rcases (show i = 0 ∨ i = 1 ∨ i = 2 ∨ i = 3 ∨ i = 4 ∨ i = 5 ∨ i = 6 ∨ i = 7 ∨ i = 8 ∨ i = 9 ∨ i = 10 ∨ i = 11 ∨ i = 12 ∨ i = 13 ∨ i = 14 ∨ i = 15 ∨ i = 16 ∨ i = 17 by omega) with rfl | rfl | rfl | rfl | rfl | rfl | rfl | rfl | rfl | rfl | rfl | rfl | rfl | rfl | rfl | rfl | rfl | rfl
              all_goals
               replace ho := op_at ho (by rfl)
               subst ho
              ·have f2 : a.tmps.getD 2 undef = (.int .i64 (A : Int)) := hf 2 (by kernel_rfl)
               exact .inl ⟨(fun k b h => by cases h), .inl ⟨0, by decide, rfl, (.int .i64 (A : Int)), W, (by simp [go_sem, Act.eval, f2]), rfl, hJ⟩⟩
              ·have f3 : a.tmps.getD 3 undef = (.int .i64 (B : Int)) := hf 3 (by kernel_rfl)
               exact .inl ⟨(fun k b h => by cases h), .inl ⟨1, by decide, rfl, (.int .i64 (B : Int)), W, (by simp [go_sem, Act.eval, f3]), rfl, hJ⟩⟩
              ·have d0 : a.tmps.getD 195 undef = (.int .i64 (A : Int)) := fdn (hF 0 (by decide) (hr 0 (by kernel_rfl)))
               have d1 : a.tmps.getD 196 undef = (.int .i64 (B : Int)) := fdn (hF 1 (by decide) (hr 1 (by kernel_rfl)))
               exact .inl ⟨(fun k b h => by cases h), .inl ⟨2, by decide, rfl, (.bool true), W, (by simp [go_sem, Act.eval, d0, d1, hABb]), rfl, hJ⟩⟩
              ·have d2 : a.tmps.getD 197 undef = (.bool true) := fdn (hF 2 (by decide) (hr 2 (by kernel_rfl)))
               exact .inl ⟨(fun k b h => by cases h), .inl ⟨3, by decide, rfl, (.bool true), W, (by simp [go_sem, Act.eval, d2]), rfl, hJ⟩⟩
              ·have d3 : a.tmps.getD 198 undef = (.bool true) := fdn (hF 3 (by decide) (hr 3 (by kernel_rfl)))
               have f24 : a.tmps.getD 24 undef = (.pointer (some ⟨q, 0, none⟩)) := hf 24 (by kernel_rfl)
               exact .inl ⟨(fun k b h => by cases h; exact ⟨3, by decide, rfl, d3⟩), .inl ⟨4, by decide, rfl, (.pointer (some ⟨q, 0, none⟩)), W, (by simp [go_sem, Act.eval, d3, f24]), rfl, hJ⟩⟩
              ·have d4 : a.tmps.getD 199 undef = (.pointer (some ⟨q, 0, none⟩)) := fdn (hF 4 (by decide) (hr 4 (by kernel_rfl)))
               have d3 : a.tmps.getD 198 undef = (.bool true) := fdn (hF 3 (by decide) (hr 3 (by kernel_rfl)))
               have cx := HC0.out W hJ
               exact .inl ⟨(fun k b h => by cases h; exact ⟨3, by decide, rfl, d3⟩), .inl ⟨5, by decide, rfl, (.bool true), W, (by simp [go_sem, Act.eval, d4, d3, cx]), rfl, hJ⟩⟩
              ·have d3 : a.tmps.getD 198 undef = (.bool true) := fdn (hF 3 (by decide) (hr 3 (by kernel_rfl)))
               have d5 : a.tmps.getD 200 undef = (.bool true) := fdn (hF 5 (by decide) (hr 5 (by kernel_rfl)))
               exact .inl ⟨(fun k b h => by cases h), .inl ⟨6, by decide, rfl, (.bool true), W, (by simp [go_sem, Act.eval, d3, d5]), rfl, hJ⟩⟩
              ·have d6 : a.tmps.getD 201 undef = (.bool true) := fdn (hF 6 (by decide) (hr 6 (by kernel_rfl)))
               exact .inl ⟨(fun k b h => by cases h), .inl ⟨7, by decide, rfl, (.bool true), W, (by simp [go_sem, Act.eval, d6]), rfl, hJ⟩⟩
              ·have d7 : a.tmps.getD 202 undef = (.bool true) := fdn (hF 7 (by decide) (hr 7 (by kernel_rfl)))
               have f24 : a.tmps.getD 24 undef = (.pointer (some ⟨q, 0, none⟩)) := hf 24 (by kernel_rfl)
               exact .inl ⟨(fun k b h => by cases h; exact ⟨7, by decide, rfl, d7⟩), .inl ⟨8, by decide, rfl, (.pointer (some ⟨q, 1, none⟩)), W, (by simp [go_sem, Act.eval, d7, f24]), rfl, hJ⟩⟩
              ·have d8 : a.tmps.getD 203 undef = (.pointer (some ⟨q, 1, none⟩)) := fdn (hF 8 (by decide) (hr 8 (by kernel_rfl)))
               have d7 : a.tmps.getD 202 undef = (.bool true) := fdn (hF 7 (by decide) (hr 7 (by kernel_rfl)))
               have cx := HC1.out W hJ
               exact .inl ⟨(fun k b h => by cases h; exact ⟨7, by decide, rfl, d7⟩), .inl ⟨9, by decide, rfl, (.bool i1), W, (by simp [go_sem, Act.eval, d8, d7, cx]), rfl, hJ⟩⟩
              ·have d7 : a.tmps.getD 202 undef = (.bool true) := fdn (hF 7 (by decide) (hr 7 (by kernel_rfl)))
               have f0 : a.tmps.getD 0 undef = (.int .i64 (m : Int)) := hf 0 (by kernel_rfl)
               exact .inl ⟨(fun k b h => by cases h; exact ⟨7, by decide, rfl, d7⟩), .inl ⟨10, by decide, rfl, (.int .i64 (m : Int)), W, (by simp [go_sem, Act.eval, d7, f0]), rfl, hJ⟩⟩
              ·have d7 : a.tmps.getD 202 undef = (.bool true) := fdn (hF 7 (by decide) (hr 7 (by kernel_rfl)))
               have f1 : a.tmps.getD 1 undef = (.slice al ml ac) := hf 1 (by kernel_rfl)
               exact .inl ⟨(fun k b h => by cases h; exact ⟨7, by decide, rfl, d7⟩), .inl ⟨11, by decide, rfl, (.slice al ml ac), W, (by simp [go_sem, Act.eval, d7, f1]), rfl, hJ⟩⟩
              ·have d7 : a.tmps.getD 202 undef = (.bool true) := fdn (hF 7 (by decide) (hr 7 (by kernel_rfl)))
               have f2 : a.tmps.getD 2 undef = (.int .i64 (A : Int)) := hf 2 (by kernel_rfl)
               exact .inl ⟨(fun k b h => by cases h; exact ⟨7, by decide, rfl, d7⟩), .inl ⟨12, by decide, rfl, (.int .i64 (A : Int)), W, (by simp [go_sem, Act.eval, d7, f2]), rfl, hJ⟩⟩
              ·have d7 : a.tmps.getD 202 undef = (.bool true) := fdn (hF 7 (by decide) (hr 7 (by kernel_rfl)))
               have f3 : a.tmps.getD 3 undef = (.int .i64 (B : Int)) := hf 3 (by kernel_rfl)
               exact .inl ⟨(fun k b h => by cases h; exact ⟨7, by decide, rfl, d7⟩), .inl ⟨13, by decide, rfl, (.int .i64 (B : Int)), W, (by simp [go_sem, Act.eval, d7, f3]), rfl, hJ⟩⟩
              ·have d10 : a.tmps.getD 205 undef = (.int .i64 (m : Int)) := fdn (hF 10 (by decide) (hr 10 (by kernel_rfl)))
               have d11 : a.tmps.getD 206 undef = (.slice al ml ac) := fdn (hF 11 (by decide) (hr 11 (by kernel_rfl)))
               have d12 : a.tmps.getD 207 undef = (.int .i64 (A : Int)) := fdn (hF 12 (by decide) (hr 12 (by kernel_rfl)))
               have d13 : a.tmps.getD 208 undef = (.int .i64 (B : Int)) := fdn (hF 13 (by decide) (hr 13 (by kernel_rfl)))
               have d7 : a.tmps.getD 202 undef = (.bool true) := fdn (hF 7 (by decide) (hr 7 (by kernel_rfl)))
               refine .inl ⟨(fun k b h => by cases h; exact ⟨7, by decide, rfl, d7⟩), .inr (.inr ⟨14, by decide, rfl, 12, #[.int .i64 (m : Int), (.slice al ml ac), (.int .i64 (A : Int)), (.int .i64 (B : Int))], W, (by simp [go_sem, Act.eval, d10, d11, d12, d13, d7]), ?_⟩)⟩
               refine (callsIn_wide.2 (HFab.out W (HBW.out.trans (Below.mono hJ HBW.out.size)))).mono ?_
               rintro e W' ⟨rfl, hBe⟩
               exact ⟨_, rfl, rfl, Below.trans hJ (hBe.mono (Below.size hJ))⟩
              ·have d14 : a.tmps.getD 209 undef = (.int .i64 (fab : Int)) := fdn (hF 14 (by decide) (hr 14 (by kernel_rfl)))
               have d7 : a.tmps.getD 202 undef = (.bool true) := fdn (hF 7 (by decide) (hr 7 (by kernel_rfl)))
               exact .inl ⟨(fun k b h => by cases h; exact ⟨7, by decide, rfl, d7⟩), .inl ⟨15, by decide, rfl, (.bool (decide ((2 : Int) ≤ (fab : Int)))), W, (by simp [go_sem, Act.eval, d14, d7]), rfl, hJ⟩⟩
              ·have d9 : a.tmps.getD 204 undef = (.bool i1) := fdn (hF 9 (by decide) (hr 9 (by kernel_rfl)))
               have d15 : a.tmps.getD 210 undef = (.bool (decide ((2 : Int) ≤ (fab : Int)))) := fdn (hF 15 (by decide) (hr 15 (by kernel_rfl)))
               have d7 : a.tmps.getD 202 undef = (.bool true) := fdn (hF 7 (by decide) (hr 7 (by kernel_rfl)))
               exact .inl ⟨(fun k b h => by cases h; exact ⟨7, by decide, rfl, d7⟩), .inl ⟨16, by decide, rfl, (.bool false), W, (by simp [go_sem, Act.eval, d9, d15, d7, hne2]), rfl, hJ⟩⟩
              ·have d7 : a.tmps.getD 202 undef = (.bool true) := fdn (hF 7 (by decide) (hr 7 (by kernel_rfl)))
               have d16 : a.tmps.getD 211 undef = (.bool false) := fdn (hF 16 (by decide) (hr 16 (by kernel_rfl)))
               exact .inl ⟨(fun k b h => by cases h), .inl ⟨17, by decide, rfl, (.bool false), W, (by simp [go_sem, Act.eval, d7, d16]), rfl, hJ⟩⟩
             case finc =>
              intro d vs Wc hall hJ hF
              have h0 : vs 0 = (.int .i64 (A : Int)) := hF 0 (by decide)
              have h1 : vs 1 = (.int .i64 (B : Int)) := hF 1 (by decide)
              have h2 : vs 2 = (.bool true) := hF 2 (by decide)
              have h3 : vs 3 = (.bool true) := hF 3 (by decide)
              have h4 : vs 4 = (.pointer (some ⟨q, 0, none⟩)) := hF 4 (by decide)
              have h5 : vs 5 = (.bool true) := hF 5 (by decide)
              have h6 : vs 6 = (.bool true) := hF 6 (by decide)
              have h7 : vs 7 = (.bool true) := hF 7 (by decide)
              have h8 : vs 8 = (.pointer (some ⟨q, 1, none⟩)) := hF 8 (by decide)
              have h9 : vs 9 = (.bool i1) := hF 9 (by decide)
              have h10 : vs 10 = (.int .i64 (m : Int)) := hF 10 (by decide)
              have h11 : vs 11 = (.slice al ml ac) := hF 11 (by decide)
              have h12 : vs 12 = (.int .i64 (A : Int)) := hF 12 (by decide)
              have h13 : vs 13 = (.int .i64 (B : Int)) := hF 13 (by decide)
              have h14 : vs 14 = (.int .i64 (fab : Int)) := hF 14 (by decide)
              have h15 : vs 15 = (.bool (decide ((2 : Int) ≤ (fab : Int)))) := hF 15 (by decide)
              have h16 : vs 16 = (.bool false) := hF 16 (by decide)
              have h17 : vs 17 = (.bool false) := hF 17 (by decide)
              clear hF
              have hJc : Below wr.heap.size wr Wc := hJ
              clear hJ hall
              show (_ : Exit → Act → World → Prop) Exit.normal (puts _ vs 18 _) Wc
              simp only [puts, h0, h1, h2, h3, h4, h5, h6, h7, h8, h9, h10, h11, h12, h13, h14, h15, h16, h17, List.getD_cons_zero, List.getD_cons_succ]
              clear h0 h1 h2 h3 h4 h5 h6 h7 h8 h9 h10 h11 h12 h13 h14 h15 h16 h17
              simp only [Act.put, List.setIfInBounds_toArray, List.set_cons_succ, List.set_cons_zero]
              go_wp2_with (fail)
              go_roundw
              case rel => exact ⟨j + 1, by go_num, by omega, HBX.out.trans (hJc.mono HBX.out.size)⟩
              case measure => simp [intOf] <;> omega
         ·obtain rfl : ng = j := by omega
          have HB9 : Hid (Below W.heap.size W wr) := HB7.out.trans (HB.out.mono HB7.out.size)
          go_wp2_with (fail)
          refine (awake_any wr).mono ?_
          rintro e Wz ⟨rfl, hb⟩
          have HBz := Lib.hid (HB9.out.trans (hb.mono HB9.out.size))
          clear hb
          go_wp2_with (fail)
          go_ret
          exact ⟨rfl, HBz.out⟩
       ·have hBCb : ((B : Int) != (C : Int)) = true := by rw [bne_iff_ne]; omega
        by_cases hAC : A = C
        ·have hACb : ((A : Int) != (C : Int)) = false := by rw [hAC]; simp
         clear hAC
         go_wp2_with (fail)
         refine (HBKC.out _ HB6.out).mono ?_
         rintro e W7 ⟨⟨kv, rfl, hog⟩, hb⟩
         have HB7 := Lib.hid (HB6.out.trans (hb.mono HB6.out.size))
         have hg7 := hog.gis
         obtain ⟨ag, cg, rfl, hcg, -⟩ := hg7.slice
         rw [List.length_map] at hg7 hcg ⊢
         obtain ⟨ng, hng⟩ : ∃ x, x = BS.length := ⟨_, rfl⟩
         rw [← hng] at hg7 hcg hbks ⊢
         have HNG := Lib.hid hng
         have HG7 := Lib.hid hg7
         clear hb hog hg7 hng
         go_wp2_with (fail)
         go_loopw [167] (fun jv wx => ∃ j : Nat, jv = .int .i64 (j : Int) ∧ j ≤ ng ∧ Hid (Below W7.heap.size W7 wx)) (fun jv _ => ng - (intOf jv).toNat)
         case atStart => exact ⟨0, rfl, Nat.zero_le _, Below.refl _ _⟩
         case round =>
          obtain ⟨j, rfl, hj, HB⟩ := hrel
          by_cases hlt : j < ng
          ·have hjl : j < BS.length := by rw [← HNG.out]; exact hlt
           obtain ⟨gb, go, rv, e1, hgl, cgj, -⟩ := (HG7.out.below HB.out (Nat.le_refl _)).at j (by rw [List.length_map]; exact hjl)
           subst e1
           obtain ⟨gb', go', rv', e1, -, cg', hits⟩ := HG7.out.at j (by rw [List.length_map]; exact hjl)
           cases e1
           have HBE := HB.out
           rw [HBE.cell (p := ⟨gb, go + j, none⟩) hgl, cg'] at cgj
           cases cgj
           rw [nII_get] at hits
           have HMEM : Hid (BS.getD j [] ∈ BS) := by
            have e : BS.getD j [] = BS[j] := by simp [List.getD, hjl]
            show _ ∈ _
            rw [e]; exact List.getElem_mem hjl
           obtain ⟨BL, hBL⟩ : ∃ x, x = BS.getD j [] := ⟨_, rfl⟩
           rw [← hBL] at hits HMEM
           obtain ⟨ar, cr, rfl, hcr, hlr⟩ := hits.slice
           rw [nI_len] at hits hcr hlr cg'
           obtain ⟨wl, hwl⟩ : ∃ x, x = BL.length := ⟨_, rfl⟩
           rw [← hwl] at hits hcr hlr cg'
           have HWL := Lib.hid hwl
           have HIT := Lib.hid hits
           have hgw : gb < wr.heap.size := by have := HBE.size; omega
           have cgj : wr.cell? ⟨gb, go + j, none⟩ = some (.slice ar wl cr) := by rw [HBE.cell (p := ⟨gb, go + j, none⟩) hgl]; exact cg'
           have m1 := new_block wr (.cells #[.bool false, .bool false] 44)
           have HRV : Hid (RowV (wr.alloc (.cells #[.bool false, .bool false] 44)) wr.heap.size 44 [.bool false, .bool false]) := m1.2
           have HBA : Hid (Below W7.heap.size W7 (wr.alloc (.cells #[.bool false, .bool false] 44))) := HBE.trans (m1.1.mono HBE.size)
           obtain ⟨q, hq⟩ : ∃ q, q = wr.heap.size := ⟨_, rfl⟩
           have HQ := Lib.hid hq
           have HQ7 : Hid (W7.heap.size ≤ q) := by show _ ≤ _; rw [hq]; exact HBE.size
           rw [← hq] at HRV
           clear hjl hBL hits hwl HBE m1 hq cg' HB
           go_wp2_with (fail)
           rw [← HQ.out]
           go_loopw [174] (fun kv wx => ∃ (k : Nat) (i0 i1 : Bool), kv = .int .i64 (k : Int) ∧ k ≤ wl ∧ Hid (RowV wx q 44 [.bool i0, .bool i1]) ∧ Hid (i0 = decide (A ∈ BL.take k) ∧ i1 = decide (B ∈ BL.take k)) ∧ Hid (Below W7.heap.size W7 wx)) (fun kv _ => wl - (intOf kv).toNat)
           case atStart => exact ⟨0, false, false, rfl, Nat.zero_le _, HRV.out, (by show _ ∧ _; simp), HBA.out⟩
           case round =>
            clear HRV HBA cgj hgw HQ
            obtain ⟨k, i0, i1, rfl, hk, HRV, HII, HBX⟩ := hrel
            by_cases hkl : k < wl
            ·have hkL : k < BL.length := by rw [← HWL.out]; exact hkl
             obtain ⟨rb, ro, e1, hrl, cx⟩ := Its.at (HIT.out.below HBX.out (Nat.le_refl _)) k (by rw [nI_len]; exact hkL)
             subst e1
             rw [nI_get] at cx
             have hrw : rb < wr.heap.size := by have := HBX.out.size; omega
             have e0 := mem_take_next hkL A
             have e1 := mem_take_next hkL B
             rw [← HII.out.1] at e0
             rw [← HII.out.2] at e1
             obtain ⟨x, hx⟩ : ∃ x, x = BL.getD k 0 := ⟨_, rfl⟩
             rw [← hx] at cx e0 e1
             have HE : Hid ((i0 || ((x : Int) == (A : Int))) = decide (A ∈ BL.take (k + 1)) ∧ (i1 || ((x : Int) == (B : Int))) = decide (B ∈ BL.take (k + 1))) := ⟨e0.symm, e1.symm⟩
             have c0 : wr.cell? ⟨q, 0, none⟩ = some (.bool i0) := HRV.out.cell 0 (by simp)
             have f0 := RowV.frozen HRV.out 0
             have hql := HRV.out.lt
             have hr2 := HRV.out.set 0 (.bool (i0 || ((x : Int) == (A : Int))))
             have c1 : (wr.setCell ⟨q, 0, none⟩ (.bool (i0 || ((x : Int) == (A : Int))))).cell? ⟨q, 1, none⟩ = some (.bool i1) := hr2.cell 1 (by simp)
             have f1 := RowV.frozen hr2 1
             have HR3 : Hid (RowV ((wr.setCell ⟨q, 0, none⟩ (.bool (i0 || ((x : Int) == (A : Int))))).setCell ⟨q, 1, none⟩ (.bool (i1 || ((x : Int) == (B : Int))))) q 44 [.bool (i0 || ((x : Int) == (A : Int))), .bool (i1 || ((x : Int) == (B : Int)))]) := hr2.set 1 (.bool (i1 || ((x : Int) == (B : Int))))
             have HB3x : Hid (Below W7.heap.size W7 ((wr.setCell ⟨q, 0, none⟩ (.bool (i0 || ((x : Int) == (A : Int))))).setCell ⟨q, 1, none⟩ (.bool (i1 || ((x : Int) == (B : Int)))))) := bel_set HQ7.out (bel_set HQ7.out HBX.out)
             clear hx e0 e1 hkL hr2 hrl
             cases i0 <;> cases i1
             all_goals simp only [Bool.true_or, Bool.false_or] at c1 f1 HR3 HB3x HE
             all_goals go_wp2_with (fail)
             all_goals exact ⟨⟨k + 1, _, _, by go_num, by omega, HR3.out, HE.out, HB3x.out⟩, by simp [intOf] <;> omega⟩
            ·obtain rfl : wl = k := by omega
             rw [show BL.take wl = BL by rw [HWL.out, List.take_length]] at HII
             have HBW : Hid (Below W.heap.size W wr) := HB7.out.trans (HBX.out.mono HB7.out.size)
             have c0 : wr.cell? ⟨q, 0, none⟩ = some (.bool i0) := HRV.out.cell 0 (by simp)
             have c1 : wr.cell? ⟨q, 1, none⟩ = some (.bool i1) := HRV.out.cell 1 (by simp)
             have hql := HRV.out.lt
             cases i0 with
             | false =>
              go_wp2_with (fail)
              go_quiet (fail)
              go_wp2_with (fail)
              go_roundw
              case rel => exact ⟨j + 1, by go_num, by omega, HBX.out.trans (bdN _ _ _)⟩
              case measure => simp [intOf] <;> omega
             | true =>
              have hne : (i1 != decide ((2 : Int) ≤ (fab : Int))) = false := by
               obtain ⟨e0, e1⟩ := HII.out
               have h1 := HBLK.out BL hAB HMEM.out (of_decide_eq_true e0.symm)
               rw [e1, bne_eq_false_iff_eq, Bool.eq_iff_iff, decide_eq_true_iff, decide_eq_true_iff, h1]
               omega
              have hne2 : i1 = decide ((2 : Int) ≤ (fab : Int)) := by simpa using hne
              clear hne
              have HC0 : Hid (∀ W', Below wr.heap.size wr W' → W'.cell? ⟨q, 0, none⟩ = some (.bool true)) := fun W' h => (HRV.out.keep h).cell 0 (by simp)
              have HC1 : Hid (∀ W', Below wr.heap.size wr W' → W'.cell? ⟨q, 1, none⟩ = some (.bool i1)) := fun W' h => (HRV.out.keep h).cell 1 (by simp)
              go_wp2_with (fail)
              refine wpIn_wide (n := 5).1 (wpIn_flowM (F0 := Fence.wide) (n0 := 5) (fun _ => trivial) (fun h => by cases h) (by kernel_rfl) (by kernel_rfl) 18 18 (by kernel_rfl) (fun j => ([0, 1, 2, 3, 4, 5, 6, 7, 8, 9, 10, 11, 12, 13, 14, 15, 16, 17] : List Nat).getD j 0) (fun j => ([195, 196, 197, 198, 199, 200, 201, 202, 203, 204, 205, 206, 207, 208, 209, 210, 211, 212] : List Nat).getD j 0) (by kernel_rfl) (by kernel_rfl) (by kernel_rfl) (by kernel_rfl) (by kernel_rfl) (by kernel_rfl) (by kernel_rfl) (fun j zv => ([(fun zv => zv = (.int .i64 (A : Int))), (fun zv => zv = (.int .i64 (B : Int))), (fun zv => zv = (.bool true)), (fun zv => zv = (.bool true)), (fun zv => zv = (.pointer (some ⟨q, 0, none⟩))), (fun zv => zv = (.bool true)), (fun zv => zv = (.bool true)), (fun zv => zv = (.bool true)), (fun zv => zv = (.pointer (some ⟨q, 1, none⟩))), (fun zv => zv = (.bool i1)), (fun zv => zv = (.int .i64 (m : Int))), (fun zv => zv = (.slice al ml ac)), (fun zv => zv = (.int .i64 (A : Int))), (fun zv => zv = (.int .i64 (B : Int))), (fun zv => zv = (.int .i64 (fab : Int))), (fun zv => zv = (.bool (decide ((2 : Int) ≤ (fab : Int))))), (fun zv => zv = (.bool false)), (fun zv => zv = (.bool false))] : List (Value → Prop)).getD j (fun _ => True) zv) (fun _ _ W => Below wr.heap.size wr W) ?h0c ?stepc ?finc)
              case h0c => exact fun _ => bdN _ _ 1
              case stepc =>
               intro i o a W d vs hi ho hdi hJ hf hr hF
               replace hi : i < 18 := hi
               rcases (show i = 0 ∨ i = 1 ∨ i = 2 ∨ i = 3 ∨ i = 4 ∨ i = 5 ∨ i = 6 ∨ i = 7 ∨ i = 8 ∨ i = 9 ∨ i = 10 ∨ i = 11 ∨ i = 12 ∨ i = 13 ∨ i = 14 ∨ i = 15 ∨ i = 16 ∨ i = 17 by omega) with rfl | rfl | rfl | rfl | rfl | rfl | rfl | rfl | rfl | rfl | rfl | rfl | rfl | rfl | rfl | rfl | rfl | rfl
               all_goals
                replace ho := op_at ho (by rfl)
                subst ho
               ·have f2 : a.tmps.getD 2 undef = (.int .i64 (A : Int)) := hf 2 (by kernel_rfl)
                exact .inl ⟨(fun k b h => by cases h), .inl ⟨0, by decide, rfl, (.int .i64 (A : Int)), W, (by simp [go_sem, Act.eval, f2]), rfl, hJ⟩⟩
               ·have f3 : a.tmps.getD 3 undef = (.int .i64 (B : Int)) := hf 3 (by kernel_rfl)
                exact .inl ⟨(fun k b h => by cases h), .inl ⟨1, by decide, rfl, (.int .i64 (B : Int)), W, (by simp [go_sem, Act.eval, f3]), rfl, hJ⟩⟩
               ·have d0 : a.tmps.getD 195 undef = (.int .i64 (A : Int)) := fdn (hF 0 (by decide) (hr 0 (by kernel_rfl)))
                have d1 : a.tmps.getD 196 undef = (.int .i64 (B : Int)) := fdn (hF 1 (by decide) (hr 1 (by kernel_rfl)))
                exact .inl ⟨(fun k b h => by cases h), .inl ⟨2, by decide, rfl, (.bool true), W, (by simp [go_sem, Act.eval, d0, d1, hABb]), rfl, hJ⟩⟩
               ·have d2 : a.tmps.getD 197 undef = (.bool true) := fdn (hF 2 (by decide) (hr 2 (by kernel_rfl)))
                exact .inl ⟨(fun k b h => by cases h), .inl ⟨3, by decide, rfl, (.bool true), W, (by simp [go_sem, Act.eval, d2]), rfl, hJ⟩⟩
               ·have d3 : a.tmps.getD 198 undef = (.bool true) := fdn (hF 3 (by decide) (hr 3 (by kernel_rfl)))
                have f24 : a.tmps.getD 24 undef = (.pointer (some ⟨q, 0, none⟩)) := hf 24 (by kernel_rfl)
                exact .inl ⟨(fun k b h => by cases h; exact ⟨3, by decide, rfl, d3⟩), .inl ⟨4, by decide, rfl, (.pointer (some ⟨q, 0, none⟩)), W, (by simp [go_sem, Act.eval, d3, f24]), rfl, hJ⟩⟩
               ·have d4 : a.tmps.getD 199 undef = (.pointer (some ⟨q, 0, none⟩)) := fdn (hF 4 (by decide) (hr 4 (by kernel_rfl)))
                have d3 : a.tmps.getD 198 undef = (.bool true) := fdn (hF 3 (by decide) (hr 3 (by kernel_rfl)))
                have cx := HC0.out W hJ
                exact .inl ⟨(fun k b h => by cases h; exact ⟨3, by decide, rfl, d3⟩), .inl ⟨5, by decide, rfl, (.bool true), W, (by simp [go_sem, Act.eval, d4, d3, cx]), rfl, hJ⟩⟩
               ·have d3 : a.tmps.getD 198 undef = (.bool true) := fdn (hF 3 (by decide) (hr 3 (by kernel_rfl)))
                have d5 : a.tmps.getD 200 undef = (.bool true) := fdn (hF 5 (by decide) (hr 5 (by kernel_rfl)))
                exact .inl ⟨(fun k b h => by cases h), .inl ⟨6, by decide, rfl, (.bool true), W, (by simp [go_sem, Act.eval, d3, d5]), rfl, hJ⟩⟩
               ·have d6 : a.tmps.getD 201 undef = (.bool true) := fdn (hF 6 (by decide) (hr 6 (by kernel_rfl)))
                exact .inl ⟨(fun k b h => by cases h), .inl ⟨7, by decide, rfl, (.bool true), W, (by simp [go_sem, Act.eval, d6]), rfl, hJ⟩⟩
               ·have d7 : a.tmps.getD 202 undef = (.bool true) := fdn (hF 7 (by decide) (hr 7 (by kernel_rfl)))
                have f24 : a.tmps.getD 24 undef = (.pointer (some ⟨q, 0, none⟩)) := hf 24 (by kernel_rfl)
                exact .inl ⟨(fun k b h => by cases h; exact ⟨7, by decide, rfl, d7⟩), .inl ⟨8, by decide, rfl, (.pointer (some ⟨q, 1, none⟩)), W, (by simp [go_sem, Act.eval, d7, f24]), rfl, hJ⟩⟩
               ·have d8 : a.tmps.getD 203 undef = (.pointer (some ⟨q, 1, none⟩)) := fdn (hF 8 (by decide) (hr 8 (by kernel_rfl)))
                have d7 : a.tmps.getD 202 undef = (.bool true) := fdn (hF 7 (by decide) (hr 7 (by kernel_rfl)))
                have cx := HC1.out W hJ
                exact .inl ⟨(fun k b h => by cases h; exact ⟨7, by decide, rfl, d7⟩), .inl ⟨9, by decide, rfl, (.bool i1), W, (by simp [go_sem, Act.eval, d8, d7, cx]), rfl, hJ⟩⟩
               ·have d7 : a.tmps.getD 202 undef = (.bool true) := fdn (hF 7 (by decide) (hr 7 (by kernel_rfl)))
                have f0 : a.tmps.getD 0 undef = (.int .i64 (m : Int)) := hf 0 (by kernel_rfl)
                exact .inl ⟨(fun k b h => by cases h; exact ⟨7, by decide, rfl, d7⟩), .inl ⟨10, by decide, rfl, (.int .i64 (m : Int)), W, (by simp [go_sem, Act.eval, d7, f0]), rfl, hJ⟩⟩
               ·have d7 : a.tmps.getD 202 undef = (.bool true) := fdn (hF 7 (by decide) (hr 7 (by kernel_rfl)))
                have f1 : a.tmps.getD 1 undef = (.slice al ml ac) := hf 1 (by kernel_rfl)
                exact .inl ⟨(fun k b h => by cases h; exact ⟨7, by decide, rfl, d7⟩), .inl ⟨11, by decide, rfl, (.slice al ml ac), W, (by simp [go_sem, Act.eval, d7, f1]), rfl, hJ⟩⟩
               ·have d7 : a.tmps.getD 202 undef = (.bool true) := fdn (hF 7 (by decide) (hr 7 (by kernel_rfl)))
                have f2 : a.tmps.getD 2 undef = (.int .i64 (A : Int)) := hf 2 (by kernel_rfl)
                exact .inl ⟨(fun k b h => by cases h; exact ⟨7, by decide, rfl, d7⟩), .inl ⟨12, by decide, rfl, (.int .i64 (A : Int)), W, (by simp [go_sem, Act.eval, d7, f2]), rfl, hJ⟩⟩
               ·have d7 : a.tmps.getD 202 undef = (.bool true) := fdn (hF 7 (by decide) (hr 7 (by kernel_rfl)))
                have f3 : a.tmps.getD 3 undef = (.int .i64 (B : Int)) := hf 3 (by kernel_rfl)
                exact .inl ⟨(fun k b h => by cases h; exact ⟨7, by decide, rfl, d7⟩), .inl ⟨13, by decide, rfl, (.int .i64 (B : Int)), W, (by simp [go_sem, Act.eval, d7, f3]), rfl, hJ⟩⟩
               ·have d10 : a.tmps.getD 205 undef = (.int .i64 (m : Int)) := fdn (hF 10 (by decide) (hr 10 (by kernel_rfl)))
                have d11 : a.tmps.getD 206 undef = (.slice al ml ac) := fdn (hF 11 (by decide) (hr 11 (by kernel_rfl)))
                have d12 : a.tmps.getD 207 undef = (.int .i64 (A : Int)) := fdn (hF 12 (by decide) (hr 12 (by kernel_rfl)))
                have d13 : a.tmps.getD 208 undef = (.int .i64 (B : Int)) := fdn (hF 13 (by decide) (hr 13 (by kernel_rfl)))
                have d7 : a.tmps.getD 202 undef = (.bool true) := fdn (hF 7 (by decide) (hr 7 (by kernel_rfl)))
                refine .inl ⟨(fun k b h => by cases h; exact ⟨7, by decide, rfl, d7⟩), .inr (.inr ⟨14, by decide, rfl, 12, #[.int .i64 (m : Int), (.slice al ml ac), (.int .i64 (A : Int)), (.int .i64 (B : Int))], W, (by simp [go_sem, Act.eval, d10, d11, d12, d13, d7]), ?_⟩)⟩
                refine (callsIn_wide.2 (HFab.out W (HBW.out.trans (Below.mono hJ HBW.out.size)))).mono ?_
                rintro e W' ⟨rfl, hBe⟩
                exact ⟨_, rfl, rfl, Below.trans hJ (hBe.mono (Below.size hJ))⟩
               ·have d14 : a.tmps.getD 209 undef = (.int .i64 (fab : Int)) := fdn (hF 14 (by decide) (hr 14 (by kernel_rfl)))
                have d7 : a.tmps.getD 202 undef = (.bool true) := fdn (hF 7 (by decide) (hr 7 (by kernel_rfl)))
                exact .inl ⟨(fun k b h => by cases h; exact ⟨7, by decide, rfl, d7⟩), .inl ⟨15, by decide, rfl, (.bool (decide ((2 : Int) ≤ (fab : Int)))), W, (by simp [go_sem, Act.eval, d14, d7]), rfl, hJ⟩⟩
               ·have d9 : a.tmps.getD 204 undef = (.bool i1) := fdn (hF 9 (by decide) (hr 9 (by kernel_rfl)))
                have d15 : a.tmps.getD 210 undef = (.bool (decide ((2 : Int) ≤ (fab : Int)))) := fdn (hF 15 (by decide) (hr 15 (by kernel_rfl)))
                have d7 : a.tmps.getD 202 undef = (.bool true) := fdn (hF 7 (by decide) (hr 7 (by kernel_rfl)))
                exact .inl ⟨(fun k b h => by cases h; exact ⟨7, by decide, rfl, d7⟩), .inl ⟨16, by decide, rfl, (.bool false), W, (by simp [go_sem, Act.eval, d9, d15, d7, hne2]), rfl, hJ⟩⟩
               ·have d7 : a.tmps.getD 202 undef = (.bool true) := fdn (hF 7 (by decide) (hr 7 (by kernel_rfl)))
                have d16 : a.tmps.getD 211 undef = (.bool false) := fdn (hF 16 (by decide) (hr 16 (by kernel_rfl)))
                exact .inl ⟨(fun k b h => by cases h), .inl ⟨17, by decide, rfl, (.bool false), W, (by simp [go_sem, Act.eval, d7, d16]), rfl, hJ⟩⟩
              case finc =>
               intro d vs Wc hall hJ hF
               have h0 : vs 0 = (.int .i64 (A : Int)) := hF 0 (by decide)
               have h1 : vs 1 = (.int .i64 (B : Int)) := hF 1 (by decide)
               have h2 : vs 2 = (.bool true) := hF 2 (by decide)
               have h3 : vs 3 = (.bool true) := hF 3 (by decide)
               have h4 : vs 4 = (.pointer (some ⟨q, 0, none⟩)) := hF 4 (by decide)
               have h5 : vs 5 = (.bool true) := hF 5 (by decide)
               have h6 : vs 6 = (.bool true) := hF 6 (by decide)
               have h7 : vs 7 = (.bool true) := hF 7 (by decide)
               have h8 : vs 8 = (.pointer (some ⟨q, 1, none⟩)) := hF 8 (by decide)
               have h9 : vs 9 = (.bool i1) := hF 9 (by decide)
               have h10 : vs 10 = (.int .i64 (m : Int)) := hF 10 (by decide)
               have h11 : vs 11 = (.slice al ml ac) := hF 11 (by decide)
               have h12 : vs 12 = (.int .i64 (A : Int)) := hF 12 (by decide)
               have h13 : vs 13 = (.int .i64 (B : Int)) := hF 13 (by decide)
               have h14 : vs 14 = (.int .i64 (fab : Int)) := hF 14 (by decide)
               have h15 : vs 15 = (.bool (decide ((2 : Int) ≤ (fab : Int)))) := hF 15 (by decide)
               have h16 : vs 16 = (.bool false) := hF 16 (by decide)
               have h17 : vs 17 = (.bool false) := hF 17 (by decide)
               clear hF
               have hJc : Below wr.heap.size wr Wc := hJ
               clear hJ hall
               show (_ : Exit → Act → World → Prop) Exit.normal (puts _ vs 18 _) Wc
               simp only [puts, h0, h1, h2, h3, h4, h5, h6, h7, h8, h9, h10, h11, h12, h13, h14, h15, h16, h17, List.getD_cons_zero, List.getD_cons_succ]
               clear h0 h1 h2 h3 h4 h5 h6 h7 h8 h9 h10 h11 h12 h13 h14 h15 h16 h17
               simp only [Act.put, List.setIfInBounds_toArray, List.set_cons_succ, List.set_cons_zero]
               go_wp2_with (fail)
               go_roundw
               case rel => exact ⟨j + 1, by go_num, by omega, HBX.out.trans (hJc.mono HBX.out.size)⟩
               case measure => simp [intOf] <;> omega
          ·obtain rfl : ng = j := by omega
           have HB9 : Hid (Below W.heap.size W wr) := HB7.out.trans (HB.out.mono HB7.out.size)
           go_wp2_with (fail)
           refine (awake_any wr).mono ?_
           rintro e Wz ⟨rfl, hb⟩
           have HBz := Lib.hid (HB9.out.trans (hb.mono HB9.out.size))
           clear hb
           go_wp2_with (fail)
           go_ret
           exact ⟨rfl, HBz.out⟩
        ·have hACb : ((A : Int) != (C : Int)) = true := by rw [bne_iff_ne]; omega
         have hmn := HTHREE.out hAB hBC hAC
         have HTH := Lib.hid hmn
         go_wp2_with (fail)
         refine (HFac.out _ HB6.out).mono ?_
         rintro e Wx ⟨rfl, hb⟩
         have HBx := Lib.hid (HB6.out.trans (hb.mono HB6.out.size))
         clear hb HB6
         go_wp2_with (fail)
         refine (HFab.out _ HBx.out).mono ?_
         rintro e Wy ⟨rfl, hb⟩
         have HBy := Lib.hid (HBx.out.trans (hb.mono HBx.out.size))
         clear hb
         go_wp2_with (fail)
         refine (HFbc.out _ HBy.out).mono ?_
         rintro e W6 ⟨rfl, hb⟩
         have HB6 := Lib.hid (HBy.out.trans (hb.mono HBy.out.size))
         clear hb hmn
         by_cases hlo : fbc < fab
         ·have hls : decide ((fac : Int) < (fbc : Int)) = false := by rw [decide_eq_false_iff_not]; have := HTH.out; omega
          have hlo2 : (fbc : Int) < (fab : Int) := by omega
          have hls3 : ¬ fac < fbc := by have := HTH.out; omega
          go_wp2_with (fail)
          refine (HBKC.out _ HB6.out).mono ?_
          rintro e W7 ⟨⟨kv, rfl, hog⟩, hb⟩
          have HB7 := Lib.hid (HB6.out.trans (hb.mono HB6.out.size))
          have hg7 := hog.gis
          obtain ⟨ag, cg, rfl, hcg, -⟩ := hg7.slice
          rw [List.length_map] at hg7 hcg ⊢
          obtain ⟨ng, hng⟩ : ∃ x, x = BS.length := ⟨_, rfl⟩
          rw [← hng] at hg7 hcg hbks ⊢
          have HNG := Lib.hid hng
          have HG7 := Lib.hid hg7
          clear hb hog hg7 hng
          go_wp2_with (fail)
          go_loopw [167] (fun jv wx => ∃ j : Nat, jv = .int .i64 (j : Int) ∧ j ≤ ng ∧ Hid (Below W7.heap.size W7 wx)) (fun jv _ => ng - (intOf jv).toNat)
          case atStart => exact ⟨0, rfl, Nat.zero_le _, Below.refl _ _⟩
          case round =>
           obtain ⟨j, rfl, hj, HB⟩ := hrel
           by_cases hlt : j < ng
           ·have hjl : j < BS.length := by rw [← HNG.out]; exact hlt
            obtain ⟨gb, go, rv, e1, hgl, cgj, -⟩ := (HG7.out.below HB.out (Nat.le_refl _)).at j (by rw [List.length_map]; exact hjl)
            subst e1
            obtain ⟨gb', go', rv', e1, -, cg', hits⟩ := HG7.out.at j (by rw [List.length_map]; exact hjl)
            cases e1
            have HBE := HB.out
            rw [HBE.cell (p := ⟨gb, go + j, none⟩) hgl, cg'] at cgj
            cases cgj
            rw [nII_get] at hits
            have HMEM : Hid (BS.getD j [] ∈ BS) := by
             have e : BS.getD j [] = BS[j] := by simp [List.getD, hjl]
             show _ ∈ _
             rw [e]; exact List.getElem_mem hjl
            obtain ⟨BL, hBL⟩ : ∃ x, x = BS.getD j [] := ⟨_, rfl⟩
            rw [← hBL] at hits HMEM
            obtain ⟨ar, cr, rfl, hcr, hlr⟩ := hits.slice
            rw [nI_len] at hits hcr hlr cg'
            obtain ⟨wl, hwl⟩ : ∃ x, x = BL.length := ⟨_, rfl⟩
            rw [← hwl] at hits hcr hlr cg'
            have HWL := Lib.hid hwl
            have HIT := Lib.hid hits
            have hgw : gb < wr.heap.size := by have := HBE.size; omega
            have cgj : wr.cell? ⟨gb, go + j, none⟩ = some (.slice ar wl cr) := by rw [HBE.cell (p := ⟨gb, go + j, none⟩) hgl]; exact cg'
            have m1 := new_block wr (.cells #[.bool false, .bool false] 44)
            have HRV : Hid (RowV (wr.alloc (.cells #[.bool false, .bool false] 44)) wr.heap.size 44 [.bool false, .bool false]) := m1.2
            have HBA : Hid (Below W7.heap.size W7 (wr.alloc (.cells #[.bool false, .bool false] 44))) := HBE.trans (m1.1.mono HBE.size)
            obtain ⟨q, hq⟩ : ∃ q, q = wr.heap.size := ⟨_, rfl⟩
            have HQ := Lib.hid hq
            have HQ7 : Hid (W7.heap.size ≤ q) := by show _ ≤ _; rw [hq]; exact HBE.size
            rw [← hq] at HRV
            clear hjl hBL hits hwl HBE m1 hq cg' HB
            go_wp2_with (fail)
            rw [← HQ.out]
            go_loopw [174] (fun kv wx => ∃ (k : Nat) (i0 i1 : Bool), kv = .int .i64 (k : Int) ∧ k ≤ wl ∧ Hid (RowV wx q 44 [.bool i0, .bool i1]) ∧ Hid (i0 = decide (A ∈ BL.take k) ∧ i1 = decide (B ∈ BL.take k)) ∧ Hid (Below W7.heap.size W7 wx)) (fun kv _ => wl - (intOf kv).toNat)
            case atStart => exact ⟨0, false, false, rfl, Nat.zero_le _, HRV.out, (by show _ ∧ _; simp), HBA.out⟩
            case round =>
             clear HRV HBA cgj hgw HQ
             obtain ⟨k, i0, i1, rfl, hk, HRV, HII, HBX⟩ := hrel
             by_cases hkl : k < wl
             ·have hkL : k < BL.length := by rw [← HWL.out]; exact hkl
              obtain ⟨rb, ro, e1, hrl, cx⟩ := Its.at (HIT.out.below HBX.out (Nat.le_refl _)) k (by rw [nI_len]; exact hkL)
              subst e1
              rw [nI_get] at cx
              have hrw : rb < wr.heap.size := by have := HBX.out.size; omega
              have e0 := mem_take_next hkL A
              have e1 := mem_take_next hkL B
              rw [← HII.out.1] at e0
              rw [← HII.out.2] at e1
              obtain ⟨x, hx⟩ : ∃ x, x = BL.getD k 0 := ⟨_, rfl⟩
              rw [← hx] at cx e0 e1
              have HE : Hid ((i0 || ((x : Int) == (A : Int))) = decide (A ∈ BL.take (k + 1)) ∧ (i1 || ((x : Int) == (B : Int))) = decide (B ∈ BL.take (k + 1))) := ⟨e0.symm, e1.symm⟩
              have c0 : wr.cell? ⟨q, 0, none⟩ = some (.bool i0) := HRV.out.cell 0 (by simp)
              have f0 := RowV.frozen HRV.out 0
              have hql := HRV.out.lt
              have hr2 := HRV.out.set 0 (.bool (i0 || ((x : Int) == (A : Int))))
              have c1 : (wr.setCell ⟨q, 0, none⟩ (.bool (i0 || ((x : Int) == (A : Int))))).cell? ⟨q, 1, none⟩ = some (.bool i1) := hr2.cell 1 (by simp)
              have f1 := RowV.frozen hr2 1
              have HR3 : Hid (RowV ((wr.setCell ⟨q, 0, none⟩ (.bool (i0 || ((x : Int) == (A : Int))))).setCell ⟨q, 1, none⟩ (.bool (i1 || ((x : Int) == (B : Int))))) q 44 [.bool (i0 || ((x : Int) == (A : Int))), .bool (i1 || ((x : Int) == (B : Int)))]) := hr2.set 1 (.bool (i1 || ((x : Int) == (B : Int))))
              have HB3x : Hid (Below W7.heap.size W7 ((wr.setCell ⟨q, 0, none⟩ (.bool (i0 || ((x : Int) == (A : Int))))).setCell ⟨q, 1, none⟩ (.bool (i1 || ((x : Int) == (B : Int)))))) := bel_set HQ7.out (bel_set HQ7.out HBX.out)
              clear hx e0 e1 hkL hr2 hrl
              cases i0 <;> cases i1
              all_goals simp only [Bool.true_or, Bool.false_or] at c1 f1 HR3 HB3x HE
              all_goals go_wp2_with (fail)
              all_goals exact ⟨⟨k + 1, _, _, by go_num, by omega, HR3.out, HE.out, HB3x.out⟩, by simp [intOf] <;> omega⟩
             ·obtain rfl : wl = k := by omega
              rw [show BL.take wl = BL by rw [HWL.out, List.take_length]] at HII
              have HBW : Hid (Below W.heap.size W wr) := HB7.out.trans (HBX.out.mono HB7.out.size)
              have c0 : wr.cell? ⟨q, 0, none⟩ = some (.bool i0) := HRV.out.cell 0 (by simp)
              have c1 : wr.cell? ⟨q, 1, none⟩ = some (.bool i1) := HRV.out.cell 1 (by simp)
              have hql := HRV.out.lt
              cases i0 with
              | false =>
               go_wp2_with (fail)
               go_quiet (fail)
               go_wp2_with (fail)
               go_roundw
               case rel => exact ⟨j + 1, by go_num, by omega, HBX.out.trans (bdN _ _ _)⟩
               case measure => simp [intOf] <;> omega
              | true =>
               have hne : (i1 != decide ((2 : Int) ≤ (fab : Int))) = false := by
                obtain ⟨e0, e1⟩ := HII.out
                have h1 := HBLK.out BL hAB HMEM.out (of_decide_eq_true e0.symm)
                rw [e1, bne_eq_false_iff_eq, Bool.eq_iff_iff, decide_eq_true_iff, decide_eq_true_iff, h1]
                omega
               have hne2 : i1 = decide ((2 : Int) ≤ (fab : Int)) := by simpa using hne
               clear hne
               have HC0 : Hid (∀ W', Below wr.heap.size wr W' → W'.cell? ⟨q, 0, none⟩ = some (.bool true)) := fun W' h => (HRV.out.keep h).cell 0 (by simp)
               have HC1 : Hid (∀ W', Below wr.heap.size wr W' → W'.cell? ⟨q, 1, none⟩ = some (.bool i1)) := fun W' h => (HRV.out.keep h).cell 1 (by simp)
               go_wp2_with (fail)
               refine wpIn_wide (n := 5).1 (wpIn_flowM (F0 := Fence.wide) (n0 := 5) (fun _ => trivial) (fun h => by cases h) (by kernel_rfl) (by kernel_rfl) 18 18 (by kernel_rfl) (fun j => ([0, 1, 2, 3, 4, 5, 6, 7, 8, 9, 10, 11, 12, 13, 14, 15, 16, 17] : List Nat).getD j 0) (fun j => ([195, 196, 197, 198, 199, 200, 201, 202, 203, 204, 205, 206, 207, 208, 209, 210, 211, 212] : List Nat).getD j 0) (by kernel_rfl) (by kernel_rfl) (by kernel_rfl) (by kernel_rfl) (by kernel_rfl) (by kernel_rfl) (by kernel_rfl) (fun j zv => ([(fun zv => zv = (.int .i64 (A : Int))), (fun zv => zv = (.int .i64 (B : Int))), (fun zv => zv = (.bool true)), (fun zv => zv = (.bool true)), (fun zv => zv = (.pointer (some ⟨q, 0, none⟩))), (fun zv => zv = (.bool true)), (fun zv => zv = (.bool true)), (fun zv => zv = (.bool true)), (fun zv => zv = (.pointer (some ⟨q, 1, none⟩))), (fun zv => zv = (.bool i1)), (fun zv => zv = (.int .i64 (m : Int))), (fun zv => zv = (.slice al ml ac)), (fun zv => zv = (.int .i64 (A : Int))), (fun zv => zv = (.int .i64 (B : Int))), (fun zv => zv = (.int .i64 (fab : Int))), (fun zv => zv = (.bool (decide ((2 : Int) ≤ (fab : Int))))), (fun zv => zv = (.bool false)), (fun zv => zv = (.bool false))] : List (Value → Prop)).getD j (fun _ => True) zv) (fun _ _ W => Below wr.heap.size wr W) ?h0c ?stepc ?finc)
               case h0c => exact fun _ => bdN _ _ 1
               case stepc =>
                intro i o a W d vs hi ho hdi hJ hf hr hF
                replace hi : i < 18 := hi
                rcases (show i = 0 ∨ i = 1 ∨ i = 2 ∨ i = 3 ∨ i = 4 ∨ i = 5 ∨ i = 6 ∨ i = 7 ∨ i = 8 ∨ i = 9 ∨ i = 10 ∨ i = 11 ∨ i = 12 ∨ i = 13 ∨ i = 14 ∨ i = 15 ∨ i = 16 ∨ i = 17 by omega) with rfl | rfl | rfl | rfl | rfl | rfl | rfl | rfl | rfl | rfl | rfl | rfl | rfl | rfl | rfl | rfl | rfl | rfl
                all_goals
                 replace ho := op_at ho (by rfl)
                 subst ho
                ·have f2 : a.tmps.getD 2 undef = (.int .i64 (A : Int)) := hf 2 (by kernel_rfl)
                 exact .inl ⟨(fun k b h => by cases h), .inl ⟨0, by decide, rfl, (.int .i64 (A : Int)), W, (by simp [go_sem, Act.eval, f2]), rfl, hJ⟩⟩
                ·have f3 : a.tmps.getD 3 undef = (.int .i64 (B : Int)) := hf 3 (by kernel_rfl)
                 exact .inl ⟨(fun k b h => by cases h), .inl ⟨1, by decide, rfl, (.int .i64 (B : Int)), W, (by simp [go_sem, Act.eval, f3]), rfl, hJ⟩⟩
                ·have d0 : a.tmps.getD 195 undef = (.int .i64 (A : Int)) := fdn (hF 0 (by decide) (hr 0 (by kernel_rfl)))
                 have d1 : a.tmps.getD 196 undef = (.int .i64 (B : Int)) := fdn (hF 1 (by decide) (hr 1 (by kernel_rfl)))
                 exact .inl ⟨(fun k b h => by cases h), .inl ⟨2, by decide, rfl, (.bool true), W, (by simp [go_sem, Act.eval, d0, d1, hABb]), rfl, hJ⟩⟩
                ·have d2 : a.tmps.getD 197 undef = (.bool true) := fdn (hF 2 (by decide) (hr 2 (by kernel_rfl)))
                 exact .inl ⟨(fun k b h => by cases h), .inl ⟨3, by decide, rfl, (.bool true), W, (by simp [go_sem, Act.eval, d2]), rfl, hJ⟩⟩
                ·have d3 : a.tmps.getD 198 undef = (.bool true) := fdn (hF 3 (by decide) (hr 3 (by kernel_rfl)))
                 have f24 : a.tmps.getD 24 undef = (.pointer (some ⟨q, 0, none⟩)) := hf 24 (by kernel_rfl)
                 exact .inl ⟨(fun k b h => by cases h; exact ⟨3, by decide, rfl, d3⟩), .inl ⟨4, by decide, rfl, (.pointer (some ⟨q, 0, none⟩)), W, (by simp [go_sem, Act.eval, d3, f24]), rfl, hJ⟩⟩
                ·have d4 : a.tmps.getD 199 undef = (.pointer (some ⟨q, 0, none⟩)) := fdn (hF 4 (by decide) (hr 4 (by kernel_rfl)))
                 have d3 : a.tmps.getD 198 undef = (.bool true) := fdn (hF 3 (by decide) (hr 3 (by kernel_rfl)))
                 have cx := HC0.out W hJ
                 exact .inl ⟨(fun k b h => by cases h; exact ⟨3, by decide, rfl, d3⟩), .inl ⟨5, by decide, rfl, (.bool true), W, (by simp [go_sem, Act.eval, d4, d3, cx]), rfl, hJ⟩⟩
                ·have d3 : a.tmps.getD 198 undef = (.bool true) := fdn (hF 3 (by decide) (hr 3 (by kernel_rfl)))
                 have d5 : a.tmps.getD 200 undef = (.bool true) := fdn (hF 5 (by decide) (hr 5 (by kernel_rfl)))
                 exact .inl ⟨(fun k b h => by cases h), .inl ⟨6, by decide, rfl, (.bool true), W, (by simp [go_sem, Act.eval, d3, d5]), rfl, hJ⟩⟩
                ·have d6 : a.tmps.getD 201 undef = (.bool true) := fdn (hF 6 (by decide) (hr 6 (by kernel_rfl)))
                 exact .inl ⟨(fun k b h => by cases h), .inl ⟨7, by decide, rfl, (.bool true), W, (by simp [go_sem, Act.eval, d6]), rfl, hJ⟩⟩
                ·have d7 : a.tmps.getD 202 undef = (.bool true) := fdn (hF 7 (by decide) (hr 7 (by kernel_rfl)))
                 have f24 : a.tmps.getD 24 undef = (.pointer (some ⟨q, 0, none⟩)) := hf 24 (by kernel_rfl)
                 exact .inl ⟨(fun k b h => by cases h; exact ⟨7, by decide, rfl, d7⟩), .inl ⟨8, by decide, rfl, (.pointer (some ⟨q, 1, none⟩)), W, (by simp [go_sem, Act.eval, d7, f24]), rfl, hJ⟩⟩
                ·have d8 : a.tmps.getD 203 undef = (.pointer (some ⟨q, 1, none⟩)) := fdn (hF 8 (by decide) (hr 8 (by kernel_rfl)))
                 have d7 : a.tmps.getD 202 undef = (.bool true) := fdn (hF 7 (by decide) (hr 7 (by kernel_rfl)))
                 have cx := HC1.out W hJ
                 exact .inl ⟨(fun k b h => by cases h; exact ⟨7, by decide, rfl, d7⟩), .inl ⟨9, by decide, rfl, (.bool i1), W, (by simp [go_sem, Act.eval, d8, d7, cx]), rfl, hJ⟩⟩
                ·have d7 : a.tmps.getD 202 undef = (.bool true) := fdn (hF 7 (by decide) (hr 7 (by kernel_rfl)))
                 have f0 : a.tmps.getD 0 undef = (.int .i64 (m : Int)) := hf 0 (by kernel_rfl)
                 exact .inl ⟨(fun k b h => by cases h; exact ⟨7, by decide, rfl, d7⟩), .inl ⟨10, by decide, rfl, (.int .i64 (m : Int)), W, (by simp [go_sem, Act.eval, d7, f0]), rfl, hJ⟩⟩
                ·have d7 : a.tmps.getD 202 undef = (.bool true) := fdn (hF 7 (by decide) (hr 7 (by kernel_rfl)))
                 have f1 : a.tmps.getD 1 undef = (.slice al ml ac) := hf 1 (by kernel_rfl)
                 exact .inl ⟨(fun k b h => by cases h; exact ⟨7, by decide, rfl, d7⟩), .inl ⟨11, by decide, rfl, (.slice al ml ac), W, (by simp [go_sem, Act.eval, d7, f1]), rfl, hJ⟩⟩
                ·have d7 : a.tmps.getD 202 undef = (.bool true) := fdn (hF 7 (by decide) (hr 7 (by kernel_rfl)))
                 have f2 : a.tmps.getD 2 undef = (.int .i64 (A : Int)) := hf 2 (by kernel_rfl)
                 exact .inl ⟨(fun k b h => by cases h; exact ⟨7, by decide, rfl, d7⟩), .inl ⟨12, by decide, rfl, (.int .i64 (A : Int)), W, (by simp [go_sem, Act.eval, d7, f2]), rfl, hJ⟩⟩
                ·have d7 : a.tmps.getD 202 undef = (.bool true) := fdn (hF 7 (by decide) (hr 7 (by kernel_rfl)))
                 have f3 : a.tmps.getD 3 undef = (.int .i64 (B : Int)) := hf 3 (by kernel_rfl)
                 exact .inl ⟨(fun k b h => by cases h; exact ⟨7, by decide, rfl, d7⟩), .inl ⟨13, by decide, rfl, (.int .i64 (B : Int)), W, (by simp [go_sem, Act.eval, d7, f3]), rfl, hJ⟩⟩
                ·have d10 : a.tmps.getD 205 undef = (.int .i64 (m : Int)) := fdn (hF 10 (by decide) (hr 10 (by kernel_rfl)))
                 have d11 : a.tmps.getD 206 undef = (.slice al ml ac) := fdn (hF 11 (by decide) (hr 11 (by kernel_rfl)))
                 have d12 : a.tmps.getD 207 undef = (.int .i64 (A : Int)) := fdn (hF 12 (by decide) (hr 12 (by kernel_rfl)))
                 have d13 : a.tmps.getD 208 undef = (.int .i64 (B : Int)) := fdn (hF 13 (by decide) (hr 13 (by kernel_rfl)))
                 have d7 : a.tmps.getD 202 undef = (.bool true) := fdn (hF 7 (by decide) (hr 7 (by kernel_rfl)))
                 refine .inl ⟨(fun k b h => by cases h; exact ⟨7, by decide, rfl, d7⟩), .inr (.inr ⟨14, by decide, rfl, 12, #[.int .i64 (m : Int), (.slice al ml ac), (.int .i64 (A : Int)), (.int .i64 (B : Int))], W, (by simp [go_sem, Act.eval, d10, d11, d12, d13, d7]), ?_⟩)⟩
                 refine (callsIn_wide.2 (HFab.out W (HBW.out.trans (Below.mono hJ HBW.out.size)))).mono ?_
                 rintro e W' ⟨rfl, hBe⟩
                 exact ⟨_, rfl, rfl, Below.trans hJ (hBe.mono (Below.size hJ))⟩
                ·have d14 : a.tmps.getD 209 undef = (.int .i64 (fab : Int)) := fdn (hF 14 (by decide) (hr 14 (by kernel_rfl)))
                 have d7 : a.tmps.getD 202 undef = (.bool true) := fdn (hF 7 (by decide) (hr 7 (by kernel_rfl)))
                 exact .inl ⟨(fun k b h => by cases h; exact ⟨7, by decide, rfl, d7⟩), .inl ⟨15, by decide, rfl, (.bool (decide ((2 : Int) ≤ (fab : Int)))), W, (by simp [go_sem, Act.eval, d14, d7]), rfl, hJ⟩⟩
                ·have d9 : a.tmps.getD 204 undef = (.bool i1) := fdn (hF 9 (by decide) (hr 9 (by kernel_rfl)))
                 have d15 : a.tmps.getD 210 undef = (.bool (decide ((2 : Int) ≤ (fab : Int)))) := fdn (hF 15 (by decide) (hr 15 (by kernel_rfl)))
                 have d7 : a.tmps.getD 202 undef = (.bool true) := fdn (hF 7 (by decide) (hr 7 (by kernel_rfl)))
                 exact .inl ⟨(fun k b h => by cases h; exact ⟨7, by decide, rfl, d7⟩), .inl ⟨16, by decide, rfl, (.bool false), W, (by simp [go_sem, Act.eval, d9, d15, d7, hne2]), rfl, hJ⟩⟩
                ·have d7 : a.tmps.getD 202 undef = (.bool true) := fdn (hF 7 (by decide) (hr 7 (by kernel_rfl)))
                 have d16 : a.tmps.getD 211 undef = (.bool false) := fdn (hF 16 (by decide) (hr 16 (by kernel_rfl)))
                 exact .inl ⟨(fun k b h => by cases h), .inl ⟨17, by decide, rfl, (.bool false), W, (by simp [go_sem, Act.eval, d7, d16]), rfl, hJ⟩⟩
               case finc =>
                intro d vs Wc hall hJ hF
                have h0 : vs 0 = (.int .i64 (A : Int)) := hF 0 (by decide)
                have h1 : vs 1 = (.int .i64 (B : Int)) := hF 1 (by decide)
                have h2 : vs 2 = (.bool true) := hF 2 (by decide)
                have h3 : vs 3 = (.bool true) := hF 3 (by decide)
                have h4 : vs 4 = (.pointer (some ⟨q, 0, none⟩)) := hF 4 (by decide)
                have h5 : vs 5 = (.bool true) := hF 5 (by decide)
                have h6 : vs 6 = (.bool true) := hF 6 (by decide)
                have h7 : vs 7 = (.bool true) := hF 7 (by decide)
                have h8 : vs 8 = (.pointer (some ⟨q, 1, none⟩)) := hF 8 (by decide)
                have h9 : vs 9 = (.bool i1) := hF 9 (by decide)
                have h10 : vs 10 = (.int .i64 (m : Int)) := hF 10 (by decide)
                have h11 : vs 11 = (.slice al ml ac) := hF 11 (by decide)
                have h12 : vs 12 = (.int .i64 (A : Int)) := hF 12 (by decide)
                have h13 : vs 13 = (.int .i64 (B : Int)) := hF 13 (by decide)
                have h14 : vs 14 = (.int .i64 (fab : Int)) := hF 14 (by decide)
                have h15 : vs 15 = (.bool (decide ((2 : Int) ≤ (fab : Int)))) := hF 15 (by decide)
                have h16 : vs 16 = (.bool false) := hF 16 (by decide)
                have h17 : vs 17 = (.bool false) := hF 17 (by decide)
                clear hF
                have hJc : Below wr.heap.size wr Wc := hJ
                clear hJ hall
                show (_ : Exit → Act → World → Prop) Exit.normal (puts _ vs 18 _) Wc
                simp only [puts, h0, h1, h2, h3, h4, h5, h6, h7, h8, h9, h10, h11, h12, h13, h14, h15, h16, h17, List.getD_cons_zero, List.getD_cons_succ]
                clear h0 h1 h2 h3 h4 h5 h6 h7 h8 h9 h10 h11 h12 h13 h14 h15 h16 h17
                simp only [Act.put, List.setIfInBounds_toArray, List.set_cons_succ, List.set_cons_zero]
                go_wp2_with (fail)
                go_roundw
                case rel => exact ⟨j + 1, by go_num, by omega, HBX.out.trans (hJc.mono HBX.out.size)⟩
                case measure => simp [intOf] <;> omega
           ·obtain rfl : ng = j := by omega
            have HB9 : Hid (Below W.heap.size W wr) := HB7.out.trans (HB.out.mono HB7.out.size)
            go_wp2_with (fail)
            refine (awake_any wr).mono ?_
            rintro e Wz ⟨rfl, hb⟩
            have HBz := Lib.hid (HB9.out.trans (hb.mono HB9.out.size))
            clear hb
            go_wp2_with (fail)
            go_ret
            exact ⟨rfl, HBz.out⟩
         ·have hls : decide ((fac : Int) < (fab : Int)) = false := by rw [decide_eq_false_iff_not]; have := HTH.out; omega
          have hlo2 : ¬ (fbc : Int) < (fab : Int) := by omega
          have hls3 : ¬ fac < fab := by have := HTH.out; omega
          go_wp2_with (fail)
          refine (HBKC.out _ HB6.out).mono ?_
          rintro e W7 ⟨⟨kv, rfl, hog⟩, hb⟩
          have HB7 := Lib.hid (HB6.out.trans (hb.mono HB6.out.size))
          have hg7 := hog.gis
          obtain ⟨ag, cg, rfl, hcg, -⟩ := hg7.slice
          rw [List.length_map] at hg7 hcg ⊢
          obtain ⟨ng, hng⟩ : ∃ x, x = BS.length := ⟨_, rfl⟩
          rw [← hng] at hg7 hcg hbks ⊢
          have HNG := Lib.hid hng
          have HG7 := Lib.hid hg7
          clear hb hog hg7 hng
          go_wp2_with (fail)
          go_loopw [167] (fun jv wx => ∃ j : Nat, jv = .int .i64 (j : Int) ∧ j ≤ ng ∧ Hid (Below W7.heap.size W7 wx)) (fun jv _ => ng - (intOf jv).toNat)
          case atStart => exact ⟨0, rfl, Nat.zero_le _, Below.refl _ _⟩
          case round =>
           obtain ⟨j, rfl, hj, HB⟩ := hrel
           by_cases hlt : j < ng
           ·have hjl : j < BS.length := by rw [← HNG.out]; exact hlt
            obtain ⟨gb, go, rv, e1, hgl, cgj, -⟩ := (HG7.out.below HB.out (Nat.le_refl _)).at j (by rw [List.length_map]; exact hjl)
            subst e1
            obtain ⟨gb', go', rv', e1, -, cg', hits⟩ := HG7.out.at j (by rw [List.length_map]; exact hjl)
            cases e1
            have HBE := HB.out
            rw [HBE.cell (p := ⟨gb, go + j, none⟩) hgl, cg'] at cgj
            cases cgj
            rw [nII_get] at hits
            have HMEM : Hid (BS.getD j [] ∈ BS) := by
             have e : BS.getD j [] = BS[j] := by simp [List.getD, hjl]
             show _ ∈ _
             rw [e]; exact List.getElem_mem hjl
            obtain ⟨BL, hBL⟩ : ∃ x, x = BS.getD j [] := ⟨_, rfl⟩
            rw [← hBL] at hits HMEM
            obtain ⟨ar, cr, rfl, hcr, hlr⟩ := hits.slice
            rw [nI_len] at hits hcr hlr cg'
            obtain ⟨wl, hwl⟩ : ∃ x, x = BL.length := ⟨_, rfl⟩
            rw [← hwl] at hits hcr hlr cg'
            have HWL := Lib.hid hwl
            have HIT := Lib.hid hits
            have hgw : gb < wr.heap.size := by have := HBE.size; omega
            have cgj : wr.cell? ⟨gb, go + j, none⟩ = some (.slice ar wl cr) := by rw [HBE.cell (p := ⟨gb, go + j, none⟩) hgl]; exact cg'
            have m1 := new_block wr (.cells #[.bool false, .bool false] 44)
            have HRV : Hid (RowV (wr.alloc (.cells #[.bool false, .bool false] 44)) wr.heap.size 44 [.bool false, .bool false]) := m1.2
            have HBA : Hid (Below W7.heap.size W7 (wr.alloc (.cells #[.bool false, .bool false] 44))) := HBE.trans (m1.1.mono HBE.size)
            obtain ⟨q, hq⟩ : ∃ q, q = wr.heap.size := ⟨_, rfl⟩
            have HQ := Lib.hid hq
            have HQ7 : Hid (W7.heap.size ≤ q) := by show _ ≤ _; rw [hq]; exact HBE.size
            rw [← hq] at HRV
            clear hjl hBL hits hwl HBE m1 hq cg' HB
            go_wp2_with (fail)
            rw [← HQ.out]
            go_loopw [174] (fun kv wx => ∃ (k : Nat) (i0 i1 : Bool), kv = .int .i64 (k : Int) ∧ k ≤ wl ∧ Hid (RowV wx q 44 [.bool i0, .bool i1]) ∧ Hid (i0 = decide (A ∈ BL.take k) ∧ i1 = decide (B ∈ BL.take k)) ∧ Hid (Below W7.heap.size W7 wx)) (fun kv _ => wl - (intOf kv).toNat)
            case atStart => exact ⟨0, false, false, rfl, Nat.zero_le _, HRV.out, (by show _ ∧ _; simp), HBA.out⟩
            case round =>
             clear HRV HBA cgj hgw HQ
             obtain ⟨k, i0, i1, rfl, hk, HRV, HII, HBX⟩ := hrel
             by_cases hkl : k < wl
             ·have hkL : k < BL.length := by rw [← HWL.out]; exact hkl
              obtain ⟨rb, ro, e1, hrl, cx⟩ := Its.at (HIT.out.below HBX.out (Nat.le_refl _)) k (by rw [nI_len]; exact hkL)
              subst e1
              rw [nI_get] at cx
              have hrw : rb < wr.heap.size := by have := HBX.out.size; omega
              have e0 := mem_take_next hkL A
              have e1 := mem_take_next hkL B
              rw [← HII.out.1] at e0
              rw [← HII.out.2] at e1
              obtain ⟨x, hx⟩ : ∃ x, x = BL.getD k 0 := ⟨_, rfl⟩
              rw [← hx] at cx e0 e1
              have HE : Hid ((i0 || ((x : Int) == (A : Int))) = decide (A ∈ BL.take (k + 1)) ∧ (i1 || ((x : Int) == (B : Int))) = decide (B ∈ BL.take (k + 1))) := ⟨e0.symm, e1.symm⟩
              have c0 : wr.cell? ⟨q, 0, none⟩ = some (.bool i0) := HRV.out.cell 0 (by simp)
              have f0 := RowV.frozen HRV.out 0
              have hql := HRV.out.lt
              have hr2 := HRV.out.set 0 (.bool (i0 || ((x : Int) == (A : Int))))
              have c1 : (wr.setCell ⟨q, 0, none⟩ (.bool (i0 || ((x : Int) == (A : Int))))).cell? ⟨q, 1, none⟩ = some (.bool i1) := hr2.cell 1 (by simp)
              have f1 := RowV.frozen hr2 1
              have HR3 : Hid (RowV ((wr.setCell ⟨q, 0, none⟩ (.bool (i0 || ((x : Int) == (A : Int))))).setCell ⟨q, 1, none⟩ (.bool (i1 || ((x : Int) == (B : Int))))) q 44 [.bool (i0 || ((x : Int) == (A : Int))), .bool (i1 || ((x : Int) == (B : Int)))]) := hr2.set 1 (.bool (i1 || ((x : Int) == (B : Int))))
              have HB3x : Hid (Below W7.heap.size W7 ((wr.setCell ⟨q, 0, none⟩ (.bool (i0 || ((x : Int) == (A : Int))))).setCell ⟨q, 1, none⟩ (.bool (i1 || ((x : Int) == (B : Int)))))) := bel_set HQ7.out (bel_set HQ7.out HBX.out)
              clear hx e0 e1 hkL hr2 hrl
              cases i0 <;> cases i1
              all_goals simp only [Bool.true_or, Bool.false_or] at c1 f1 HR3 HB3x HE
              all_goals go_wp2_with (fail)
              all_goals exact ⟨⟨k + 1, _, _, by go_num, by omega, HR3.out, HE.out, HB3x.out⟩, by simp [intOf] <;> omega⟩
             ·obtain rfl : wl = k := by omega
              rw [show BL.take wl = BL by rw [HWL.out, List.take_length]] at HII
              have HBW : Hid (Below W.heap.size W wr) := HB7.out.trans (HBX.out.mono HB7.out.size)
              have c0 : wr.cell? ⟨q, 0, none⟩ = some (.bool i0) := HRV.out.cell 0 (by simp)
              have c1 : wr.cell? ⟨q, 1, none⟩ = some (.bool i1) := HRV.out.cell 1 (by simp)
              have hql := HRV.out.lt
              cases i0 with
              | false =>
               go_wp2_with (fail)
               go_quiet (fail)
               go_wp2_with (fail)
               go_roundw
               case rel => exact ⟨j + 1, by go_num, by omega, HBX.out.trans (bdN _ _ _)⟩
               case measure => simp [intOf] <;> omega
              | true =>
               have hne : (i1 != decide ((2 : Int) ≤ (fab : Int))) = false := by
                obtain ⟨e0, e1⟩ := HII.out
                have h1 := HBLK.out BL hAB HMEM.out (of_decide_eq_true e0.symm)
                rw [e1, bne_eq_false_iff_eq, Bool.eq_iff_iff, decide_eq_true_iff, decide_eq_true_iff, h1]
                omega
               have hne2 : i1 = decide ((2 : Int) ≤ (fab : Int)) := by simpa using hne
               clear hne
               have HC0 : Hid (∀ W', Below wr.heap.size wr W' → W'.cell? ⟨q, 0, none⟩ = some (.bool true)) := fun W' h => (HRV.out.keep h).cell 0 (by simp)
               have HC1 : Hid (∀ W', Below wr.heap.size wr W' → W'.cell? ⟨q, 1, none⟩ = some (.bool i1)) := fun W' h => (HRV.out.keep h).cell 1 (by simp)
               go_wp2_with (fail)
               refine wpIn_wide (n := 5).1 (wpIn_flowM (F0 := Fence.wide) (n0 := 5) (fun _ => trivial) (fun h => by cases h) (by kernel_rfl) (by kernel_rfl) 18 18 (by kernel_rfl) (fun j => ([0, 1, 2, 3, 4, 5, 6, 7, 8, 9, 10, 11, 12, 13, 14, 15, 16, 17] : List Nat).getD j 0) (fun j => ([195, 196, 197, 198, 199, 200, 201, 202, 203, 204, 205, 206, 207, 208, 209, 210, 211, 212] : List Nat).getD j 0) (by kernel_rfl) (by kernel_rfl) (by kernel_rfl) (by kernel_rfl) (by kernel_rfl) (by kernel_rfl) (by kernel_rfl) (fun j zv => ([(fun zv => zv = (.int .i64 (A : Int))), (fun zv => zv = (.int .i64 (B : Int))), (fun zv => zv = (.bool true)), (fun zv => zv = (.bool true)), (fun zv => zv = (.pointer (some ⟨q, 0, none⟩))), (fun zv => zv = (.bool true)), (fun zv => zv = (.bool true)), (fun zv => zv = (.bool true)), (fun zv => zv = (.pointer (some ⟨q, 1, none⟩))), (fun zv => zv = (.bool i1)), (fun zv => zv = (.int .i64 (m : Int))), (fun zv => zv = (.slice al ml ac)), (fun zv => zv = (.int .i64 (A : Int))), (fun zv => zv = (.int .i64 (B : Int))), (fun zv => zv = (.int .i64 (fab : Int))), (fun zv => zv = (.bool (decide ((2 : Int) ≤ (fab : Int))))), (fun zv => zv = (.bool false)), (fun zv => zv = (.bool false))] : List (Value → Prop)).getD j (fun _ => True) zv) (fun _ _ W => Below wr.heap.size wr W) ?h0c ?stepc ?finc)
               case h0c => exact fun _ => bdN _ _ 1
               case stepc =>
                intro i o a W d vs hi ho hdi hJ hf hr hF
                replace hi : i < 18 := hi
                rcases (show i = 0 ∨ i = 1 ∨ i = 2 ∨ i = 3 ∨ i = 4 ∨ i = 5 ∨ i = 6 ∨ i = 7 ∨ i = 8 ∨ i = 9 ∨ i = 10 ∨ i = 11 ∨ i = 12 ∨ i = 13 ∨ i = 14 ∨ i = 15 ∨ i = 16 ∨ i = 17 by omega) with rfl | rfl | rfl | rfl | rfl | rfl | rfl | rfl | rfl | rfl | rfl | rfl | rfl | rfl | rfl | rfl | rfl | rfl
                all_goals
                 replace ho := op_at ho (by rfl)
                 subst ho
                ·have f2 : a.tmps.getD 2 undef = (.int .i64 (A : Int)) := hf 2 (by kernel_rfl)
                 exact .inl ⟨(fun k b h => by cases h), .inl ⟨0, by decide, rfl, (.int .i64 (A : Int)), W, (by simp [go_sem, Act.eval, f2]), rfl, hJ⟩⟩
                ·have f3 : a.tmps.getD 3 undef = (.int .i64 (B : Int)) := hf 3 (by kernel_rfl)
                 exact .inl ⟨(fun k b h => by cases h), .inl ⟨1, by decide, rfl, (.int .i64 (B : Int)), W, (by simp [go_sem, Act.eval, f3]), rfl, hJ⟩⟩
                ·have d0 : a.tmps.getD 195 undef = (.int .i64 (A : Int)) := fdn (hF 0 (by decide) (hr 0 (by kernel_rfl)))
                 have d1 : a.tmps.getD 196 undef = (.int .i64 (B : Int)) := fdn (hF 1 (by decide) (hr 1 (by kernel_rfl)))
                 exact .inl ⟨(fun k b h => by cases h), .inl ⟨2, by decide, rfl, (.bool true), W, (by simp [go_sem, Act.eval, d0, d1, hABb]), rfl, hJ⟩⟩
                ·have d2 : a.tmps.getD 197 undef = (.bool true) := fdn (hF 2 (by decide) (hr 2 (by kernel_rfl)))
                 exact .inl ⟨(fun k b h => by cases h), .inl ⟨3, by decide, rfl, (.bool true), W, (by simp [go_sem, Act.eval, d2]), rfl, hJ⟩⟩
                ·have d3 : a.tmps.getD 198 undef = (.bool true) := fdn (hF 3 (by decide) (hr 3 (by kernel_rfl)))
                 have f24 : a.tmps.getD 24 undef = (.pointer (some ⟨q, 0, none⟩)) := hf 24 (by kernel_rfl)
                 exact .inl ⟨(fun k b h => by cases h; exact ⟨3, by decide, rfl, d3⟩), .inl ⟨4, by decide, rfl, (.pointer (some ⟨q, 0, none⟩)), W, (by simp [go_sem, Act.eval, d3, f24]), rfl, hJ⟩⟩
                ·have d4 : a.tmps.getD 199 undef = (.pointer (some ⟨q, 0, none⟩)) := fdn (hF 4 (by decide) (hr 4 (by kernel_rfl)))
                 have d3 : a.tmps.getD 198 undef = (.bool true) := fdn (hF 3 (by decide) (hr 3 (by kernel_rfl)))
                 have cx := HC0.out W hJ
                 exact .inl ⟨(fun k b h => by cases h; exact ⟨3, by decide, rfl, d3⟩), .inl ⟨5, by decide, rfl, (.bool true), W, (by simp [go_sem, Act.eval, d4, d3, cx]), rfl, hJ⟩⟩
                ·have d3 : a.tmps.getD 198 undef = (.bool true) := fdn (hF 3 (by decide) (hr 3 (by kernel_rfl)))
                 have d5 : a.tmps.getD 200 undef = (.bool true) := fdn (hF 5 (by decide) (hr 5 (by kernel_rfl)))
                 exact .inl ⟨(fun k b h => by cases h), .inl ⟨6, by decide, rfl, (.bool true), W, (by simp [go_sem, Act.eval, d3, d5]), rfl, hJ⟩⟩
                ·have d6 : a.tmps.getD 201 undef = (.bool true) := fdn (hF 6 (by decide) (hr 6 (by kernel_rfl)))
                 exact .inl ⟨(fun k b h => by cases h), .inl ⟨7, by decide, rfl, (.bool true), W, (by simp [go_sem, Act.eval, d6]), rfl, hJ⟩⟩
                ·have d7 : a.tmps.getD 202 undef = (.bool true) := fdn (hF 7 (by decide) (hr 7 (by kernel_rfl)))
                 have f24 : a.tmps.getD 24 undef = (.pointer (some ⟨q, 0, none⟩)) := hf 24 (by kernel_rfl)
                 exact .inl ⟨(fun k b h => by cases h; exact ⟨7, by decide, rfl, d7⟩), .inl ⟨8, by decide, rfl, (.pointer (some ⟨q, 1, none⟩)), W, (by simp [go_sem, Act.eval, d7, f24]), rfl, hJ⟩⟩
                ·have d8 : a.tmps.getD 203 undef = (.pointer (some ⟨q, 1, none⟩)) := fdn (hF 8 (by decide) (hr 8 (by kernel_rfl)))
                 have d7 : a.tmps.getD 202 undef = (.bool true) := fdn (hF 7 (by decide) (hr 7 (by kernel_rfl)))
                 have cx := HC1.out W hJ
                 exact .inl ⟨(fun k b h => by cases h; exact ⟨7, by decide, rfl, d7⟩), .inl ⟨9, by decide, rfl, (.bool i1), W, (by simp [go_sem, Act.eval, d8, d7, cx]), rfl, hJ⟩⟩
                ·have d7 : a.tmps.getD 202 undef = (.bool true) := fdn (hF 7 (by decide) (hr 7 (by kernel_rfl)))
                 have f0 : a.tmps.getD 0 undef = (.int .i64 (m : Int)) := hf 0 (by kernel_rfl)
                 exact .inl ⟨(fun k b h => by cases h; exact ⟨7, by decide, rfl, d7⟩), .inl ⟨10, by decide, rfl, (.int .i64 (m : Int)), W, (by simp [go_sem, Act.eval, d7, f0]), rfl, hJ⟩⟩
                ·have d7 : a.tmps.getD 202 undef = (.bool true) := fdn (hF 7 (by decide) (hr 7 (by kernel_rfl)))
                 have f1 : a.tmps.getD 1 undef = (.slice al ml ac) := hf 1 (by kernel_rfl)
                 exact .inl ⟨(fun k b h => by cases h; exact ⟨7, by decide, rfl, d7⟩), .inl ⟨11, by decide, rfl, (.slice al ml ac), W, (by simp [go_sem, Act.eval, d7, f1]), rfl, hJ⟩⟩
                ·have d7 : a.tmps.getD 202 undef = (.bool true) := fdn (hF 7 (by decide) (hr 7 (by kernel_rfl)))
                 have f2 : a.tmps.getD 2 undef = (.int .i64 (A : Int)) := hf 2 (by kernel_rfl)
                 exact .inl ⟨(fun k b h => by cases h; exact ⟨7, by decide, rfl, d7⟩), .inl ⟨12, by decide, rfl, (.int .i64 (A : Int)), W, (by simp [go_sem, Act.eval, d7, f2]), rfl, hJ⟩⟩
                ·have d7 : a.tmps.getD 202 undef = (.bool true) := fdn (hF 7 (by decide) (hr 7 (by kernel_rfl)))
                 have f3 : a.tmps.getD 3 undef = (.int .i64 (B : Int)) := hf 3 (by kernel_rfl)
                 exact .inl ⟨(fun k b h => by cases h; exact ⟨7, by decide, rfl, d7⟩), .inl ⟨13, by decide, rfl, (.int .i64 (B : Int)), W, (by simp [go_sem, Act.eval, d7, f3]), rfl, hJ⟩⟩
                ·have d10 : a.tmps.getD 205 undef = (.int .i64 (m : Int)) := fdn (hF 10 (by decide) (hr 10 (by kernel_rfl)))
                 have d11 : a.tmps.getD 206 undef = (.slice al ml ac) := fdn (hF 11 (by decide) (hr 11 (by kernel_rfl)))
                 have d12 : a.tmps.getD 207 undef = (.int .i64 (A : Int)) := fdn (hF 12 (by decide) (hr 12 (by kernel_rfl)))
                 have d13 : a.tmps.getD 208 undef = (.int .i64 (B : Int)) := fdn (hF 13 (by decide) (hr 13 (by kernel_rfl)))
                 have d7 : a.tmps.getD 202 undef = (.bool true) := fdn (hF 7 (by decide) (hr 7 (by kernel_rfl)))
                 refine .inl ⟨(fun k b h => by cases h; exact ⟨7, by decide, rfl, d7⟩), .inr (.inr ⟨14, by decide, rfl, 12, #[.int .i64 (m : Int), (.slice al ml ac), (.int .i64 (A : Int)), (.int .i64 (B : Int))], W, (by simp [go_sem, Act.eval, d10, d11, d12, d13, d7]), ?_⟩)⟩
                 refine (callsIn_wide.2 (HFab.out W (HBW.out.trans (Below.mono hJ HBW.out.size)))).mono ?_
                 rintro e W' ⟨rfl, hBe⟩
                 exact ⟨_, rfl, rfl, Below.trans hJ (hBe.mono (Below.size hJ))⟩
                ·have d14 : a.tmps.getD 209 undef = (.int .i64 (fab : Int)) := fdn (hF 14 (by decide) (hr 14 (by kernel_rfl)))
                 have d7 : a.tmps.getD 202 undef = (.bool true) := fdn (hF 7 (by decide) (hr 7 (by kernel_rfl)))
                 exact .inl ⟨(fun k b h => by cases h; exact ⟨7, by decide, rfl, d7⟩), .inl ⟨15, by decide, rfl, (.bool (decide ((2 : Int) ≤ (fab : Int)))), W, (by simp [go_sem, Act.eval, d14, d7]), rfl, hJ⟩⟩
                ·have d9 : a.tmps.getD 204 undef = (.bool i1) := fdn (hF 9 (by decide) (hr 9 (by kernel_rfl)))
                 have d15 : a.tmps.getD 210 undef = (.bool (decide ((2 : Int) ≤ (fab : Int)))) := fdn (hF 15 (by decide) (hr 15 (by kernel_rfl)))
                 have d7 : a.tmps.getD 202 undef = (.bool true) := fdn (hF 7 (by decide) (hr 7 (by kernel_rfl)))
                 exact .inl ⟨(fun k b h => by cases h; exact ⟨7, by decide, rfl, d7⟩), .inl ⟨16, by decide, rfl, (.bool false), W, (by simp [go_sem, Act.eval, d9, d15, d7, hne2]), rfl, hJ⟩⟩
                ·have d7 : a.tmps.getD 202 undef = (.bool true) := fdn (hF 7 (by decide) (hr 7 (by kernel_rfl)))
                 have d16 : a.tmps.getD 211 undef = (.bool false) := fdn (hF 16 (by decide) (hr 16 (by kernel_rfl)))
                 exact .inl ⟨(fun k b h => by cases h), .inl ⟨17, by decide, rfl, (.bool false), W, (by simp [go_sem, Act.eval, d7, d16]), rfl, hJ⟩⟩
               case finc =>
                intro d vs Wc hall hJ hF
                have h0 : vs 0 = (.int .i64 (A : Int)) := hF 0 (by decide)
                have h1 : vs 1 = (.int .i64 (B : Int)) := hF 1 (by decide)
                have h2 : vs 2 = (.bool true) := hF 2 (by decide)
                have h3 : vs 3 = (.bool true) := hF 3 (by decide)
                have h4 : vs 4 = (.pointer (some ⟨q, 0, none⟩)) := hF 4 (by decide)
                have h5 : vs 5 = (.bool true) := hF 5 (by decide)
                have h6 : vs 6 = (.bool true) := hF 6 (by decide)
                have h7 : vs 7 = (.bool true) := hF 7 (by decide)
                have h8 : vs 8 = (.pointer (some ⟨q, 1, none⟩)) := hF 8 (by decide)
                have h9 : vs 9 = (.bool i1) := hF 9 (by decide)
                have h10 : vs 10 = (.int .i64 (m : Int)) := hF 10 (by decide)
                have h11 : vs 11 = (.slice al ml ac) := hF 11 (by decide)
                have h12 : vs 12 = (.int .i64 (A : Int)) := hF 12 (by decide)
                have h13 : vs 13 = (.int .i64 (B : Int)) := hF 13 (by decide)
                have h14 : vs 14 = (.int .i64 (fab : Int)) := hF 14 (by decide)
                have h15 : vs 15 = (.bool (decide ((2 : Int) ≤ (fab : Int)))) := hF 15 (by decide)
                have h16 : vs 16 = (.bool false) := hF 16 (by decide)
                have h17 : vs 17 = (.bool false) := hF 17 (by decide)
                clear hF
                have hJc : Below wr.heap.size wr Wc := hJ
                clear hJ hall
                show (_ : Exit → Act → World → Prop) Exit.normal (puts _ vs 18 _) Wc
                simp only [puts, h0, h1, h2, h3, h4, h5, h6, h7, h8, h9, h10, h11, h12, h13, h14, h15, h16, h17, List.getD_cons_zero, List.getD_cons_succ]
                clear h0 h1 h2 h3 h4 h5 h6 h7 h8 h9 h10 h11 h12 h13 h14 h15 h16 h17
                simp only [Act.put, List.setIfInBounds_toArray, List.set_cons_succ, List.set_cons_zero]
                go_wp2_with (fail)
                go_roundw
                case rel => exact ⟨j + 1, by go_num, by omega, HBX.out.trans (hJc.mono HBX.out.size)⟩
                case measure => simp [intOf] <;> omega
           ·obtain rfl : ng = j := by omega
            have HB9 : Hid (Below W.heap.size W wr) := HB7.out.trans (HB.out.mono HB7.out.size)
            go_wp2_with (fail)
            refine (awake_any wr).mono ?_
            rintro e Wz ⟨rfl, hb⟩
            have HBz := Lib.hid (HB9.out.trans (hb.mono HB9.out.size))
            clear hb
            go_wp2_with (fail)
            go_ret
            exact ⟨rfl, HBz.out⟩
 ·rw [fitB_false hf] at HC
  go_enter Try.func6, Try.ntmps6
  go_wp2_with (fail)
  refine HC.out.mono ?_
  rintro e W1 ⟨rfl, hb⟩
  have HB1 := Lib.hid hb
  clear hb HC
  go_wp2_with (fail)
  refine (awake_any W1).mono ?_
  rintro e W2 ⟨rfl, hb⟩
  have HB2 := Lib.hid (HB1.out.trans (hb.mono HB1.out.size))
  go_wp2_with (fail)
  go_ret
  exact ⟨rfl, HB2.out⟩

end Go.Proofs.Ytenilbofncfbdaa

