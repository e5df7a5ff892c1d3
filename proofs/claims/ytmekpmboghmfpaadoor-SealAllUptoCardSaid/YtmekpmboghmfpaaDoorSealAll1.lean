/- What All takes: frames one behind the other, until one does not open; and the document's Salvage, whose places are the same. -/
import Derived.Test.YtmekpmboghmfpaaDoorSealRows2
namespace Go.Proofs.YtmekpmboghmfpaaDoor
open Go.RowKit

/-- the places at which frames open, one behind the other; where it stops; the code -/
def allG (l : List UInt8) : Nat → Nat → List Nat × Nat × Nat
  | 0, at_ => ([], at_, 0)
  | f + 1, at_ => if at_ < l.length then (if (openF (l.drop at_)).2.2 ≠ 0 then ([], at_, (openF (l.drop at_)).2.2) else (at_ :: (allG l f (at_ + (openF (l.drop at_)).2.1)).1, (allG l f (at_ + (openF (l.drop at_)).2.1)).2)) else ([], at_, 0)

theorem openF_pos (l : List UInt8) (h : (openF l).2.2 = 0) : 8 ≤ (openF l).2.1 := by
  unfold openF at h ⊢
  by_cases h1 : badForm l
  · rw [if_pos h1] at h; exact absurd h (by decide)
  · rw [if_neg h1] at h ⊢
    by_cases h2 : l.length < 4
    · rw [if_pos h2] at h; exact absurd h (by decide)
    · rw [if_neg h2] at h ⊢
      by_cases h3 : l.length < bodyLen l + 8
      · rw [if_pos h3] at h; exact absurd h (by decide)
      · rw [if_neg h3] at h ⊢
        by_cases h4 : crc ((l.take (4 + bodyLen l)).drop 2) ≠ sumAt l (4 + bodyLen l)
        · rw [if_pos h4] at h; exact absurd h (by decide)
        · rw [if_neg h4]; show 8 ≤ bodyLen l + 8; omega

theorem append_row {w : World} {ops : Array Oper} {rest : List Oper} {o : Oper} {a : Act} {Q : Exit → Act → World → Prop} (hgd : o.guard = none) (s x : Operand)
    (ho : o.op = .call { callee := .builtin .append, args := #[s, x], argTypes := #[33, 33] })
    (base : Nat) (v : Value) (xs : List Value) (hs : a.eval s = v) (hown : OwnL w base v xs)
    (g : Nat) (u : Value) (hx : a.eval x = .slice (some ⟨g, 0, none⟩) 1 1) (hc : w.cell? ⟨g, 0, none⟩ = some u) (h1 : u.oneCell' = true)
    (hlen : xs.length ≤ 1099511627776) (hbase : base ≤ w.heap.size)
    (h : ∀ v' w', OwnL w' base v' (xs ++ [u]) → w.grownBy w' v.ownBlock → wpList Tryd.prog ops Q rest (a.put o.dst v') w') : wpList Tryd.prog ops Q (o :: rest) a w := by
  obtain ⟨i0, hi, hz0, hz1, hz2⟩ := info_parts info_bytes
  refine wpList_append_own _ hgd s x _ ho base 22 i0 (.slice none 0 0) 1 24 Tryd.underlying33 hi hz0 hz1 hz2 rfl (by decide) v xs.length xs hs hown ⟨g, 0, none⟩ 1 1 [u] hx rfl
    (fun j u' hj => ?_) (by simpa using h1) (by unfold maxLen; omega) (by omega) hbase ?_
  · match j, hj with
    | 0, hj => simp at hj; subst hj; simpa [Addr.add] using hc
  · intro v' w' h2 h3 _
    exact h v' w' (by show World.ownsRow _ _ _ _ _ _ _; rw [List.length_append]; exact h2) h3

theorem append_int {w : World} {ops : Array Oper} {rest : List Oper} {o : Oper} {a : Act} {Q : Exit → Act → World → Prop} (hgd : o.guard = none) (s x : Operand)
    (ho : o.op = .call { callee := .builtin .append, args := #[s, x], argTypes := #[44, 44] })
    (base : Nat) (v : Value) (xs : List Value) (hs : a.eval s = v) (hown : OwnP w base v xs)
    (g : Nat) (u : Value) (hx : a.eval x = .slice (some ⟨g, 0, none⟩) 1 1) (hc : w.cell? ⟨g, 0, none⟩ = some u) (h1 : u.oneCell' = true)
    (hlen : xs.length ≤ 1099511627776) (hbase : base ≤ w.heap.size)
    (h : ∀ v' w', OwnP w' base v' (xs ++ [u]) → w.grownBy w' v.ownBlock → wpList Tryd.prog ops Q rest (a.put o.dst v') w') : wpList Tryd.prog ops Q (o :: rest) a w := by
  obtain ⟨i0, hi, hz0, hz1, hz2⟩ := info_parts info_int
  refine wpList_append_own _ hgd s x _ ho base 3 i0 (.int .i64 0) 1 8 Tryd.underlying44 hi hz0 hz1 hz2 rfl (by decide) v xs.length xs hs hown ⟨g, 0, none⟩ 1 1 [u] hx rfl
    (fun j u' hj => ?_) (by simpa using h1) (by unfold maxLen; omega) (by omega) hbase ?_
  · match j, hj with
    | 0, hj => simp at hj; subst hj; simpa [Addr.add] using hc
  · intro v' w' h2 h3 _
    exact h v' w' (by show World.ownsRow _ _ _ _ _ _ _; rw [List.length_append]; exact h2) h3

theorem owns_below {w w' : World} {B n : Nat} {e : TypeId} {v : Value} {xs : List Value} (h : w.ownsRow B e 1 v n xs) (hb : Below w.heap.size w w') : w'.ownsRow B e 1 v n xs := by
  obtain ⟨h1, h2⟩ := h
  refine ⟨h1, ?_⟩
  rcases h2 with h2 | ⟨g, cap, cur, hv, hB, hg, r⟩
  · exact .inl h2
  · exact .inr ⟨g, cap, cur, hv, hB, by rw [hb.block g (Array.getElem?_eq_some_iff.1 hg).1]; exact hg, r⟩

/-- bodies gathered so far -/
def Gath (w : World) (B : Nat) (lv : Value) (ps : List Nat) (l : List UInt8) : Prop :=
  ∃ vs : List Value, OwnL w B lv vs ∧ vs.length = ps.length ∧ ∀ i, i < ps.length → Own w B (vs.getD i undef) (bodyAt l (ps.getD i 0))

theorem Gath.nil (w : World) (B : Nat) (l : List UInt8) : Gath w B (.slice none 0 0) [] l := ⟨[], World.ownsRow_nil _ _ _ _, rfl, fun _ hi => absurd hi (Nat.not_lt_zero _)⟩
theorem Gath.below {w w' : World} {B : Nat} {lv : Value} {ps : List Nat} {l : List UInt8} (h : Gath w B lv ps l) (hb : Below w.heap.size w w') : Gath w' B lv ps l := by
  obtain ⟨vs, h1, h2, h3⟩ := h
  exact ⟨vs, owns_below h1 hb, h2, fun i hi => (h3 i hi).below hb⟩
theorem Gath.rows {w : World} {B : Nat} {lv : Value} {ps : List Nat} {l : List UInt8} (h : Gath w B lv ps l) : BtsL w w.heap.size lv (ps.map (bodyAt l)) := by
  obtain ⟨vs, h1, h2, h3⟩ := h
  refine own_rows h1 _ (by rw [List.length_map]; exact h2) fun i hi => ⟨B, ?_⟩
  rw [List.length_map] at hi
  have := h3 i hi
  have e : (ps.map (bodyAt l)).getD i [] = bodyAt l (ps.getD i 0) := by simp [List.getD, hi]
  rw [e]; exact this
theorem Gath.push {w w' : World} {B : Nat} {lv lv' u : Value} {vs : List Value} {ps : List Nat} {l : List UInt8} {at_ : Nat} (h1 : OwnL w B lv vs) (h2 : vs.length = ps.length) (h3 : ∀ i, i < ps.length → Own w B (vs.getD i undef) (bodyAt l (ps.getD i 0)))
    (hu : Own w B u (bodyAt l at_)) (hg : w.grownBy w' lv.ownBlock) (hl : OwnL w' B lv' (vs ++ [u])) : Gath w' B lv' (ps ++ [at_]) l := by
  refine ⟨vs ++ [u], hl, by simp [h2], fun i hi => ?_⟩
  by_cases h : i < ps.length
  · have e1 : (vs ++ [u]).getD i undef = vs.getD i undef := by simp only [List.getD_eq_getElem?_getD]; rw [List.getElem?_append_left (by omega)]
    have e2 : (ps ++ [at_]).getD i 0 = ps.getD i 0 := by simp only [List.getD_eq_getElem?_getD]; rw [List.getElem?_append_left (by omega)]
    rw [e1, e2]
    exact owns_apart h1 hg (h3 i h) (by decide)
  · have hi' : i = ps.length := by simp at hi; omega
    subst hi'
    have e1 : (vs ++ [u]).getD ps.length undef = u := by rw [← h2]; simp [List.getD]
    have e2 : (ps ++ [at_]).getD ps.length 0 = at_ := by simp [List.getD]
    rw [e1, e2]
    exact owns_apart h1 hg hu (by decide)
theorem Own.oneCell {w : World} {B : Nat} {v : Value} {l : List UInt8} (h : Own w B v l) : v.oneCell' = true := by
  obtain ⟨ao, cap, rfl, _⟩ := h.bts
  rfl

set_option maxRecDepth 100000 in
set_option maxHeartbeats 2000000 in
theorem seal_All (v : Value) (l : List UInt8) (w : World) (hb : Bts w w.heap.size v l) (ht : TabOK w) (hsm : l.length ≤ 1099511627776) :
    Calls Tryd.prog 22 #[v] w fun e w' => ∃ lv, e = .returned (.tuple #[lv, .int .i64 ((allG l (l.length + 1) 0).2.1 : Nat), .int .i64 ((allG l (l.length + 1) 0).2.2 : Nat)]) ∧ Below w.heap.size w w' ∧ BtsL w' w'.heap.size lv ((allG l (l.length + 1) 0).1.map (bodyAt l)) := by
  obtain ⟨vo, vc, hv, _⟩ := id hb
  have HBB := Lib.hid hb
  have HT := Lib.hid ht
  clear hb ht
  have hstep : ∀ f at_, at_ < l.length → (openF (l.drop at_)).2.2 = 0 → allG l (f + 1) at_ = (at_ :: (allG l f (at_ + (openF (l.drop at_)).2.1)).1, (allG l f (at_ + (openF (l.drop at_)).2.1)).2) := fun f at_ h1 h2 => by
    show (if _ then _ else _) = _
    rw [if_pos h1, if_neg (by omega)]
  have hstop : ∀ f at_, at_ < l.length → (openF (l.drop at_)).2.2 ≠ 0 → allG l (f + 1) at_ = ([], at_, (openF (l.drop at_)).2.2) := fun f at_ h1 h2 => by
    show (if _ then _ else _) = _
    rw [if_pos h1, if_pos h2]
  have hend : ∀ f at_, ¬ at_ < l.length → allG l (f + 1) at_ = ([], at_, 0) := fun f at_ h1 => by
    show (if _ then _ else _) = _
    rw [if_neg h1]
  have H1 := Lib.hid hstep
  have H2 := Lib.hid hstop
  have H3 := Lib.hid hend
  clear hstep hstop hend
  generalize hR : allG l (l.length + 1) 0 = R at *
  have HR := Lib.hid hR
  clear hR
  subst hv
  generalize hN : l.length = n at *
  have HN := Lib.hid hN
  clear hN
  go_enter Tryd.func22, Tryd.ntmps22
  go_wp2_with fail
  go_loopw [5, 6, 7, 8, 9] (fun lv i b q e wr => ∃ (at_ f : Nat) (ps : List Nat), at_ ≤ n ∧ i = .int .i64 at_ ∧ Hid (n < at_ + f) ∧ Hid (R = (ps ++ (allG l f at_).1, (allG l f at_).2)) ∧ Hid (8 * ps.length ≤ at_) ∧ Hid (Gath wr w.heap.size lv ps l) ∧ Hid (Below w.heap.size w wr)) (fun _ i _ _ _ _ => n - (intOf i).toNat)
  case atStart => exact ⟨0, n + 1, [], Nat.zero_le _, rfl, by show n < _; omega, by show R = _; rw [HR.out]; rfl, by show _ ≤ _; simp, Gath.nil _ _ _, Below.refl _ _⟩
  case round =>
    obtain ⟨at_, f, ps, hat, rfl, HF, HQ, HP, HG, HB⟩ := hrel
    obtain ⟨f, rfl⟩ : ∃ f', f = f' + 1 := ⟨f - 1, by have := HF.out; omega⟩
    by_cases hlt : at_ < n
    · have hbr := HBB.out.below HB.out HB.out.size
      obtain ⟨v1, hb1, hr1⟩ := hbr.fromB at_ (by rw [HN.out]; omega)
      have c1 := seal_Open v1 _ wr hb1 (HT.out.below HB.out HT.out.lt)
      have hle := openF_le (l.drop at_)
      rw [List.length_drop, HN.out] at hle
      have hcode := openF_code (l.drop at_)
      clear hb1 hbr
      by_cases hz : (openF (l.drop at_)).2.2 = 0
      · have hpos := openF_pos (l.drop at_) hz
        have hst := H1.out f at_ hlt hz
        have hbody : bodyAt l at_ = (openF (l.drop at_)).1 := rfl
        rw [hz] at c1
        have HST := Lib.hid hst
        have HBD := Lib.hid hbody
        clear hst hbody hz hcode
        generalize (openF (l.drop at_)).2.1 = q at *
        generalize (openF (l.drop at_)).1 = body at *
        go_wp2_with fail
        refine c1.mono ?_
        rintro e w1 ⟨u, rfl, hown1, hB1⟩
        clear c1
        obtain ⟨uo, ucap, hue⟩ := hown1.form
        obtain ⟨vs, g1, g2, g3⟩ := HG.out.below hB1
        have hwr1 : w.heap.size ≤ w1.heap.size := Nat.le_trans HB.out.size hB1.size
        have hu : Own w1 w.heap.size u body := hown1.mono HB.out.size
        have hB1' : Below w.heap.size w1 (w1.alloc (.cells #[u] 22)) := (Below.refl _ _).alloc hwr1 _
        have hB1'' : Below w1.heap.size w1 (w1.alloc (.cells #[u] 22)) := (Below.refl _ _).alloc (Nat.le_refl _) _
        have g1' := owns_below g1 hB1''
        have hps : vs.length ≤ 1099511627776 := by have := HP.out; omega
        generalize body.length = bl at *
        subst hue
        go_wp2_with (at_builtin; (refine append_row rfl _ _ rfl w.heap.size _ vs rfl g1' w1.heap.size _ rfl (cell_of_row _ _ 0 _ _ _ (heap_alloc_new w1 _)) hu.oneCell hps (by simp; omega) ?_))
        intro v2 w2 hown2 hg2
        have hB2 : Below w.heap.size w w2 := ((HB.out.trans (hB1.mono HB.out.size)).trans hB1').grown hg2 (by simp; omega) (fun j hj => (World.ownsRow.lt g1' j hj).1)
        have hG2 : Gath w2 w.heap.size v2 (ps ++ [at_]) l := Gath.push g1' g2 (fun i hi => (g3 i hi).below hB1'') (by rw [HBD.out]; exact hu.below hB1'') hg2 hown2
        have HB2 := Lib.hid hB2
        have HG2 := Lib.hid hG2
        clear hG2 hB2 hg2 hown2 g1' g1 g2 g3 hu hB1 hB1' hB1'' hown1 hps
        go_wp2_with fail
        go_roundw
        case rel => exact ⟨at_ + q, f, ps ++ [at_], by omega, by go_num, by have := HF.out; show n < _; omega, by show R = _; rw [HQ.out, HST.out]; simp, by have := HP.out; show _ ≤ _; simp; omega, HG2, HB2⟩
        case measure => simp [intOf]; omega
      · have hst := H2.out f at_ hlt hz
        have HRR : R = (ps, at_, (openF (l.drop at_)).2.2) := by rw [HQ.out, hst]; simp
        clear hst
        have hne : (((openF (l.drop at_)).2.2 : Int) != 0) = true := by rw [bne_iff_ne]; omega
        have HRR' := Lib.hid HRR
        clear HRR HR HQ hz hcode
        generalize (openF (l.drop at_)).2.2 = code at *
        generalize (openF (l.drop at_)).2.1 = q at *
        generalize (openF (l.drop at_)).1 = body at *
        go_wp2_with fail
        refine c1.mono ?_
        rintro e w1 ⟨u, rfl, hown1, hB1⟩
        clear c1
        have hG1 := Lib.hid (HG.out.below hB1)
        have hB1' := Lib.hid (HB.out.trans (hB1.mono HB.out.size))
        clear hown1 hB1
        go_wp2_with fail
        go_ret3
        rw [HRR'.out]
        exact ⟨_, rfl, hB1'.out, hG1.out.rows⟩
    · have hst := H3.out f at_ hlt
      have HRR : R = (ps, at_, 0) := by rw [HQ.out, hst]; simp
      have HRR' := Lib.hid HRR
      clear hst HRR HR HQ
      go_wp2_with fail
      go_ret3
      rw [HRR'.out]
      exact ⟨_, rfl, HB.out, HG.out.rows⟩

set_option maxRecDepth 100000 in
set_option maxHeartbeats 2000000 in
theorem ref_All (v : Value) (l : List UInt8) (w : World) (hb : Bts w w.heap.size v l) (hsm : l.length ≤ 1099511627776) :
    Calls Tryd.prog 23 #[v] w fun e w' => ∃ lv, e = .returned (.tuple #[lv, .int .i64 ((allG l (l.length + 1) 0).2.1 : Nat), .int .i64 ((allG l (l.length + 1) 0).2.2 : Nat)]) ∧ Below w.heap.size w w' ∧ BtsL w' w'.heap.size lv ((allG l (l.length + 1) 0).1.map (bodyAt l)) := by
  obtain ⟨vo, vc, hv, _⟩ := id hb
  have HBB := Lib.hid hb
  clear hb
  have hstep : ∀ f at_, at_ < l.length → (openF (l.drop at_)).2.2 = 0 → allG l (f + 1) at_ = (at_ :: (allG l f (at_ + (openF (l.drop at_)).2.1)).1, (allG l f (at_ + (openF (l.drop at_)).2.1)).2) := fun f at_ h1 h2 => by
    show (if _ then _ else _) = _
    rw [if_pos h1, if_neg (by omega)]
  have hstop : ∀ f at_, at_ < l.length → (openF (l.drop at_)).2.2 ≠ 0 → allG l (f + 1) at_ = ([], at_, (openF (l.drop at_)).2.2) := fun f at_ h1 h2 => by
    show (if _ then _ else _) = _
    rw [if_pos h1, if_pos h2]
  have hend : ∀ f at_, ¬ at_ < l.length → allG l (f + 1) at_ = ([], at_, 0) := fun f at_ h1 => by
    show (if _ then _ else _) = _
    rw [if_neg h1]
  have H1 := Lib.hid hstep
  have H2 := Lib.hid hstop
  have H3 := Lib.hid hend
  clear hstep hstop hend
  generalize hR : allG l (l.length + 1) 0 = R at *
  have HR := Lib.hid hR
  clear hR
  subst hv
  generalize hN : l.length = n at *
  have HN := Lib.hid hN
  clear hN
  go_enter Tryd.func23, Tryd.ntmps23
  go_wp2_with fail
  go_loopw [5, 6, 7, 8, 9] (fun lv i b q e wr => ∃ (at_ f : Nat) (ps : List Nat), at_ ≤ n ∧ i = .int .i64 at_ ∧ Hid (n < at_ + f) ∧ Hid (R = (ps ++ (allG l f at_).1, (allG l f at_).2)) ∧ Hid (8 * ps.length ≤ at_) ∧ Hid (Gath wr w.heap.size lv ps l) ∧ Hid (Below w.heap.size w wr)) (fun _ i _ _ _ _ => n - (intOf i).toNat)
  case atStart => exact ⟨0, n + 1, [], Nat.zero_le _, rfl, by show n < _; omega, by show R = _; rw [HR.out]; rfl, by show _ ≤ _; simp, Gath.nil _ _ _, Below.refl _ _⟩
  case round =>
    obtain ⟨at_, f, ps, hat, rfl, HF, HQ, HP, HG, HB⟩ := hrel
    obtain ⟨f, rfl⟩ : ∃ f', f = f' + 1 := ⟨f - 1, by have := HF.out; omega⟩
    by_cases hlt : at_ < n
    · have hbr := HBB.out.below HB.out HB.out.size
      obtain ⟨v1, hb1, hr1⟩ := hbr.fromB at_ (by rw [HN.out]; omega)
      have c1 := ref_Open v1 _ wr hb1
      have hle := openF_le (l.drop at_)
      rw [List.length_drop, HN.out] at hle
      have hcode := openF_code (l.drop at_)
      clear hb1 hbr
      by_cases hz : (openF (l.drop at_)).2.2 = 0
      · have hpos := openF_pos (l.drop at_) hz
        have hst := H1.out f at_ hlt hz
        have hbody : bodyAt l at_ = (openF (l.drop at_)).1 := rfl
        rw [hz] at c1
        have HST := Lib.hid hst
        have HBD := Lib.hid hbody
        clear hst hbody hz hcode
        generalize (openF (l.drop at_)).2.1 = q at *
        generalize (openF (l.drop at_)).1 = body at *
        go_wp2_with fail
        refine c1.mono ?_
        rintro e w1 ⟨u, rfl, hown1, hB1⟩
        clear c1
        obtain ⟨uo, ucap, hue⟩ := hown1.form
        obtain ⟨vs, g1, g2, g3⟩ := HG.out.below hB1
        have hwr1 : w.heap.size ≤ w1.heap.size := Nat.le_trans HB.out.size hB1.size
        have hu : Own w1 w.heap.size u body := hown1.mono HB.out.size
        have hB1' : Below w.heap.size w1 (w1.alloc (.cells #[u] 22)) := (Below.refl _ _).alloc hwr1 _
        have hB1'' : Below w1.heap.size w1 (w1.alloc (.cells #[u] 22)) := (Below.refl _ _).alloc (Nat.le_refl _) _
        have g1' := owns_below g1 hB1''
        have hps : vs.length ≤ 1099511627776 := by have := HP.out; omega
        generalize body.length = bl at *
        subst hue
        go_wp2_with (at_builtin; (refine append_row rfl _ _ rfl w.heap.size _ vs rfl g1' w1.heap.size _ rfl (cell_of_row _ _ 0 _ _ _ (heap_alloc_new w1 _)) hu.oneCell hps (by simp; omega) ?_))
        intro v2 w2 hown2 hg2
        have hB2 : Below w.heap.size w w2 := ((HB.out.trans (hB1.mono HB.out.size)).trans hB1').grown hg2 (by simp; omega) (fun j hj => (World.ownsRow.lt g1' j hj).1)
        have hG2 : Gath w2 w.heap.size v2 (ps ++ [at_]) l := Gath.push g1' g2 (fun i hi => (g3 i hi).below hB1'') (by rw [HBD.out]; exact hu.below hB1'') hg2 hown2
        have HB2 := Lib.hid hB2
        have HG2 := Lib.hid hG2
        clear hG2 hB2 hg2 hown2 g1' g1 g2 g3 hu hB1 hB1' hB1'' hown1 hps
        go_wp2_with fail
        go_roundw
        case rel => exact ⟨at_ + q, f, ps ++ [at_], by omega, by go_num, by have := HF.out; show n < _; omega, by show R = _; rw [HQ.out, HST.out]; simp, by have := HP.out; show _ ≤ _; simp; omega, HG2, HB2⟩
        case measure => simp [intOf]; omega
      · have hst := H2.out f at_ hlt hz
        have HRR : R = (ps, at_, (openF (l.drop at_)).2.2) := by rw [HQ.out, hst]; simp
        clear hst
        have hne : (((openF (l.drop at_)).2.2 : Int) != 0) = true := by rw [bne_iff_ne]; omega
        have HRR' := Lib.hid HRR
        clear HRR HR HQ hz hcode
        generalize (openF (l.drop at_)).2.2 = code at *
        generalize (openF (l.drop at_)).2.1 = q at *
        generalize (openF (l.drop at_)).1 = body at *
        go_wp2_with fail
        refine c1.mono ?_
        rintro e w1 ⟨u, rfl, hown1, hB1⟩
        clear c1
        have hG1 := Lib.hid (HG.out.below hB1)
        have hB1' := Lib.hid (HB.out.trans (hB1.mono HB.out.size))
        clear hown1 hB1
        go_wp2_with fail
        go_ret3
        rw [HRR'.out]
        exact ⟨_, rfl, hB1'.out, hG1.out.rows⟩
    · have hst := H3.out f at_ hlt
      have HRR : R = (ps, at_, 0) := by rw [HQ.out, hst]; simp
      have HRR' := Lib.hid HRR
      clear hst HRR HR HQ
      go_wp2_with fail
      go_ret3
      rw [HRR'.out]
      exact ⟨_, rfl, HB.out, HG.out.rows⟩

end Go.Proofs.YtmekpmboghmfpaaDoor
