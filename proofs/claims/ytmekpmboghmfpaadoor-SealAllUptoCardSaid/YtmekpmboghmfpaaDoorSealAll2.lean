/- The document's Salvage; Same; how All and Salvage hang together. -/
import Derived.Test.YtmekpmboghmfpaaDoorSealAll1
import Derived.Deep.QuietTactic
import Derived.BigQuiet
namespace Go.Proofs.YtmekpmboghmfpaaDoor
open Go.RowKit

theorem Gath.apart {w w' : World} {B : Nat} {lv pv : Value} {ps : List Nat} {l : List UInt8} {ks : List Value} (h : Gath w B lv ps l) (hp : OwnP w B pv ks) (hg : w.grownBy w' pv.ownBlock) : Gath w' B lv ps l := by
  obtain ⟨vs, h1, h2, h3⟩ := h
  exact ⟨vs, owns_apart hp hg h1 (by decide), h2, fun i hi => owns_apart hp hg (h3 i hi) (by decide)⟩

set_option maxRecDepth 100000 in
set_option maxHeartbeats 2000000 in
theorem ref_Salvage (v : Value) (l : List UInt8) (w : World) (hb : Bts w w.heap.size v l) (hsm : l.length ≤ 1099511627776) :
    Calls Tryd.prog 24 #[v] w fun e w' => ∃ lv pv, e = .returned (.tuple #[lv, pv]) ∧ Below w.heap.size w w' ∧ BtsL w' w'.heap.size lv ((places l).map (bodyAt l)) ∧
      OwnP w' w.heap.size pv ((places l).map fun k : Nat => Value.int .i64 (k : Int)) := by
  obtain ⟨vo, vc, hv, _⟩ := id hb
  have HBB := Lib.hid hb
  clear hb
  subst hv
  generalize hN : l.length = n at *
  have HN := Lib.hid hN
  clear hN
  go_enter Tryd.func24, Tryd.ntmps24
  go_wp2_with fail
  go_loopw [4, 5, 6, 7, 8, 9] (fun lv pv i b q e wr => ∃ (at_ : Nat) (ps : List Nat), at_ ≤ n ∧ i = .int .i64 at_ ∧ Hid (∃ q0, salv l at_ = (q0, ps) ∧ q0 ≤ at_) ∧ Hid (Gath wr w.heap.size lv ps l) ∧ Hid (OwnP wr w.heap.size pv (ps.map fun k : Nat => Value.int .i64 (k : Int))) ∧ Hid (Below w.heap.size w wr)) (fun _ _ i _ _ _ _ => n - (intOf i).toNat)
  case atStart => exact ⟨0, [], Nat.zero_le _, rfl, ⟨0, rfl, Nat.le_refl _⟩, Gath.nil _ _ _, World.ownsRow_nil _ _ _ _, Below.refl _ _⟩
  case round =>
    obtain ⟨at_, ps, hat, rfl, HQ, HG, HP, HB⟩ := hrel
    by_cases hlt : at_ < n
    · have hbr := HBB.out.below HB.out HB.out.size
      obtain ⟨v1, hb1, hr1⟩ := hbr.fromB at_ (by rw [HN.out]; omega)
      have c1 := ref_Open v1 _ wr hb1
      have hle := openF_le (l.drop at_)
      rw [List.length_drop, HN.out] at hle
      have hcode := openF_code (l.drop at_)
      clear hb1 hbr
      by_cases hz : (openF (l.drop at_)).2.2 = 0
      · have hpos := openF_pos (l.drop at_) hz
        have hst : Hid (∃ q0, salv l (at_ + (openF (l.drop at_)).2.1) = (q0, ps ++ [at_]) ∧ q0 ≤ at_ + (openF (l.drop at_)).2.1) := by
          obtain ⟨q0, h1, h2⟩ := HQ.out
          exact ⟨_, salv_hit l at_ _ (openF (l.drop at_)).1 q0 ps h1 h2 (by rw [← hz]) (by omega), Nat.le_refl _⟩
        have hbody : bodyAt l at_ = (openF (l.drop at_)).1 := rfl
        have hcnt : ps.length ≤ n := by
          obtain ⟨q0, h1, h2⟩ := HQ.out
          have := salv_count l at_
          rw [h1] at this
          exact Nat.le_trans this hat
        rw [hz] at c1
        have HBD := Lib.hid hbody
        clear hbody hz hcode
        generalize (openF (l.drop at_)).2.1 = q at *
        generalize (openF (l.drop at_)).1 = body at *
        go_wp2_with fail
        refine c1.mono ?_
        rintro e w1 ⟨u, rfl, hown1, hB1⟩
        clear c1
        obtain ⟨uo, ucap, hue⟩ := hown1.form
        obtain ⟨vs, g1, g2, g3⟩ := HG.out.below hB1
        have p1 := owns_below HP.out hB1
        have hwr1 : w.heap.size ≤ w1.heap.size := Nat.le_trans HB.out.size hB1.size
        have hu : Own w1 w.heap.size u body := hown1.mono HB.out.size
        have hB1' : Below w.heap.size w1 (w1.alloc (.cells #[u] 22)) := (Below.refl _ _).alloc hwr1 _
        have hB1'' : Below w1.heap.size w1 (w1.alloc (.cells #[u] 22)) := (Below.refl _ _).alloc (Nat.le_refl _) _
        have g1' := owns_below g1 hB1''
        have p1' := owns_below p1 hB1''
        have hps : vs.length ≤ 1099511627776 := by omega
        generalize body.length = bl at *
        subst hue
        go_wp2_with (at_builtin; (refine append_row rfl _ _ rfl w.heap.size _ vs rfl g1' w1.heap.size _ rfl (cell_of_row _ _ 0 _ _ _ (heap_alloc_new w1 _)) hu.oneCell hps (by simp; omega) ?_))
        intro v2 w2 hown2 hg2
        have hB2 : Below w.heap.size w w2 := ((HB.out.trans (hB1.mono HB.out.size)).trans hB1').grown hg2 (by simp; omega) (fun j hj => (World.ownsRow.lt g1' j hj).1)
        have hG2 : Gath w2 w.heap.size v2 (ps ++ [at_]) l := Gath.push g1' g2 (fun i hi => (g3 i hi).below hB1'') (by rw [HBD.out]; exact hu.below hB1'') hg2 hown2
        have p2 : OwnP w2 w.heap.size _ _ := owns_apart g1' hg2 p1' (by decide)
        have hB2' : Below w.heap.size w2 (w2.alloc (.cells #[Value.int .i64 (at_ : Int)] 3)) := (Below.refl _ _).alloc hB2.size _
        have hB2'' : Below w2.heap.size w2 (w2.alloc (.cells #[Value.int .i64 (at_ : Int)] 3)) := (Below.refl _ _).alloc (Nat.le_refl _) _
        have p2' := owns_below p2 hB2''
        have hG2' := hG2.below hB2''
        have hsz2 := hB2.size
        have hpl : (ps.map fun k : Nat => Value.int .i64 (k : Int)).length ≤ 1099511627776 := by rw [List.length_map]; omega
        have HB2 := Lib.hid hB2
        clear hG2 hg2 hown2 g1' g1 g2 g3 hu hB1 hB1' hB1'' hown1 hps hB2 p1 p1' p2
        go_wp2_with (at_builtin; (refine append_int rfl _ _ rfl w.heap.size _ (ps.map fun k : Nat => Value.int .i64 (k : Int)) rfl p2' w2.heap.size (.int .i64 (at_ : Int)) rfl (cell_of_row _ _ 0 _ _ _ (heap_alloc_new w2 _)) rfl hpl (by simp; omega) ?_))
        intro v3 w3 hown3 hg3
        have hB3 := Lib.hid ((HB2.out.trans hB2').grown hg3 (by simp; omega) (fun j hj => (World.ownsRow.lt p2' j hj).1))
        have hG3 := Lib.hid (hG2'.apart p2' hg3)
        have hP3 : Hid (OwnP w3 w.heap.size v3 ((ps ++ [at_]).map fun k : Nat => Value.int .i64 (k : Int))) := by show OwnP _ _ _ _; rw [List.map_append]; exact hown3
        clear hown3 hg3 p2' hB2' hB2'' hG2'
        go_wp2_with fail
        go_roundw
        case rel => exact ⟨at_ + q, ps ++ [at_], by omega, by go_num, hst, hG3, hP3, hB3⟩
        case measure => simp [intOf]; omega
      · have hst : Hid (∃ q0, salv l (at_ + 1) = (q0, ps) ∧ q0 ≤ at_ + 1) := by
          obtain ⟨q0, h1, h2⟩ := HQ.out
          exact ⟨q0, salv_miss l at_ q0 ps h1 hz, by omega⟩
        have hne : (((openF (l.drop at_)).2.2 : Int) != 0) = true := by rw [bne_iff_ne]; omega
        clear hz hcode
        generalize (openF (l.drop at_)).2.2 = code at *
        generalize (openF (l.drop at_)).2.1 = q at *
        generalize (openF (l.drop at_)).1 = body at *
        go_wp2_with fail
        refine c1.mono ?_
        rintro e w1 ⟨u, rfl, hown1, hB1⟩
        clear c1
        have hG1 := Lib.hid (HG.out.below hB1)
        have hP1 := Lib.hid (owns_below HP.out hB1)
        have hB1' := Lib.hid (HB.out.trans (hB1.mono HB.out.size))
        clear hown1 hB1
        go_wp2_with fail
        go_roundw
        case rel => exact ⟨at_ + 1, ps, by omega, by go_num, hst, hG1, hP1, hB1'⟩
        case measure => simp [intOf]; omega
    · have hps : Hid (places l = ps) := by
        obtain ⟨q0, h1, h2⟩ := HQ.out
        show (salv l l.length).2 = ps
        rw [HN.out, show n = at_ by omega, h1]
      go_wp2_with fail
      go_ret2
      rw [hps.out]
      exact ⟨_, _, rfl, HB.out, HG.out.rows, HP.out⟩

theorem BtsL.pre {w : World} {B : Nat} {ao : Option Addr} {n cap : Nat} {rows : List (List UInt8)} (h : BtsL w B (.slice ao n cap) rows) (k : Nat) (hk : k ≤ rows.length) : BtsL w B (.slice ao k cap) (rows.take k) := by
  obtain ⟨ao', cap', he, hc, hm, hx⟩ := id h
  injection he with h4 h5 h6
  subst h4 h6
  subst h5
  have hl : (rows.take k).length = k := by rw [List.length_take]; omega
  refine ⟨ao, cap, by rw [hl], by omega, by omega, fun hne => ?_⟩
  obtain ⟨b, off, h7, h8, h9⟩ := hx (fun h => hne (by rw [h]; simp))
  refine ⟨b, off, h7, h8, fun i hi => ?_⟩
  rw [hl] at hi
  obtain ⟨u, h10, h11⟩ := h9 i (by omega)
  refine ⟨u, h10, ?_⟩
  simp only [List.getD_eq_getElem?_getD] at h11 ⊢
  rw [List.getElem?_take_of_lt hi]
  exact h11

set_option maxRecDepth 100000 in
set_option maxHeartbeats 2000000 in
/-- Same, of lists that read the same -/
theorem same_true (va vb : Value) (rows : List (List UInt8)) (w : World) (ha : BtsL w w.heap.size va rows) (hb : BtsL w w.heap.size vb rows) :
    Calls Tryd.prog 25 #[va, vb] w fun e w' => e = .returned (.bool true) ∧ Below w.heap.size w w' := by
  obtain ⟨ao, acap, rfl, hac, hamax, _⟩ := id ha
  obtain ⟨bo, bcap, rfl, hbc, _, _⟩ := id hb
  have hmax : rows.length ≤ 9223372036854775807 := by unfold maxLen at hamax; omega
  clear hamax
  have HA := Lib.hid ha
  have HB := Lib.hid hb
  clear ha hb
  generalize hN : rows.length = n at *
  have HN := Lib.hid hN
  clear hN
  go_enter Tryd.func25, Tryd.ntmps25
  go_wp2_with fail
  go_loopw [5] (fun i wr => ∃ k : Nat, k ≤ n ∧ i = .int .i64 k ∧ Hid (Below w.heap.size w wr)) (fun i _ => n - (intOf i).toNat)
  case atStart => exact ⟨0, Nat.zero_le _, rfl, Below.refl _ _⟩
  case round =>
    obtain ⟨k, hk, rfl, HW⟩ := hrel
    by_cases hlt : k < n
    · have hA := HA.out.below HW.out HW.out.size
      have hB := HB.out.below HW.out HW.out.size
      obtain ⟨ao', cap', he, _, _, h4⟩ := hA
      injection he with e1 e2 e3
      subst e1 e3
      obtain ⟨b, off, rfl, hbw, hcell⟩ := h4 (fun h => by have := HN.out; rw [h] at this; simp at this; omega)
      obtain ⟨u, hcu, hbu⟩ := hcell k (by have := HN.out; omega)
      clear hcell h4 e2
      obtain ⟨bo', bcap', he, _, _, h4⟩ := hB
      injection he with e1 e2 e3
      subst e1 e3
      obtain ⟨gb, goff, rfl, hgw, hcell⟩ := h4 (fun h => by have := HN.out; rw [h] at this; simp at this; omega)
      obtain ⟨u2, hcu2, hbu2⟩ := hcell k (by have := HN.out; omega)
      clear hcell h4 e2
      have s1q := fun n => (hbu.below (bdN _ wr n) (Nat.le_refl _)).strB
      have s2q := fun n => (hbu2.below (bdN _ wr n) (Nat.le_refl _)).strB
      clear hbu hbu2
      generalize rows.getD k [] = l at *
      have eqF : ((⟨l.toArray⟩ : ByteArray).toList != (⟨l.toArray⟩ : ByteArray).toList) = false := by simp
      go_wp2_with fail
      go_quiet (fail)
      go_wp2
      go_roundw
      case rel => exact ⟨k + 1, by omega, by go_num, HW.out.trans (bdN _ _ _)⟩
      case measure => simp [intOf]; omega
    · go_wp2
      go_ret
      exact ⟨rfl, HW.out⟩

theorem salv_prefix (l : List UInt8) (k q : Nat) (ps : List Nat) (h : salv l k = (q, ps)) (m : Nat) (hm : k ≤ m) : ∃ rest, (salv l m).2 = ps ++ rest := by
  induction m with
  | zero =>
    have : k = 0 := by omega
    subst this
    exact ⟨[], by rw [h]; simp⟩
  | succ m ih =>
    by_cases hk : k = m + 1
    · subst hk; exact ⟨[], by rw [h]; simp⟩
    · obtain ⟨rest, hr⟩ := ih (by omega)
      show ∃ rest, (salvStep l (salv l m) m).2 = ps ++ rest
      unfold salvStep
      by_cases h1 : m < (salv l m).1
      · rw [if_pos h1]; exact ⟨rest, hr⟩
      · rw [if_neg h1]
        by_cases h2 : (openF (l.drop m)).2.2 ≠ 0
        · rw [if_pos h2]; exact ⟨rest, hr⟩
        · rw [if_neg h2]; exact ⟨rest ++ [m], by show (salv l m).2 ++ [m] = _; rw [hr, List.append_assoc]⟩

theorem all_salv (l : List UInt8) (f : Nat) : ∀ (at_ q : Nat) (ps : List Nat), salv l at_ = (q, ps) → q ≤ at_ → at_ ≤ l.length → l.length < at_ + f →
    ∃ rest, places l = ps ++ (allG l f at_).1 ++ rest ∧ ((allG l f at_).2.2 = 0 → rest = []) := by
  induction f with
  | zero => intro at_ q ps h hq h1 h2; omega
  | succ f ih =>
    intro at_ q ps h hq h1 h2
    by_cases hlt : at_ < l.length
    · by_cases hz : (openF (l.drop at_)).2.2 ≠ 0
      · have e : allG l (f + 1) at_ = ([], at_, (openF (l.drop at_)).2.2) := by
          show (if _ then _ else _) = _
          rw [if_pos hlt, if_pos hz]
        obtain ⟨rest, hr⟩ := salv_prefix l at_ q ps h l.length h1
        refine ⟨rest, by rw [e]; unfold places; rw [hr]; simp, fun h0 => ?_⟩
        rw [e] at h0
        exact absurd h0 hz
      · have hz0 : (openF (l.drop at_)).2.2 = 0 := by omega
        have e : allG l (f + 1) at_ = (at_ :: (allG l f (at_ + (openF (l.drop at_)).2.1)).1, (allG l f (at_ + (openF (l.drop at_)).2.1)).2) := by
          show (if _ then _ else _) = _
          rw [if_pos hlt, if_neg hz]
        have hpos := openF_pos (l.drop at_) hz0
        have hle := openF_le (l.drop at_)
        rw [List.length_drop] at hle
        have hs := salv_hit l at_ (openF (l.drop at_)).2.1 (openF (l.drop at_)).1 q ps h hq (by rw [← hz0]) (by omega)
        obtain ⟨rest, hr, h0⟩ := ih _ _ _ hs (Nat.le_refl _) (by omega) (by omega)
        refine ⟨rest, by rw [e, hr]; simp, fun hc => h0 (by rw [e] at hc; exact hc)⟩
    · have e : allG l (f + 1) at_ = ([], at_, 0) := by
        show (if _ then _ else _) = _
        rw [if_neg hlt]
      refine ⟨[], ?_, fun _ => rfl⟩
      rw [e]
      unfold places
      rw [show l.length = at_ by omega, h]
      simp

theorem all_places (l : List UInt8) : ∃ rest, places l = (allG l (l.length + 1) 0).1 ++ rest ∧ ((allG l (l.length + 1) 0).2.2 = 0 → rest = []) := by
  obtain ⟨rest, h1, h2⟩ := all_salv l (l.length + 1) 0 0 [] rfl (Nat.le_refl _) (Nat.zero_le _) (by omega)
  exact ⟨rest, by simpa using h1, h2⟩

end Go.Proofs.YtmekpmboghmfpaaDoor
