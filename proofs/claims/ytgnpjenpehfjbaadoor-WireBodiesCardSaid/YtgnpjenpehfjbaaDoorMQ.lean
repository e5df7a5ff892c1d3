/- Wire: Decode, next (by program: wip/tools/gen_wire34.py). -/
import Derived.Test.YtgnpjenpehfjbaaDoorMR
import Derived.Test.YtgnpjenpehfjbaaDoorMH
set_option linter.unusedSimpArgs false
set_option linter.unusedVariables false
namespace Go.Proofs.YtgnpjenpehfjbaaDoor
open Go.RowKit

def decodeP (l : List UInt8) : Pkt × Nat := if (openF l).2.2 ≠ 0 then (zeroP, (openF l).2.2) else if (openF l).2.1 ≠ l.length then (zeroP, 20) else openP (openF l).1
def nextP (l : List UInt8) : Pkt × Nat × Nat := if (openF l).2.2 ≠ 0 then (zeroP, 0, (openF l).2.2) else ((openP (openF l).1).1, (openF l).2.1, (openP (openF l).1).2)
theorem openF_len (l : List UInt8) : (openF l).1.length ≤ l.length ∧ (openF l).2.1 ≤ l.length ∧ ((openF l).2.2 = 0 → 8 ≤ (openF l).2.1) := by
  unfold openF
  split
  · simp
  · split
    · simp
    · split
      · simp
      · split
        · simp
        · refine ⟨by simp; omega, by simp only; omega, fun _ => by simp⟩
theorem OwnX.below {w w' : World} {B : Nat} {v : Value} {xs : List Itm} (h : OwnX w B v xs) (hb : Below w.heap.size w w') : OwnX w' B v xs :=
  World.ownsRow.kept h (row := none) ⟨hb.os, hb.tape, hb.output, hb.size, fun k hk _ => hb.block k hk⟩ (by
    cases hv : v.ownBlock with
    | none => exact .inl rfl
    | some k => exact .inr (by simp))

set_option maxRecDepth 100000 in
set_option maxHeartbeats 2000000 in
theorem decode_any (v : Value) (l : List UInt8) (w : World) (hb : Bts w w.heap.size v l) (hl : l.length ≤ 100000000) (ht : TabOK w) :
    Calls Tryd.prog 22 #[v] w fun e w' => ∃ (p : Pkt) (u : Value), e = .returned (.tuple #[.agg (p.cells u).toArray, .int .i64 ((decodeP l).2 : Nat)]) ∧ OwnX w' w.heap.size u p.items ∧ p = (decodeP l).1 ∧ Below w.heap.size w w' := by
  by_cases hfe0 : (openF l).2.2 = 0
  case neg =>
    have hd : decodeP l = (zeroP, (openF l).2.2) := by unfold decodeP; rw [if_pos hfe0]
    rw [hd]
    refine (decode_err v l w hb ht _ rfl hfe0).mono ?_
    rintro e w' ⟨rfl, hB⟩
    exact ⟨zeroP, .slice none 0 0, rfl, World.ownsRow_nil _ _ _ _, rfl, hB⟩
  obtain ⟨⟨dp, dc⟩, hD⟩ : ∃ R, R = decodeP l := ⟨_, rfl⟩
  rw [← hD]
  dsimp only
  have HD0 := Lib.hid hD
  clear hD
  have HB := Lib.hid hb
  have HL := Lib.hid hl
  obtain ⟨ba, bc, hv, -⟩ := id hb
  obtain ⟨nb, hnb⟩ : ∃ n, n = l.length := ⟨_, rfl⟩
  rw [← hnb] at hv
  subst hv
  have HNB := Lib.hid hnb
  obtain ⟨g0, k0⟩ := new_block w (.cells #[.int .i64 0, .int .i64 0, .int .i64 0, .int .i64 0, .int .i64 0, .int .i64 0, .int .i64 0, .slice none 0 0] 24)
  have hcon := seal_Open (.slice ba nb bc) l (w.alloc (.cells #[.int .i64 0, .int .i64 0, .int .i64 0, .int .i64 0, .int .i64 0, .int .i64 0, .int .i64 0, .slice none 0 0] 24)) (hb.below g0 g0.size) (ht.below g0 ht.lt)
  have LB := Lib.hid g0
  have KB := Lib.hid k0
  obtain ⟨⟨bo, fn, fe⟩, hF⟩ : ∃ R, R = openF l := ⟨_, rfl⟩
  rw [← hF] at hcon
  dsimp only at hcon
  have HF := Lib.hid hF
  have HCON := Lib.hid hcon
  clear g0 k0 hb hl hnb hcon hF ht
  have hfe : fe = 0 := by rw [← HF.out] at hfe0; exact hfe0
  have HDP : Hid (decodeP l = if fn ≠ l.length then (zeroP, 20) else openP bo) := by show _ = _; unfold decodeP; rw [← HF.out]; simp only; rw [if_neg (by simp [hfe])]
  have HBL : Hid (bo.length ≤ l.length) := by show _ ≤ _; have := (openF_len l).1; rw [← HF.out] at this; exact this
  subst hfe
  clear hfe0
  go_enter Tryd.func22, Tryd.ntmps22
  go_wp2_with (fail)
  with_reducible refine HCON.out.mono ?_
  rintro x w1 ⟨v', rfl, ho, hB⟩
  obtain ⟨ab, capb, hvb, -⟩ := ho.bts
  obtain ⟨m, hm⟩ : ∃ m, m = bo.length := ⟨_, rfl⟩
  rw [← hm] at hvb
  subst hvb
  have L1 := Lib.hid (LB.out.trans (hB.mono LB.out.size))
  have KF := Lib.hid (stays KB.out hB)
  have HBO := Lib.hid ho.bts
  have HSZ1 : Hid (w.heap.size < w1.heap.size) := (Array.getElem?_eq_some_iff.1 KF.out).1
  clear HCON ho hm hB LB KB

  by_cases hn : fn = nb
  case neg =>
    have hne : ¬ ((fn : Int) = (nb : Int)) := by omega
    have hD : (dp, dc) = (zeroP, 20) := by rw [HD0.out, HDP.out, if_pos (by rw [← HNB.out]; exact hn)]
    have HE : Hid (dp = zeroP ∧ dc = 20) := ⟨congrArg Prod.fst hD, congrArg Prod.snd hD⟩
    clear hD
    have KF2 := KF.out
    have c0 := cell_of_row _ _ 0 _ _ _ KF2
    have c1 := cell_of_row _ _ 1 _ _ _ KF2
    have c2 := cell_of_row _ _ 2 _ _ _ KF2
    have c3 := cell_of_row _ _ 3 _ _ _ KF2
    have c4 := cell_of_row _ _ 4 _ _ _ KF2
    have c5 := cell_of_row _ _ 5 _ _ _ KF2
    have c6 := cell_of_row _ _ 6 _ _ _ KF2
    have c7 := cell_of_row _ _ 7 _ _ _ KF2
    have z0 := frozen_of_row _ _ 0 _ _ KF2
    have z1 := frozen_of_row _ _ 1 _ _ KF2
    have z2 := frozen_of_row _ _ 2 _ _ KF2
    have z3 := frozen_of_row _ _ 3 _ _ KF2
    have z4 := frozen_of_row _ _ 4 _ _ KF2
    have z5 := frozen_of_row _ _ 5 _ _ KF2
    have z6 := frozen_of_row _ _ 6 _ _ KF2
    have z7 := frozen_of_row _ _ 7 _ _ KF2
    clear KF2
    go_wp2
    obtain ⟨WE, hWE⟩ : ∃ W, W = ((((((((w1.setCell ⟨w.heap.size, 0, none⟩ (.int .i64 0)).setCell ⟨w.heap.size, 1, none⟩ (.int .i64 0)).setCell ⟨w.heap.size, 2, none⟩ (.int .i64 0)).setCell ⟨w.heap.size, 3, none⟩ (.int .i64 0)).setCell ⟨w.heap.size, 4, none⟩ (.int .i64 0)).setCell ⟨w.heap.size, 5, none⟩ (.int .i64 0)).setCell ⟨w.heap.size, 6, none⟩ (.int .i64 0)).setCell ⟨w.heap.size, 7, none⟩ (.slice none 0 0)) := ⟨_, rfl⟩
    have KW : WE.heap[w.heap.size]? = some (.cells #[.int .i64 0, .int .i64 0, .int .i64 0, .int .i64 0, .int .i64 0, .int .i64 0, .int .i64 0, .slice none 0 0] 24 (0, 0)) := by
      rw [hWE]
      exact (set_block _ _ 7 _ _ _ (set_block _ _ 6 _ _ _ (set_block _ _ 5 _ _ _ (set_block _ _ 4 _ _ _ (set_block _ _ 3 _ _ _ (set_block _ _ 2 _ _ _ (set_block _ _ 1 _ _ _ (set_block _ _ 0 _ _ _ KF.out))))))))
    have LW : Below w.heap.size w WE := by
      rw [hWE]
      exact (bel_set (Nat.le_refl _) (bel_set (Nat.le_refl _) (bel_set (Nat.le_refl _) (bel_set (Nat.le_refl _) (bel_set (Nat.le_refl _) (bel_set (Nat.le_refl _) (bel_set (Nat.le_refl _) (bel_set (Nat.le_refl _) L1.out))))))))

    rw [← hWE]
    clear hWE
    clear c0 c1 c2 c3 c4 c5 c6 c7 z0 z1 z2 z3 z4 z5 z6 z7
    have c0 := cell_of_row _ _ 0 _ _ _ KW
    have c1 := cell_of_row _ _ 1 _ _ _ KW
    have c2 := cell_of_row _ _ 2 _ _ _ KW
    have c3 := cell_of_row _ _ 3 _ _ _ KW
    have c4 := cell_of_row _ _ 4 _ _ _ KW
    have c5 := cell_of_row _ _ 5 _ _ _ KW
    have c6 := cell_of_row _ _ 6 _ _ _ KW
    have c7 := cell_of_row _ _ 7 _ _ _ KW
    exact bodyPost_ret (v := .tuple #[.agg #[.int .i64 0, .int .i64 0, .int .i64 0, .int .i64 0, .int .i64 0, .int .i64 0, .int .i64 0, .slice none 0 0], .int .i64 20]) (by simp [results, Tryd.results22, go_sem, *]) rfl ⟨zeroP, .slice none 0 0, by rw [HE.out.2]; rfl, World.ownsRow_nil _ _ _ _, HE.out.1.symm, LW⟩
  have hnn : (fn : Int) = (nb : Int) := by omega
  have hD : (dp, dc) = openP bo := by rw [HD0.out, HDP.out, if_neg (by rw [← HNB.out, hn]; simp)]
  have HE : Hid (dp = (openP bo).1 ∧ dc = (openP bo).2) := ⟨congrArg Prod.fst hD, congrArg Prod.snd hD⟩
  clear hD
  have HBL' := HBL
  replace HBL : Hid (bo.length ≤ 100000000 ∧ True) := ⟨Nat.le_trans HBL'.out HL.out, trivial⟩
  clear HDP hn
  have hcon := Lib.hid (open_any (.slice ab m capb) bo w1 HBO.out HBL.out.1)
  go_wp2_with (fail)
  with_reducible refine hcon.out.mono ?_
  rintro x w2 ⟨p, u, rfl, hi, hp, hB⟩
  have L2 := Lib.hid (L1.out.trans (hB.mono L1.out.size))
  have KF2 := stays KF.out hB
  have KG := Lib.hid KF2
  obtain ⟨k0, k1, k2, k3, k4, k5, k6, xs⟩ := p
  obtain ⟨au, cu, hu⟩ := owns_form hi
  obtain ⟨m, hm⟩ : ∃ m, m = xs.length := ⟨_, rfl⟩
  rw [← hm] at hu
  subst hu
  have HI := Lib.hid hi
  have HP := Lib.hid hp
  clear hcon hi hp hB hm
  have c0 := cell_of_row _ _ 0 _ _ _ KF2
  have c1 := cell_of_row _ _ 1 _ _ _ KF2
  have c2 := cell_of_row _ _ 2 _ _ _ KF2
  have c3 := cell_of_row _ _ 3 _ _ _ KF2
  have c4 := cell_of_row _ _ 4 _ _ _ KF2
  have c5 := cell_of_row _ _ 5 _ _ _ KF2
  have c6 := cell_of_row _ _ 6 _ _ _ KF2
  have c7 := cell_of_row _ _ 7 _ _ _ KF2
  have z0 := frozen_of_row _ _ 0 _ _ KF2
  have z1 := frozen_of_row _ _ 1 _ _ KF2
  have z2 := frozen_of_row _ _ 2 _ _ KF2
  have z3 := frozen_of_row _ _ 3 _ _ KF2
  have z4 := frozen_of_row _ _ 4 _ _ KF2
  have z5 := frozen_of_row _ _ 5 _ _ KF2
  have z6 := frozen_of_row _ _ 6 _ _ KF2
  have z7 := frozen_of_row _ _ 7 _ _ KF2
  clear KF2
  go_wp2
  obtain ⟨WE, hWE⟩ : ∃ W, W = ((((((((w2.setCell ⟨w.heap.size, 0, none⟩ (.int .i64 k0)).setCell ⟨w.heap.size, 1, none⟩ (.int .i64 k1)).setCell ⟨w.heap.size, 2, none⟩ (.int .i64 k2)).setCell ⟨w.heap.size, 3, none⟩ (.int .i64 k3)).setCell ⟨w.heap.size, 4, none⟩ (.int .i64 k4)).setCell ⟨w.heap.size, 5, none⟩ (.int .i64 k5)).setCell ⟨w.heap.size, 6, none⟩ (.int .i64 k6)).setCell ⟨w.heap.size, 7, none⟩ (.slice au m cu)) := ⟨_, rfl⟩
  have KW : WE.heap[w.heap.size]? = some (.cells #[.int .i64 k0, .int .i64 k1, .int .i64 k2, .int .i64 k3, .int .i64 k4, .int .i64 k5, .int .i64 k6, .slice au m cu] 24 (0, 0)) := by
    rw [hWE]
    exact (set_block _ _ 7 _ _ _ (set_block _ _ 6 _ _ _ (set_block _ _ 5 _ _ _ (set_block _ _ 4 _ _ _ (set_block _ _ 3 _ _ _ (set_block _ _ 2 _ _ _ (set_block _ _ 1 _ _ _ (set_block _ _ 0 _ _ _ KG.out))))))))
  have LW : Below w.heap.size w WE := by
    rw [hWE]
    exact (bel_set (Nat.le_refl _) (bel_set (Nat.le_refl _) (bel_set (Nat.le_refl _) (bel_set (Nat.le_refl _) (bel_set (Nat.le_refl _) (bel_set (Nat.le_refl _) (bel_set (Nat.le_refl _) (bel_set (Nat.le_refl _) L2.out))))))))
  have HIE : OwnX WE w.heap.size (.slice au m cu) xs := by
    have h8 := OwnX.sets HI.out [.int .i64 k0, .int .i64 k1, .int .i64 k2, .int .i64 k3, .int .i64 k4, .int .i64 k5, .int .i64 k6, .slice au m cu] 0 (b := w.heap.size) HSZ1.out
    rw [hWE]
    exact owns_mono h8 (Nat.le_of_lt HSZ1.out)
  rw [← hWE]
  clear hWE
  clear c0 c1 c2 c3 c4 c5 c6 c7 z0 z1 z2 z3 z4 z5 z6 z7
  have c0 := cell_of_row _ _ 0 _ _ _ KW
  have c1 := cell_of_row _ _ 1 _ _ _ KW
  have c2 := cell_of_row _ _ 2 _ _ _ KW
  have c3 := cell_of_row _ _ 3 _ _ _ KW
  have c4 := cell_of_row _ _ 4 _ _ _ KW
  have c5 := cell_of_row _ _ 5 _ _ _ KW
  have c6 := cell_of_row _ _ 6 _ _ _ KW
  have c7 := cell_of_row _ _ 7 _ _ _ KW
  exact bodyPost_ret (v := .tuple #[.agg #[.int .i64 k0, .int .i64 k1, .int .i64 k2, .int .i64 k3, .int .i64 k4, .int .i64 k5, .int .i64 k6, .slice au m cu], .int .i64 ((openP bo).2 : Nat)]) (by simp [results, Tryd.results22, go_sem, *]) rfl ⟨⟨k0, k1, k2, k3, k4, k5, k6, xs⟩, .slice au m cu, by rw [HE.out.2], HIE, by rw [HE.out.1]; exact HP.out, LW⟩

set_option maxRecDepth 100000 in
set_option maxHeartbeats 2000000 in
theorem next_any (v : Value) (l : List UInt8) (w : World) (hb : Bts w w.heap.size v l) (hl : l.length ≤ 100000000) (ht : TabOK w) :
    Calls Tryd.prog 49 #[v] w fun e w' => ∃ (p : Pkt) (u : Value), e = .returned (.tuple #[.agg (p.cells u).toArray, .int .i64 ((nextP l).2.1 : Nat), .int .i64 ((nextP l).2.2 : Nat)]) ∧ OwnX w' w.heap.size u p.items ∧ p = (nextP l).1 ∧ Below w.heap.size w w' := by
  obtain ⟨⟨dp, dn, dc⟩, hD⟩ : ∃ R, R = nextP l := ⟨_, rfl⟩
  rw [← hD]
  dsimp only
  have HD0 := Lib.hid hD
  clear hD
  have HB := Lib.hid hb
  have HL := Lib.hid hl
  obtain ⟨ba, bc, hv, -⟩ := id hb
  obtain ⟨nb, hnb⟩ : ∃ n, n = l.length := ⟨_, rfl⟩
  rw [← hnb] at hv
  subst hv
  have HNB := Lib.hid hnb
  obtain ⟨g0, k0⟩ := new_block w (.cells #[.int .i64 0, .int .i64 0, .int .i64 0, .int .i64 0, .int .i64 0, .int .i64 0, .int .i64 0, .slice none 0 0] 24)
  have hcon := seal_Open (.slice ba nb bc) l (w.alloc (.cells #[.int .i64 0, .int .i64 0, .int .i64 0, .int .i64 0, .int .i64 0, .int .i64 0, .int .i64 0, .slice none 0 0] 24)) (hb.below g0 g0.size) (ht.below g0 ht.lt)
  have LB := Lib.hid g0
  have KB := Lib.hid k0
  obtain ⟨⟨bo, fn, fe⟩, hF⟩ : ∃ R, R = openF l := ⟨_, rfl⟩
  rw [← hF] at hcon
  dsimp only at hcon
  have HF := Lib.hid hF
  have HCON := Lib.hid hcon
  clear g0 k0 hb hl hnb hcon hF ht
  have HDP : Hid (nextP l = if fe ≠ 0 then (zeroP, 0, fe) else ((openP bo).1, fn, (openP bo).2)) := by show _ = _; unfold nextP; rw [← HF.out]
  have HBL : Hid (bo.length ≤ 100000000 ∧ True) := ⟨Nat.le_trans (by have := (openF_len l).1; rw [← HF.out] at this; exact this) HL.out, trivial⟩
  go_enter Tryd.func49, Tryd.ntmps49
  go_wp2_with (fail)
  with_reducible refine HCON.out.mono ?_
  rintro x w1 ⟨v', rfl, ho, hB⟩
  obtain ⟨ab, capb, hvb, -⟩ := ho.bts
  obtain ⟨m, hm⟩ : ∃ m, m = bo.length := ⟨_, rfl⟩
  rw [← hm] at hvb
  subst hvb
  have L1 := Lib.hid (LB.out.trans (hB.mono LB.out.size))
  have KF := Lib.hid (stays KB.out hB)
  have HBO := Lib.hid ho.bts
  have HSZ1 : Hid (w.heap.size < w1.heap.size) := (Array.getElem?_eq_some_iff.1 KF.out).1
  clear HCON ho hm hB LB KB

  by_cases hfe : fe = 0
  case neg =>
    have hne : ¬ ((fe : Int) = 0) := by omega
    have hD : (dp, dn, dc) = (zeroP, 0, fe) := by rw [HD0.out, HDP.out, if_pos hfe]
    have HE : Hid (dp = zeroP ∧ dn = 0 ∧ dc = fe) := ⟨congrArg Prod.fst hD, congrArg (fun x => x.2.1) hD, congrArg (fun x => x.2.2) hD⟩
    clear hD
    have KF2 := KF.out
    have c0 := cell_of_row _ _ 0 _ _ _ KF2
    have c1 := cell_of_row _ _ 1 _ _ _ KF2
    have c2 := cell_of_row _ _ 2 _ _ _ KF2
    have c3 := cell_of_row _ _ 3 _ _ _ KF2
    have c4 := cell_of_row _ _ 4 _ _ _ KF2
    have c5 := cell_of_row _ _ 5 _ _ _ KF2
    have c6 := cell_of_row _ _ 6 _ _ _ KF2
    have c7 := cell_of_row _ _ 7 _ _ _ KF2
    have z0 := frozen_of_row _ _ 0 _ _ KF2
    have z1 := frozen_of_row _ _ 1 _ _ KF2
    have z2 := frozen_of_row _ _ 2 _ _ KF2
    have z3 := frozen_of_row _ _ 3 _ _ KF2
    have z4 := frozen_of_row _ _ 4 _ _ KF2
    have z5 := frozen_of_row _ _ 5 _ _ KF2
    have z6 := frozen_of_row _ _ 6 _ _ KF2
    have z7 := frozen_of_row _ _ 7 _ _ KF2
    clear KF2
    go_wp2
    obtain ⟨WE, hWE⟩ : ∃ W, W = ((((((((w1.setCell ⟨w.heap.size, 0, none⟩ (.int .i64 0)).setCell ⟨w.heap.size, 1, none⟩ (.int .i64 0)).setCell ⟨w.heap.size, 2, none⟩ (.int .i64 0)).setCell ⟨w.heap.size, 3, none⟩ (.int .i64 0)).setCell ⟨w.heap.size, 4, none⟩ (.int .i64 0)).setCell ⟨w.heap.size, 5, none⟩ (.int .i64 0)).setCell ⟨w.heap.size, 6, none⟩ (.int .i64 0)).setCell ⟨w.heap.size, 7, none⟩ (.slice none 0 0)) := ⟨_, rfl⟩
    have KW : WE.heap[w.heap.size]? = some (.cells #[.int .i64 0, .int .i64 0, .int .i64 0, .int .i64 0, .int .i64 0, .int .i64 0, .int .i64 0, .slice none 0 0] 24 (0, 0)) := by
      rw [hWE]
      exact (set_block _ _ 7 _ _ _ (set_block _ _ 6 _ _ _ (set_block _ _ 5 _ _ _ (set_block _ _ 4 _ _ _ (set_block _ _ 3 _ _ _ (set_block _ _ 2 _ _ _ (set_block _ _ 1 _ _ _ (set_block _ _ 0 _ _ _ KF.out))))))))
    have LW : Below w.heap.size w WE := by
      rw [hWE]
      exact (bel_set (Nat.le_refl _) (bel_set (Nat.le_refl _) (bel_set (Nat.le_refl _) (bel_set (Nat.le_refl _) (bel_set (Nat.le_refl _) (bel_set (Nat.le_refl _) (bel_set (Nat.le_refl _) (bel_set (Nat.le_refl _) L1.out))))))))

    rw [← hWE]
    clear hWE
    clear c0 c1 c2 c3 c4 c5 c6 c7 z0 z1 z2 z3 z4 z5 z6 z7
    have c0 := cell_of_row _ _ 0 _ _ _ KW
    have c1 := cell_of_row _ _ 1 _ _ _ KW
    have c2 := cell_of_row _ _ 2 _ _ _ KW
    have c3 := cell_of_row _ _ 3 _ _ _ KW
    have c4 := cell_of_row _ _ 4 _ _ _ KW
    have c5 := cell_of_row _ _ 5 _ _ _ KW
    have c6 := cell_of_row _ _ 6 _ _ _ KW
    have c7 := cell_of_row _ _ 7 _ _ _ KW
    exact bodyPost_ret (v := .tuple #[.agg #[.int .i64 0, .int .i64 0, .int .i64 0, .int .i64 0, .int .i64 0, .int .i64 0, .int .i64 0, .slice none 0 0], .int .i64 0, .int .i64 (fe : Nat)]) (by simp [results, Tryd.results49, go_sem, *]) rfl ⟨zeroP, .slice none 0 0, by rw [HE.out.2.1, HE.out.2.2]; rfl, World.ownsRow_nil _ _ _ _, HE.out.1.symm, LW⟩
  have hD : (dp, dn, dc) = ((openP bo).1, fn, (openP bo).2) := by rw [HD0.out, HDP.out, if_neg (by simp [hfe])]
  have HE : Hid (dp = (openP bo).1 ∧ dn = fn ∧ dc = (openP bo).2) := ⟨congrArg Prod.fst hD, congrArg (fun x => x.2.1) hD, congrArg (fun x => x.2.2) hD⟩
  clear hD
  subst hfe
  clear HDP
  have hcon := Lib.hid (open_any (.slice ab m capb) bo w1 HBO.out HBL.out.1)
  go_wp2_with (fail)
  with_reducible refine hcon.out.mono ?_
  rintro x w2 ⟨p, u, rfl, hi, hp, hB⟩
  have L2 := Lib.hid (L1.out.trans (hB.mono L1.out.size))
  have KF2 := stays KF.out hB
  have KG := Lib.hid KF2
  obtain ⟨k0, k1, k2, k3, k4, k5, k6, xs⟩ := p
  obtain ⟨au, cu, hu⟩ := owns_form hi
  obtain ⟨m, hm⟩ : ∃ m, m = xs.length := ⟨_, rfl⟩
  rw [← hm] at hu
  subst hu
  have HI := Lib.hid hi
  have HP := Lib.hid hp
  clear hcon hi hp hB hm
  obtain ⟨gA, kA⟩ := new_block w2 (.cells #[.int .i64 k0, .int .i64 k1, .int .i64 k2, .int .i64 k3, .int .i64 k4, .int .i64 k5, .int .i64 k6, .slice au m cu] 24)
  have KF3 := stays KF2 gA
  have KH := Lib.hid KF3
  have L3 := Lib.hid (L2.out.trans (gA.mono L2.out.size))
  have HI3 := Lib.hid (HI.out.below gA)
  have c0 := cell_of_row _ _ 0 _ _ _ KF3
  have c1 := cell_of_row _ _ 1 _ _ _ KF3
  have c2 := cell_of_row _ _ 2 _ _ _ KF3
  have c3 := cell_of_row _ _ 3 _ _ _ KF3
  have c4 := cell_of_row _ _ 4 _ _ _ KF3
  have c5 := cell_of_row _ _ 5 _ _ _ KF3
  have c6 := cell_of_row _ _ 6 _ _ _ KF3
  have c7 := cell_of_row _ _ 7 _ _ _ KF3
  have z0 := frozen_of_row _ _ 0 _ _ KF3
  have z1 := frozen_of_row _ _ 1 _ _ KF3
  have z2 := frozen_of_row _ _ 2 _ _ KF3
  have z3 := frozen_of_row _ _ 3 _ _ KF3
  have z4 := frozen_of_row _ _ 4 _ _ KF3
  have z5 := frozen_of_row _ _ 5 _ _ KF3
  have z6 := frozen_of_row _ _ 6 _ _ KF3
  have z7 := frozen_of_row _ _ 7 _ _ KF3
  clear KF2 KF3 gA kA
  go_wp2
  obtain ⟨WE, hWE⟩ : ∃ W, W = (((((((((w2.alloc (.cells #[.int .i64 k0, .int .i64 k1, .int .i64 k2, .int .i64 k3, .int .i64 k4, .int .i64 k5, .int .i64 k6, .slice au m cu] 24)).setCell ⟨w.heap.size, 0, none⟩ (.int .i64 k0)).setCell ⟨w.heap.size, 1, none⟩ (.int .i64 k1)).setCell ⟨w.heap.size, 2, none⟩ (.int .i64 k2)).setCell ⟨w.heap.size, 3, none⟩ (.int .i64 k3)).setCell ⟨w.heap.size, 4, none⟩ (.int .i64 k4)).setCell ⟨w.heap.size, 5, none⟩ (.int .i64 k5)).setCell ⟨w.heap.size, 6, none⟩ (.int .i64 k6)).setCell ⟨w.heap.size, 7, none⟩ (.slice au m cu)) := ⟨_, rfl⟩
  have KW : WE.heap[w.heap.size]? = some (.cells #[.int .i64 k0, .int .i64 k1, .int .i64 k2, .int .i64 k3, .int .i64 k4, .int .i64 k5, .int .i64 k6, .slice au m cu] 24 (0, 0)) := by
    rw [hWE]
    exact (set_block _ _ 7 _ _ _ (set_block _ _ 6 _ _ _ (set_block _ _ 5 _ _ _ (set_block _ _ 4 _ _ _ (set_block _ _ 3 _ _ _ (set_block _ _ 2 _ _ _ (set_block _ _ 1 _ _ _ (set_block _ _ 0 _ _ _ KH.out))))))))
  have LW : Below w.heap.size w WE := by
    rw [hWE]
    exact (bel_set (Nat.le_refl _) (bel_set (Nat.le_refl _) (bel_set (Nat.le_refl _) (bel_set (Nat.le_refl _) (bel_set (Nat.le_refl _) (bel_set (Nat.le_refl _) (bel_set (Nat.le_refl _) (bel_set (Nat.le_refl _) L3.out))))))))
  have HIE : OwnX WE w.heap.size (.slice au m cu) xs := by
    have h8 := OwnX.sets HI3.out [.int .i64 k0, .int .i64 k1, .int .i64 k2, .int .i64 k3, .int .i64 k4, .int .i64 k5, .int .i64 k6, .slice au m cu] 0 (b := w.heap.size) HSZ1.out
    rw [hWE]
    exact owns_mono h8 (Nat.le_of_lt HSZ1.out)
  rw [← hWE]
  clear hWE
  clear c0 c1 c2 c3 c4 c5 c6 c7 z0 z1 z2 z3 z4 z5 z6 z7
  have c0 := cell_of_row _ _ 0 _ _ _ KW
  have c1 := cell_of_row _ _ 1 _ _ _ KW
  have c2 := cell_of_row _ _ 2 _ _ _ KW
  have c3 := cell_of_row _ _ 3 _ _ _ KW
  have c4 := cell_of_row _ _ 4 _ _ _ KW
  have c5 := cell_of_row _ _ 5 _ _ _ KW
  have c6 := cell_of_row _ _ 6 _ _ _ KW
  have c7 := cell_of_row _ _ 7 _ _ _ KW
  exact bodyPost_ret (v := .tuple #[.agg #[.int .i64 k0, .int .i64 k1, .int .i64 k2, .int .i64 k3, .int .i64 k4, .int .i64 k5, .int .i64 k6, .slice au m cu], .int .i64 (fn : Nat), .int .i64 ((openP bo).2 : Nat)]) (by simp [results, Tryd.results49, go_sem, *]) rfl ⟨⟨k0, k1, k2, k3, k4, k5, k6, xs⟩, .slice au m cu, by rw [HE.out.2.1, HE.out.2.2], HIE, by rw [HE.out.1]; exact HP.out, LW⟩

end Go.Proofs.YtgnpjenpehfjbaaDoor

