/- Wire: Decode, next (by program: wip/tools/gen_wire34.py).
Wire: All (by program: wip/tools/gen_wire35.py).
Wire: there and back (plain; by program: wip/tools/gen_wire36.py).
Wire: rows of packets; what WireBack's rounds keep (by program: wip/tools/gen_wireback.py). -/
import Derived.Test.YtgnpjenpehfjbaaDoorMR
import Derived.Test.YtgnpjenpehfjbaaDoorMH
import Derived.Test.YtgnpjenpehfjbaaDoorMN
import Derived.Test.YtgnpjenpehfjbaaDoorMO
set_option linter.unusedSimpArgs false
set_option linter.unusedVariables false
namespace Go.Proofs.YtgnpjenpehfjbaaDoor
open Go.RowKit

def decodeP (l : List UInt8) : Pkt × Nat := if (openF l).2.2 ≠ 0 then (zeroP, (openF l).2.2) else if (openF l).2.1 ≠ l.length then (zeroP, 20) else openP (openF l).1
def nextP (l : List UInt8) : Pkt × Nat × Nat := if (openF l).2.2 ≠ 0 then (zeroP, 0, (openF l).2.2) else ((openP (openF l).1).1, (openF l).2.1, (openP (openF l).1).2)
theorem openF_len (l : List UInt8) : (openF l).1.length ≤ l.length ∧ (openF l).2.1 ≤ l.length ∧ ((openF l).2.2 = 0 → 8 ≤ (openF l).2.1) := by
  unfold openF
  split
  · simp
  · split
    · simp
    · split
      · simp
      · split
        · simp
        · refine ⟨by simp; omega, by simp only; omega, fun _ => by simp⟩
theorem OwnX.below {w w' : World} {B : Nat} {v : Value} {xs : List Itm} (h : OwnX w B v xs) (hb : Below w.heap.size w w') : OwnX w' B v xs :=
  World.ownsRow.kept h (row := none) ⟨hb.os, hb.tape, hb.output, hb.size, fun k hk _ => hb.block k hk⟩ (by
    cases hv : v.ownBlock with
    | none => exact .inl rfl
    | some k => exact .inr (by simp))

set_option maxRecDepth 100000 in
set_option maxHeartbeats 2000000 in
theorem decode_any (v : Value) (l : List UInt8) (w : World) (hb : Bts w w.heap.size v l) (hl : l.length ≤ 100000000) (ht : TabOK w) :
    Calls Tryd.prog 22 #[v] w fun e w' => ∃ (p : Pkt) (u : Value), e = .returned (.tuple #[.agg (p.cells u).toArray, .int .i64 ((decodeP l).2 : Nat)]) ∧ OwnX w' w.heap.size u p.items ∧ p = (decodeP l).1 ∧ Below w.heap.size w w' := by
  by_cases hfe0 : (openF l).2.2 = 0
  case neg =>
    have hd : decodeP l = (zeroP, (openF l).2.2) := by unfold decodeP; rw [if_pos hfe0]
    rw [hd]
    refine (decode_err v l w hb ht _ rfl hfe0).mono ?_
    rintro e w' ⟨rfl, hB⟩
    exact ⟨zeroP, .slice none 0 0, rfl, World.ownsRow_nil _ _ _ _, rfl, hB⟩
  obtain ⟨⟨dp, dc⟩, hD⟩ : ∃ R, R = decodeP l := ⟨_, rfl⟩
  rw [← hD]
  dsimp only
  have HD0 := Lib.hid hD
  clear hD
  have HB := Lib.hid hb
  have HL := Lib.hid hl
  obtain ⟨ba, bc, hv, -⟩ := id hb
  obtain ⟨nb, hnb⟩ : ∃ n, n = l.length := ⟨_, rfl⟩
  rw [← hnb] at hv
  subst hv
  have HNB := Lib.hid hnb
  obtain ⟨g0, k0⟩ := new_block w (.cells #[.int .i64 0, .int .i64 0, .int .i64 0, .int .i64 0, .int .i64 0, .int .i64 0, .int .i64 0, .slice none 0 0] 24)
  have hcon := seal_Open (.slice ba nb bc) l (w.alloc (.cells #[.int .i64 0, .int .i64 0, .int .i64 0, .int .i64 0, .int .i64 0, .int .i64 0, .int .i64 0, .slice none 0 0] 24)) (hb.below g0 g0.size) (ht.below g0 ht.lt)
  have LB := Lib.hid g0
  have KB := Lib.hid k0
  obtain ⟨⟨bo, fn, fe⟩, hF⟩ : ∃ R, R = openF l := ⟨_, rfl⟩
  rw [← hF] at hcon
  dsimp only at hcon
  have HF := Lib.hid hF
  have HCON := Lib.hid hcon
  clear g0 k0 hb hl hnb hcon hF ht
  have hfe : fe = 0 := by rw [← HF.out] at hfe0; exact hfe0
  have HDP : Hid (decodeP l = if fn ≠ l.length then (zeroP, 20) else openP bo) := by show _ = _; unfold decodeP; rw [← HF.out]; simp only; rw [if_neg (by simp [hfe])]
  have HBL : Hid (bo.length ≤ l.length) := by show _ ≤ _; have := (openF_len l).1; rw [← HF.out] at this; exact this
  subst hfe
  clear hfe0
  go_enter Tryd.func22, Tryd.ntmps22
  go_wp2_with (fail)
  with_reducible refine HCON.out.mono ?_
  rintro x w1 ⟨v', rfl, ho, hB⟩
  obtain ⟨ab, capb, hvb, -⟩ := ho.bts
  obtain ⟨m, hm⟩ : ∃ m, m = bo.length := ⟨_, rfl⟩
  rw [← hm] at hvb
  subst hvb
  have L1 := Lib.hid (LB.out.trans (hB.mono LB.out.size))
  have KF := Lib.hid (stays KB.out hB)
  have HBO := Lib.hid ho.bts
  have HSZ1 : Hid (w.heap.size < w1.heap.size) := (Array.getElem?_eq_some_iff.1 KF.out).1
  clear HCON ho hm hB LB KB

  by_cases hn : fn = nb
  case neg =>
    have hne : ¬ ((fn : Int) = (nb : Int)) := by omega
    have hD : (dp, dc) = (zeroP, 20) := by rw [HD0.out, HDP.out, if_pos (by rw [← HNB.out]; exact hn)]
    have HE : Hid (dp = zeroP ∧ dc = 20) := ⟨congrArg Prod.fst hD, congrArg Prod.snd hD⟩
    clear hD
    have KF2 := KF.out
    have c0 := cell_of_row _ _ 0 _ _ _ KF2
    have c1 := cell_of_row _ _ 1 _ _ _ KF2
    have c2 := cell_of_row _ _ 2 _ _ _ KF2
    have c3 := cell_of_row _ _ 3 _ _ _ KF2
    have c4 := cell_of_row _ _ 4 _ _ _ KF2
    have c5 := cell_of_row _ _ 5 _ _ _ KF2
    have c6 := cell_of_row _ _ 6 _ _ _ KF2
    have c7 := cell_of_row _ _ 7 _ _ _ KF2
    have z0 := frozen_of_row _ _ 0 _ _ KF2
    have z1 := frozen_of_row _ _ 1 _ _ KF2
    have z2 := frozen_of_row _ _ 2 _ _ KF2
    have z3 := frozen_of_row _ _ 3 _ _ KF2
    have z4 := frozen_of_row _ _ 4 _ _ KF2
    have z5 := frozen_of_row _ _ 5 _ _ KF2
    have z6 := frozen_of_row _ _ 6 _ _ KF2
    have z7 := frozen_of_row _ _ 7 _ _ KF2
    clear KF2
    go_wp2
    obtain ⟨WE, hWE⟩ : ∃ W, W = ((((((((w1.setCell ⟨w.heap.size, 0, none⟩ (.int .i64 0)).setCell ⟨w.heap.size, 1, none⟩ (.int .i64 0)).setCell ⟨w.heap.size, 2, none⟩ (.int .i64 0)).setCell ⟨w.heap.size, 3, none⟩ (.int .i64 0)).setCell ⟨w.heap.size, 4, none⟩ (.int .i64 0)).setCell ⟨w.heap.size, 5, none⟩ (.int .i64 0)).setCell ⟨w.heap.size, 6, none⟩ (.int .i64 0)).setCell ⟨w.heap.size, 7, none⟩ (.slice none 0 0)) := ⟨_, rfl⟩
    have KW : WE.heap[w.heap.size]? = some (.cells #[.int .i64 0, .int .i64 0, .int .i64 0, .int .i64 0, .int .i64 0, .int .i64 0, .int .i64 0, .slice none 0 0] 24 (0, 0)) := by
      rw [hWE]
      exact (set_block _ _ 7 _ _ _ (set_block _ _ 6 _ _ _ (set_block _ _ 5 _ _ _ (set_block _ _ 4 _ _ _ (set_block _ _ 3 _ _ _ (set_block _ _ 2 _ _ _ (set_block _ _ 1 _ _ _ (set_block _ _ 0 _ _ _ KF.out))))))))
    have LW : Below w.heap.size w WE := by
      rw [hWE]
      exact (bel_set (Nat.le_refl _) (bel_set (Nat.le_refl _) (bel_set (Nat.le_refl _) (bel_set (Nat.le_refl _) (bel_set (Nat.le_refl _) (bel_set (Nat.le_refl _) (bel_set (Nat.le_refl _) (bel_set (Nat.le_refl _) L1.out))))))))

    rw [← hWE]
    clear hWE
    clear c0 c1 c2 c3 c4 c5 c6 c7 z0 z1 z2 z3 z4 z5 z6 z7
    have c0 := cell_of_row _ _ 0 _ _ _ KW
    have c1 := cell_of_row _ _ 1 _ _ _ KW
    have c2 := cell_of_row _ _ 2 _ _ _ KW
    have c3 := cell_of_row _ _ 3 _ _ _ KW
    have c4 := cell_of_row _ _ 4 _ _ _ KW
    have c5 := cell_of_row _ _ 5 _ _ _ KW
    have c6 := cell_of_row _ _ 6 _ _ _ KW
    have c7 := cell_of_row _ _ 7 _ _ _ KW
    exact bodyPost_ret (v := .tuple #[.agg #[.int .i64 0, .int .i64 0, .int .i64 0, .int .i64 0, .int .i64 0, .int .i64 0, .int .i64 0, .slice none 0 0], .int .i64 20]) (by simp [results, Tryd.results22, go_sem, *]) rfl ⟨zeroP, .slice none 0 0, by rw [HE.out.2]; rfl, World.ownsRow_nil _ _ _ _, HE.out.1.symm, LW⟩
  have hnn : (fn : Int) = (nb : Int) := by omega
  have hD : (dp, dc) = openP bo := by rw [HD0.out, HDP.out, if_neg (by rw [← HNB.out, hn]; simp)]
  have HE : Hid (dp = (openP bo).1 ∧ dc = (openP bo).2) := ⟨congrArg Prod.fst hD, congrArg Prod.snd hD⟩
  clear hD
  have HBL' := HBL
  replace HBL : Hid (bo.length ≤ 100000000 ∧ True) := ⟨Nat.le_trans HBL'.out HL.out, trivial⟩
  clear HDP hn
  have hcon := Lib.hid (open_any (.slice ab m capb) bo w1 HBO.out HBL.out.1)
  go_wp2_with (fail)
  with_reducible refine hcon.out.mono ?_
  rintro x w2 ⟨p, u, rfl, hi, hp, hB⟩
  have L2 := Lib.hid (L1.out.trans (hB.mono L1.out.size))
  have KF2 := stays KF.out hB
  have KG := Lib.hid KF2
  obtain ⟨k0, k1, k2, k3, k4, k5, k6, xs⟩ := p
  obtain ⟨au, cu, hu⟩ := owns_form hi
  obtain ⟨m, hm⟩ : ∃ m, m = xs.length := ⟨_, rfl⟩
  rw [← hm] at hu
  subst hu
  have HI := Lib.hid hi
  have HP := Lib.hid hp
  clear hcon hi hp hB hm
  have c0 := cell_of_row _ _ 0 _ _ _ KF2
  have c1 := cell_of_row _ _ 1 _ _ _ KF2
  have c2 := cell_of_row _ _ 2 _ _ _ KF2
  have c3 := cell_of_row _ _ 3 _ _ _ KF2
  have c4 := cell_of_row _ _ 4 _ _ _ KF2
  have c5 := cell_of_row _ _ 5 _ _ _ KF2
  have c6 := cell_of_row _ _ 6 _ _ _ KF2
  have c7 := cell_of_row _ _ 7 _ _ _ KF2
  have z0 := frozen_of_row _ _ 0 _ _ KF2
  have z1 := frozen_of_row _ _ 1 _ _ KF2
  have z2 := frozen_of_row _ _ 2 _ _ KF2
  have z3 := frozen_of_row _ _ 3 _ _ KF2
  have z4 := frozen_of_row _ _ 4 _ _ KF2
  have z5 := frozen_of_row _ _ 5 _ _ KF2
  have z6 := frozen_of_row _ _ 6 _ _ KF2
  have z7 := frozen_of_row _ _ 7 _ _ KF2
  clear KF2
  go_wp2
  obtain ⟨WE, hWE⟩ : ∃ W, W = ((((((((w2.setCell ⟨w.heap.size, 0, none⟩ (.int .i64 k0)).setCell ⟨w.heap.size, 1, none⟩ (.int .i64 k1)).setCell ⟨w.heap.size, 2, none⟩ (.int .i64 k2)).setCell ⟨w.heap.size, 3, none⟩ (.int .i64 k3)).setCell ⟨w.heap.size, 4, none⟩ (.int .i64 k4)).setCell ⟨w.heap.size, 5, none⟩ (.int .i64 k5)).setCell ⟨w.heap.size, 6, none⟩ (.int .i64 k6)).setCell ⟨w.heap.size, 7, none⟩ (.slice au m cu)) := ⟨_, rfl⟩
  have KW : WE.heap[w.heap.size]? = some (.cells #[.int .i64 k0, .int .i64 k1, .int .i64 k2, .int .i64 k3, .int .i64 k4, .int .i64 k5, .int .i64 k6, .slice au m cu] 24 (0, 0)) := by
    rw [hWE]
    exact (set_block _ _ 7 _ _ _ (set_block _ _ 6 _ _ _ (set_block _ _ 5 _ _ _ (set_block _ _ 4 _ _ _ (set_block _ _ 3 _ _ _ (set_block _ _ 2 _ _ _ (set_block _ _ 1 _ _ _ (set_block _ _ 0 _ _ _ KG.out))))))))
  have LW : Below w.heap.size w WE := by
    rw [hWE]
    exact (bel_set (Nat.le_refl _) (bel_set (Nat.le_refl _) (bel_set (Nat.le_refl _) (bel_set (Nat.le_refl _) (bel_set (Nat.le_refl _) (bel_set (Nat.le_refl _) (bel_set (Nat.le_refl _) (bel_set (Nat.le_refl _) L2.out))))))))
  have HIE : OwnX WE w.heap.size (.slice au m cu) xs := by
    have h8 := OwnX.sets HI.out [.int .i64 k0, .int .i64 k1, .int .i64 k2, .int .i64 k3, .int .i64 k4, .int .i64 k5, .int .i64 k6, .slice au m cu] 0 (b := w.heap.size) HSZ1.out
    rw [hWE]
    exact owns_mono h8 (Nat.le_of_lt HSZ1.out)
  rw [← hWE]
  clear hWE
  clear c0 c1 c2 c3 c4 c5 c6 c7 z0 z1 z2 z3 z4 z5 z6 z7
  have c0 := cell_of_row _ _ 0 _ _ _ KW
  have c1 := cell_of_row _ _ 1 _ _ _ KW
  have c2 := cell_of_row _ _ 2 _ _ _ KW
  have c3 := cell_of_row _ _ 3 _ _ _ KW
  have c4 := cell_of_row _ _ 4 _ _ _ KW
  have c5 := cell_of_row _ _ 5 _ _ _ KW
  have c6 := cell_of_row _ _ 6 _ _ _ KW
  have c7 := cell_of_row _ _ 7 _ _ _ KW
  exact bodyPost_ret (v := .tuple #[.agg #[.int .i64 k0, .int .i64 k1, .int .i64 k2, .int .i64 k3, .int .i64 k4, .int .i64 k5, .int .i64 k6, .slice au m cu], .int .i64 ((openP bo).2 : Nat)]) (by simp [results, Tryd.results22, go_sem, *]) rfl ⟨⟨k0, k1, k2, k3, k4, k5, k6, xs⟩, .slice au m cu, by rw [HE.out.2], HIE, by rw [HE.out.1]; exact HP.out, LW⟩

set_option maxRecDepth 100000 in
set_option maxHeartbeats 2000000 in
theorem next_any (v : Value) (l : List UInt8) (w : World) (hb : Bts w w.heap.size v l) (hl : l.length ≤ 100000000) (ht : TabOK w) :
    Calls Tryd.prog 49 #[v] w fun e w' => ∃ (p : Pkt) (u : Value), e = .returned (.tuple #[.agg (p.cells u).toArray, .int .i64 ((nextP l).2.1 : Nat), .int .i64 ((nextP l).2.2 : Nat)]) ∧ OwnX w' w.heap.size u p.items ∧ p = (nextP l).1 ∧ Below w.heap.size w w' := by
  obtain ⟨⟨dp, dn, dc⟩, hD⟩ : ∃ R, R = nextP l := ⟨_, rfl⟩
  rw [← hD]
  dsimp only
  have HD0 := Lib.hid hD
  clear hD
  have HB := Lib.hid hb
  have HL := Lib.hid hl
  obtain ⟨ba, bc, hv, -⟩ := id hb
  obtain ⟨nb, hnb⟩ : ∃ n, n = l.length := ⟨_, rfl⟩
  rw [← hnb] at hv
  subst hv
  have HNB := Lib.hid hnb
  obtain ⟨g0, k0⟩ := new_block w (.cells #[.int .i64 0, .int .i64 0, .int .i64 0, .int .i64 0, .int .i64 0, .int .i64 0, .int .i64 0, .slice none 0 0] 24)
  have hcon := seal_Open (.slice ba nb bc) l (w.alloc (.cells #[.int .i64 0, .int .i64 0, .int .i64 0, .int .i64 0, .int .i64 0, .int .i64 0, .int .i64 0, .slice none 0 0] 24)) (hb.below g0 g0.size) (ht.below g0 ht.lt)
  have LB := Lib.hid g0
  have KB := Lib.hid k0
  obtain ⟨⟨bo, fn, fe⟩, hF⟩ : ∃ R, R = openF l := ⟨_, rfl⟩
  rw [← hF] at hcon
  dsimp only at hcon
  have HF := Lib.hid hF
  have HCON := Lib.hid hcon
  clear g0 k0 hb hl hnb hcon hF ht
  have HDP : Hid (nextP l = if fe ≠ 0 then (zeroP, 0, fe) else ((openP bo).1, fn, (openP bo).2)) := by show _ = _; unfold nextP; rw [← HF.out]
  have HBL : Hid (bo.length ≤ 100000000 ∧ True) := ⟨Nat.le_trans (by have := (openF_len l).1; rw [← HF.out] at this; exact this) HL.out, trivial⟩
  go_enter Tryd.func49, Tryd.ntmps49
  go_wp2_with (fail)
  with_reducible refine HCON.out.mono ?_
  rintro x w1 ⟨v', rfl, ho, hB⟩
  obtain ⟨ab, capb, hvb, -⟩ := ho.bts
  obtain ⟨m, hm⟩ : ∃ m, m = bo.length := ⟨_, rfl⟩
  rw [← hm] at hvb
  subst hvb
  have L1 := Lib.hid (LB.out.trans (hB.mono LB.out.size))
  have KF := Lib.hid (stays KB.out hB)
  have HBO := Lib.hid ho.bts
  have HSZ1 : Hid (w.heap.size < w1.heap.size) := (Array.getElem?_eq_some_iff.1 KF.out).1
  clear HCON ho hm hB LB KB

  by_cases hfe : fe = 0
  case neg =>
    have hne : ¬ ((fe : Int) = 0) := by omega
    have hD : (dp, dn, dc) = (zeroP, 0, fe) := by rw [HD0.out, HDP.out, if_pos hfe]
    have HE : Hid (dp = zeroP ∧ dn = 0 ∧ dc = fe) := ⟨congrArg Prod.fst hD, congrArg (fun x => x.2.1) hD, congrArg (fun x => x.2.2) hD⟩
    clear hD
    have KF2 := KF.out
    have c0 := cell_of_row _ _ 0 _ _ _ KF2
    have c1 := cell_of_row _ _ 1 _ _ _ KF2
    have c2 := cell_of_row _ _ 2 _ _ _ KF2
    have c3 := cell_of_row _ _ 3 _ _ _ KF2
    have c4 := cell_of_row _ _ 4 _ _ _ KF2
    have c5 := cell_of_row _ _ 5 _ _ _ KF2
    have c6 := cell_of_row _ _ 6 _ _ _ KF2
    have c7 := cell_of_row _ _ 7 _ _ _ KF2
    have z0 := frozen_of_row _ _ 0 _ _ KF2
    have z1 := frozen_of_row _ _ 1 _ _ KF2
    have z2 := frozen_of_row _ _ 2 _ _ KF2
    have z3 := frozen_of_row _ _ 3 _ _ KF2
    have z4 := frozen_of_row _ _ 4 _ _ KF2
    have z5 := frozen_of_row _ _ 5 _ _ KF2
    have z6 := frozen_of_row _ _ 6 _ _ KF2
    have z7 := frozen_of_row _ _ 7 _ _ KF2
    clear KF2
    go_wp2
    obtain ⟨WE, hWE⟩ : ∃ W, W = ((((((((w1.setCell ⟨w.heap.size, 0, none⟩ (.int .i64 0)).setCell ⟨w.heap.size, 1, none⟩ (.int .i64 0)).setCell ⟨w.heap.size, 2, none⟩ (.int .i64 0)).setCell ⟨w.heap.size, 3, none⟩ (.int .i64 0)).setCell ⟨w.heap.size, 4, none⟩ (.int .i64 0)).setCell ⟨w.heap.size, 5, none⟩ (.int .i64 0)).setCell ⟨w.heap.size, 6, none⟩ (.int .i64 0)).setCell ⟨w.heap.size, 7, none⟩ (.slice none 0 0)) := ⟨_, rfl⟩
    have KW : WE.heap[w.heap.size]? = some (.cells #[.int .i64 0, .int .i64 0, .int .i64 0, .int .i64 0, .int .i64 0, .int .i64 0, .int .i64 0, .slice none 0 0] 24 (0, 0)) := by
      rw [hWE]
      exact (set_block _ _ 7 _ _ _ (set_block _ _ 6 _ _ _ (set_block _ _ 5 _ _ _ (set_block _ _ 4 _ _ _ (set_block _ _ 3 _ _ _ (set_block _ _ 2 _ _ _ (set_block _ _ 1 _ _ _ (set_block _ _ 0 _ _ _ KF.out))))))))
    have LW : Below w.heap.size w WE := by
      rw [hWE]
      exact (bel_set (Nat.le_refl _) (bel_set (Nat.le_refl _) (bel_set (Nat.le_refl _) (bel_set (Nat.le_refl _) (bel_set (Nat.le_refl _) (bel_set (Nat.le_refl _) (bel_set (Nat.le_refl _) (bel_set (Nat.le_refl _) L1.out))))))))

    rw [← hWE]
    clear hWE
    clear c0 c1 c2 c3 c4 c5 c6 c7 z0 z1 z2 z3 z4 z5 z6 z7
    have c0 := cell_of_row _ _ 0 _ _ _ KW
    have c1 := cell_of_row _ _ 1 _ _ _ KW
    have c2 := cell_of_row _ _ 2 _ _ _ KW
    have c3 := cell_of_row _ _ 3 _ _ _ KW
    have c4 := cell_of_row _ _ 4 _ _ _ KW
    have c5 := cell_of_row _ _ 5 _ _ _ KW
    have c6 := cell_of_row _ _ 6 _ _ _ KW
    have c7 := cell_of_row _ _ 7 _ _ _ KW
    exact bodyPost_ret (v := .tuple #[.agg #[.int .i64 0, .int .i64 0, .int .i64 0, .int .i64 0, .int .i64 0, .int .i64 0, .int .i64 0, .slice none 0 0], .int .i64 0, .int .i64 (fe : Nat)]) (by simp [results, Tryd.results49, go_sem, *]) rfl ⟨zeroP, .slice none 0 0, by rw [HE.out.2.1, HE.out.2.2]; rfl, World.ownsRow_nil _ _ _ _, HE.out.1.symm, LW⟩
  have hD : (dp, dn, dc) = ((openP bo).1, fn, (openP bo).2) := by rw [HD0.out, HDP.out, if_neg (by simp [hfe])]
  have HE : Hid (dp = (openP bo).1 ∧ dn = fn ∧ dc = (openP bo).2) := ⟨congrArg Prod.fst hD, congrArg (fun x => x.2.1) hD, congrArg (fun x => x.2.2) hD⟩
  clear hD
  subst hfe
  clear HDP
  have hcon := Lib.hid (open_any (.slice ab m capb) bo w1 HBO.out HBL.out.1)
  go_wp2_with (fail)
  with_reducible refine hcon.out.mono ?_
  rintro x w2 ⟨p, u, rfl, hi, hp, hB⟩
  have L2 := Lib.hid (L1.out.trans (hB.mono L1.out.size))
  have KF2 := stays KF.out hB
  have KG := Lib.hid KF2
  obtain ⟨k0, k1, k2, k3, k4, k5, k6, xs⟩ := p
  obtain ⟨au, cu, hu⟩ := owns_form hi
  obtain ⟨m, hm⟩ : ∃ m, m = xs.length := ⟨_, rfl⟩
  rw [← hm] at hu
  subst hu
  have HI := Lib.hid hi
  have HP := Lib.hid hp
  clear hcon hi hp hB hm
  obtain ⟨gA, kA⟩ := new_block w2 (.cells #[.int .i64 k0, .int .i64 k1, .int .i64 k2, .int .i64 k3, .int .i64 k4, .int .i64 k5, .int .i64 k6, .slice au m cu] 24)
  have KF3 := stays KF2 gA
  have KH := Lib.hid KF3
  have L3 := Lib.hid (L2.out.trans (gA.mono L2.out.size))
  have HI3 := Lib.hid (HI.out.below gA)
  have c0 := cell_of_row _ _ 0 _ _ _ KF3
  have c1 := cell_of_row _ _ 1 _ _ _ KF3
  have c2 := cell_of_row _ _ 2 _ _ _ KF3
  have c3 := cell_of_row _ _ 3 _ _ _ KF3
  have c4 := cell_of_row _ _ 4 _ _ _ KF3
  have c5 := cell_of_row _ _ 5 _ _ _ KF3
  have c6 := cell_of_row _ _ 6 _ _ _ KF3
  have c7 := cell_of_row _ _ 7 _ _ _ KF3
  have z0 := frozen_of_row _ _ 0 _ _ KF3
  have z1 := frozen_of_row _ _ 1 _ _ KF3
  have z2 := frozen_of_row _ _ 2 _ _ KF3
  have z3 := frozen_of_row _ _ 3 _ _ KF3
  have z4 := frozen_of_row _ _ 4 _ _ KF3
  have z5 := frozen_of_row _ _ 5 _ _ KF3
  have z6 := frozen_of_row _ _ 6 _ _ KF3
  have z7 := frozen_of_row _ _ 7 _ _ KF3
  clear KF2 KF3 gA kA
  go_wp2
  obtain ⟨WE, hWE⟩ : ∃ W, W = (((((((((w2.alloc (.cells #[.int .i64 k0, .int .i64 k1, .int .i64 k2, .int .i64 k3, .int .i64 k4, .int .i64 k5, .int .i64 k6, .slice au m cu] 24)).setCell ⟨w.heap.size, 0, none⟩ (.int .i64 k0)).setCell ⟨w.heap.size, 1, none⟩ (.int .i64 k1)).setCell ⟨w.heap.size, 2, none⟩ (.int .i64 k2)).setCell ⟨w.heap.size, 3, none⟩ (.int .i64 k3)).setCell ⟨w.heap.size, 4, none⟩ (.int .i64 k4)).setCell ⟨w.heap.size, 5, none⟩ (.int .i64 k5)).setCell ⟨w.heap.size, 6, none⟩ (.int .i64 k6)).setCell ⟨w.heap.size, 7, none⟩ (.slice au m cu)) := ⟨_, rfl⟩
  have KW : WE.heap[w.heap.size]? = some (.cells #[.int .i64 k0, .int .i64 k1, .int .i64 k2, .int .i64 k3, .int .i64 k4, .int .i64 k5, .int .i64 k6, .slice au m cu] 24 (0, 0)) := by
    rw [hWE]
    exact (set_block _ _ 7 _ _ _ (set_block _ _ 6 _ _ _ (set_block _ _ 5 _ _ _ (set_block _ _ 4 _ _ _ (set_block _ _ 3 _ _ _ (set_block _ _ 2 _ _ _ (set_block _ _ 1 _ _ _ (set_block _ _ 0 _ _ _ KH.out))))))))
  have LW : Below w.heap.size w WE := by
    rw [hWE]
    exact (bel_set (Nat.le_refl _) (bel_set (Nat.le_refl _) (bel_set (Nat.le_refl _) (bel_set (Nat.le_refl _) (bel_set (Nat.le_refl _) (bel_set (Nat.le_refl _) (bel_set (Nat.le_refl _) (bel_set (Nat.le_refl _) L3.out))))))))
  have HIE : OwnX WE w.heap.size (.slice au m cu) xs := by
    have h8 := OwnX.sets HI3.out [.int .i64 k0, .int .i64 k1, .int .i64 k2, .int .i64 k3, .int .i64 k4, .int .i64 k5, .int .i64 k6, .slice au m cu] 0 (b := w.heap.size) HSZ1.out
    rw [hWE]
    exact owns_mono h8 (Nat.le_of_lt HSZ1.out)
  rw [← hWE]
  clear hWE
  clear c0 c1 c2 c3 c4 c5 c6 c7 z0 z1 z2 z3 z4 z5 z6 z7
  have c0 := cell_of_row _ _ 0 _ _ _ KW
  have c1 := cell_of_row _ _ 1 _ _ _ KW
  have c2 := cell_of_row _ _ 2 _ _ _ KW
  have c3 := cell_of_row _ _ 3 _ _ _ KW
  have c4 := cell_of_row _ _ 4 _ _ _ KW
  have c5 := cell_of_row _ _ 5 _ _ _ KW
  have c6 := cell_of_row _ _ 6 _ _ _ KW
  have c7 := cell_of_row _ _ 7 _ _ _ KW
  exact bodyPost_ret (v := .tuple #[.agg #[.int .i64 k0, .int .i64 k1, .int .i64 k2, .int .i64 k3, .int .i64 k4, .int .i64 k5, .int .i64 k6, .slice au m cu], .int .i64 (fn : Nat), .int .i64 ((openP bo).2 : Nat)]) (by simp [results, Tryd.results49, go_sem, *]) rfl ⟨⟨k0, k1, k2, k3, k4, k5, k6, xs⟩, .slice au m cu, by rw [HE.out.2.1, HE.out.2.2], HIE, by rw [HE.out.1]; exact HP.out, LW⟩

end Go.Proofs.YtgnpjenpehfjbaaDoor

namespace Go.Proofs.YtgnpjenpehfjbaaDoor
open Go.RowKit

def allR (l : List UInt8) : Nat → List Pkt → Nat → List Pkt × Nat × Nat
  | 0, ps, a => (ps, a, 0)
  | f + 1, ps, a => if a < l.length then (if (nextP (l.drop a)).2.2 ≠ 0 then (ps, a, (nextP (l.drop a)).2.2) else allR l f (ps ++ [(nextP (l.drop a)).1]) (a + (nextP (l.drop a)).2.1)) else (ps, a, 0)
def allP (l : List UInt8) : List Pkt × Nat × Nat := allR l (l.length + 1) [] 0
theorem nextP_len (l : List UInt8) (h : (nextP l).2.2 = 0) : 8 ≤ (nextP l).2.1 ∧ (nextP l).2.1 ≤ l.length := by
  unfold nextP at h ⊢
  obtain ⟨h1, h2, h3⟩ := openF_len l
  split at h
  · rename_i h4; exact absurd h h4
  · rename_i h4
    rw [if_neg h4]
    exact ⟨h3 (by simpa using h4), h2⟩
theorem info_pkt : (Tryd.prog.info? 24).map (fun i => (i.zero, i.size, i.bytes)) = some (some (.agg #[.int .i64 0, .int .i64 0, .int .i64 0, .int .i64 0, .int .i64 0, .int .i64 0, .int .i64 0, .slice none 0 0]), 8, 80) := by kernel_rfl
abbrev OwnQ (w : World) (B : Nat) (v : Value) (qs : List (Pkt × Value)) : Prop := w.ownsRow B 24 8 v qs.length (qs.flatMap fun q => q.1.cells q.2)
/-- behind some rounds of All -/
structure AI (w : World) (qs : List (Pkt × Value)) (lv : Value) (W : World) : Prop where
  low : Below w.heap.size w W
  own : OwnQ W w.heap.size lv qs
  its : ∀ q ∈ qs, OwnX W w.heap.size q.2 q.1.items
theorem AI.below {w : World} {qs : List (Pkt × Value)} {lv : Value} {W W' : World} (h : AI w qs lv W) (hb : Below W.heap.size W W') : AI w qs lv W' :=
  ⟨h.low.trans (hb.mono h.low.size), World.ownsRow.kept h.own (row := none) ⟨hb.os, hb.tape, hb.output, hb.size, fun k hk _ => hb.block k hk⟩ (by
    cases hv : lv.ownBlock with
    | none => exact .inl rfl
    | some k => exact .inr (by simp)), fun q hq => (h.its q hq).below hb⟩
theorem AI.appends {w : World} {qs : List (Pkt × Value)} {lv lv' : Value} {W W' : World} (h : AI w qs lv W) (p : Pkt) (u : Value) (hg : W.grownBy W' lv.ownBlock) (ho : OwnQ W' w.heap.size lv' (qs ++ [(p, u)])) (hi : OwnX W w.heap.size u p.items) : AI w (qs ++ [(p, u)]) lv' W' := by
  have key : ∀ {v : Value} {xs : List Itm}, OwnX W w.heap.size v xs → OwnX W' w.heap.size v xs := fun {v xs} hx => by
    refine World.ownsRow.kept hx hg ?_
    cases hv : v.ownBlock with
    | none => exact .inl rfl
    | some k =>
      refine .inr fun e => ?_
      obtain ⟨c, hc⟩ := owns_kind hx k hv
      obtain ⟨c', hc'⟩ := owns_kind h.own k e.symm
      rw [hc] at hc'
      cases hc'
  refine ⟨h.low.grown hg h.low.size (fun k e => (World.ownsRow.lt h.own k e).1), ho, fun q hq => ?_⟩
  rcases List.mem_append.1 hq with hq | hq
  · exact key (h.its q hq)
  · rw [List.mem_singleton] at hq
    subst hq
    exact key hi

set_option maxRecDepth 100000 in
set_option maxHeartbeats 2000000 in
theorem all_any (v : Value) (l : List UInt8) (w : World) (hb : Bts w w.heap.size v l) (hl : l.length ≤ 100000000) (ht : TabOK w) :
    Calls Tryd.prog 26 #[v] w fun e w' => ∃ (qs : List (Pkt × Value)) (lv : Value), e = .returned (.tuple #[lv, .int .i64 ((allP l).2.1 : Nat), .int .i64 ((allP l).2.2 : Nat)]) ∧ AI w qs lv w' ∧ qs.map Prod.fst = (allP l).1 := by
  obtain ⟨⟨rp, rn, re⟩, hR⟩ : ∃ R, R = allP l := ⟨_, rfl⟩
  rw [← hR]
  dsimp only
  have HR := Lib.hid hR
  have HB := Lib.hid hb
  have HL := Lib.hid hl
  have HT := Lib.hid ht
  obtain ⟨ba, bc, hv, -⟩ := id hb
  obtain ⟨nb, hnb⟩ : ∃ n, n = l.length := ⟨_, rfl⟩
  rw [← hnb] at hv
  subst hv
  have HNB := Lib.hid hnb
  have hnb2 : nb ≤ 100000000 := by omega
  clear hb hl hnb hR ht
  go_enter Tryd.func26, Tryd.ntmps26
  go_wp2_with (fail)
  go_loopw [5, 6] (fun lv av wr => ∃ (qs : List (Pkt × Value)) (ap f n cl : Nat) (al : Option Addr), lv = .slice al n cl ∧ av = .int .i64 (ap : Int) ∧ Hid (allR l f (qs.map Prod.fst) ap = allR l (l.length + 1) [] 0 ∧ l.length + 1 ≤ f + ap ∧ ap ≤ l.length ∧ n = qs.length ∧ qs.length ≤ ap) ∧ Hid (AI w qs (.slice al n cl) wr)) (fun _ av _ => nb - (intOf av).toNat)
  case atStart => exact ⟨[], 0, l.length + 1, 0, 0, none, rfl, rfl, ⟨rfl, by omega, by omega, rfl, by simp⟩, ⟨Below.refl _ _, World.ownsRow_nil _ _ _ _, fun q h => by cases h⟩⟩
  case round =>
    obtain ⟨qs, ap, f, n, cl, al, rfl, rfl, HX, HI⟩ := hrel
    have hal : ap ≤ nb := by rw [HNB.out]; exact HX.out.2.2.1
    obtain ⟨f, rfl⟩ : ∃ f', f = f' + 1 := ⟨f - 1, by have h1 := HX.out.2.1; have h2 := HX.out.2.2.1; omega⟩
    by_cases hlt : ap < nb
    · obtain ⟨⟨np, nn, ne⟩, hN⟩ : ∃ R, R = nextP (l.drop ap) := ⟨_, rfl⟩
      have HST : Hid (allR l (f + 1) (qs.map Prod.fst) ap = if ne ≠ 0 then (qs.map Prod.fst, ap, ne) else allR l f (qs.map Prod.fst ++ [np]) (ap + nn)) := by
        show _ = _
        rw [allR, if_pos (by have := HNB.out; omega), ← hN]
      have hnl := nextP_len (l.drop ap)
      rw [← hN, List.length_drop] at hnl
      dsimp only at hnl
      have HNL := Lib.hid hnl
      obtain ⟨vc, hbc, hcut0⟩ := HB.out.fromB ap HX.out.2.2.1
      have hcut := fun W => hcut0 W .i64
      have hcon := next_any vc (l.drop ap) wr (hbc.below HI.out.low HI.out.low.size) (by rw [List.length_drop]; have := HL.out; omega) (HT.out.below HI.out.low HT.out.lt)
      rw [← hN] at hcon
      dsimp only at hcon
      have HCON := Lib.hid hcon
      clear hN hnl hbc hcut0 hcon
      go_wp2_with (fail)
      with_reducible refine HCON.out.mono ?_
      rintro e w1 ⟨p, u, rfl, hi, hp, hB⟩
      have hi0 := owns_mono hi (show w.heap.size ≤ wr.heap.size from HI.out.low.size)
      obtain ⟨k0, k1, k2, k3, k4, k5, k6, xs⟩ := p
      obtain ⟨au, cu, hu⟩ := owns_form hi
      obtain ⟨mu, hmu⟩ : ∃ m, m = xs.length := ⟨_, rfl⟩
      rw [← hmu] at hu
      subst hu
      obtain ⟨g1, j1⟩ := new_block w1 (.cells #[.int .i64 k0, .int .i64 k1, .int .i64 k2, .int .i64 k3, .int .i64 k4, .int .i64 k5, .int .i64 k6, .slice au mu cu] 24)
      have HI1 := Lib.hid (HI.out.below (hB.trans (g1.mono hB.size)))
      have HX1 := Lib.hid (OwnX.below hi0 g1)
      have HP := Lib.hid hp
      clear hi hi0 hp hB hmu g1 j1 HCON hcut
      by_cases hne : ne = 0
      · have hne0 : (ne : Int) = 0 := by omega
        obtain ⟨wA, hwA⟩ : ∃ W, W = w1.alloc (.cells #[.int .i64 k0, .int .i64 k1, .int .i64 k2, .int .i64 k3, .int .i64 k4, .int .i64 k5, .int .i64 k6, .slice au mu cu] 24) := ⟨_, rfl⟩
        rw [← hwA] at HI1 HX1
        have HWA := Lib.hid hwA
        obtain ⟨g2, j2⟩ := new_block wA (.cells #[.int .i64 k0, .int .i64 k1, .int .i64 k2, .int .i64 k3, .int .i64 k4, .int .i64 k5, .int .i64 k6, .slice au mu cu] 24)
        have hi2 := HI1.out.below g2
        obtain ⟨i0, ji, jz0, jz1, jz2⟩ := info_parts info_pkt
        obtain ⟨gz, capz, W8, hrunz, nz, gz8, -⟩ := op_append_row 52 24 i0 _ 8 80 Tryd.underlying52 ji jz0 jz1 jz2 rfl (by decide) (wA.alloc (.cells #[.int .i64 k0, .int .i64 k1, .int .i64 k2, .int .i64 k3, .int .i64 k4, .int .i64 k5, .int .i64 k6, .slice au mu cu] 24)) w.heap.size (.slice al n cl) qs.length _ wA.heap.size 1 [.int .i64 k0, .int .i64 k1, .int .i64 k2, .int .i64 k3, .int .i64 k4, .int .i64 k5, .int .i64 k6, .slice au mu cu] hi2.own j2 rfl (by intro y hy; simp only [List.mem_cons, List.not_mem_nil, or_false] at hy; rcases hy with rfl | rfl | rfl | rfl | rfl | rfl | rfl | rfl <;> rfl) (by decide) (by have := HX.out.2.2.2.2; have := HX.out.2.2.1; have := HL.out; omega) (by have := HX.out.2.2.2.2; have := HX.out.2.2.1; have := HL.out; omega) hi2.low.size
        rw [← HX.out.2.2.2.1] at hrunz nz
        have nz' : OwnQ W8 w.heap.size (.slice (some ⟨gz, 0, none⟩) (n + 1) capz) (qs ++ [(⟨k0, k1, k2, k3, k4, k5, k6, xs⟩, .slice au mu cu)]) := by
          show World.ownsRow _ _ _ _ _ _ _
          rw [List.length_append, List.flatMap_append, ← HX.out.2.2.2.1]
          simp only [List.flatMap_cons, List.flatMap_nil, List.append_nil]
          exact nz
        have HI8 := Lib.hid (hi2.appends ⟨k0, k1, k2, k3, k4, k5, k6, xs⟩ (.slice au mu cu) gz8 nz' (OwnX.below HX1.out g2))
        rw [hwA] at hrunz
        simp only [World.size_alloc] at hrunz
        have HRZ := Lib.hid hrunz
        have hnn : ap + nn ≤ nb := by have := HNL.out hne; have := HNB.out; omega
        have hn8 : 8 ≤ nn := (HNL.out hne).1
        clear hwA g2 j2 hi2 ji jz0 jz1 jz2 nz nz' gz8 hrunz
        go_wp2_with (at_builtin; (refine wpList_run rfl (HRZ.out _ _ 27 29 rfl rfl rfl rfl) ?_))
        go_roundw
        case rel => exact ⟨qs ++ [(⟨k0, k1, k2, k3, k4, k5, k6, xs⟩, .slice au mu cu)], ap + nn, f, n + 1, capz, some ⟨gz, 0, none⟩, rfl, by go_num, (by
          have h1 := HX.out
          refine ⟨?_, by omega, by have := HNB.out; omega, by simp [h1.2.2.2.1], by simp; omega⟩
          rw [← h1.1, HST.out, if_neg (by simp [hne]), List.map_append]
          rw [show (List.map Prod.fst [((⟨k0, k1, k2, k3, k4, k5, k6, xs⟩ : Pkt), Value.slice au mu cu)]) = [np] from by rw [← HP.out]; rfl]), HI8⟩
        case measure => simp [intOf] <;> omega
      · have hne0 : ¬ ((ne : Int) = 0) := by omega
        have hE : (rp, rn, re) = (qs.map Prod.fst, ap, ne) := by rw [HR.out]; unfold allP; rw [← HX.out.1, HST.out, if_pos hne]
        have HE : Hid (rp = qs.map Prod.fst ∧ rn = ap ∧ re = ne) := ⟨congrArg Prod.fst hE, congrArg (fun x => x.2.1) hE, congrArg (fun x => x.2.2) hE⟩
        clear hE hne
        go_wp2_with (fail)
        exact bodyPost_ret (v := .tuple #[.slice al n cl, .int .i64 (ap : Int), .int .i64 (ne : Nat)]) (by simp [results, Tryd.results26, go_sem]) rfl ⟨qs, .slice al n cl, by rw [HE.out.2.1, HE.out.2.2], HI1.out, HE.out.1.symm⟩
    · have hnlt : ¬ ((ap : Int) < (nb : Int)) := by omega
      have hE : (rp, rn, re) = (qs.map Prod.fst, ap, 0) := by rw [HR.out]; unfold allP; rw [← HX.out.1, allR, if_neg (by have := HNB.out; omega)]
      have HE : Hid (rp = qs.map Prod.fst ∧ rn = ap ∧ re = 0) := ⟨congrArg Prod.fst hE, congrArg (fun x => x.2.1) hE, congrArg (fun x => x.2.2) hE⟩
      clear hE hlt
      go_wp2_with (fail)
      exact bodyPost_ret (v := .tuple #[.slice al n cl, .int .i64 (ap : Int), .int .i64 0]) (by simp [results, Tryd.results26, go_sem]) rfl ⟨qs, .slice al n cl, by rw [HE.out.2.1, HE.out.2.2]; rfl, HI.out, HE.out.1.symm⟩

end Go.Proofs.YtgnpjenpehfjbaaDoor

namespace Go.Proofs.YtgnpjenpehfjbaaDoor
open Go.RowKit

theorem itmOf_itemF (x : Itm) : itmOf (itemF x) = x := rfl
theorem hdOf_headF (p : Pkt) : hdOf (headF p) p.items = p := rfl
theorem itemsR_back (l : List UInt8) (c : Int) : ∀ (ys xs : List Itm) (f a : Nat), (∀ y ∈ ys, ItmOk y) → l.drop a = ys.flatMap itemB → c = ((xs.length + ys.length : Nat) : Int) → ys.length < f → itemsR l c f xs a = some (xs ++ ys, a + (ys.flatMap itemB).length) := by
  intro ys
  induction ys with
  | nil =>
    intro xs f a _ _ hc hf
    obtain ⟨f, rfl⟩ : ∃ f', f = f' + 1 := ⟨f - 1, by simp at hf; omega⟩
    rw [itemsR, if_neg (by simp at hc; omega)]
    simp
  | cons y r ih =>
    intro xs f a hok hd hc hf
    obtain ⟨f, rfl⟩ : ∃ f', f = f' + 1 := ⟨f - 1, by omega⟩
    have hy := itemF_ok (hok y List.mem_cons_self)
    have hrd := read_back (l.drop a) (r.flatMap itemB) (itemF y) [] 0 hy.1 hy.2 (by rw [List.drop_zero, hd, List.flatMap_cons]; rfl)
    rw [itemF_kinds, List.nil_append, Nat.zero_add] at hrd
    have hrd' : readF (l.drop a) itemK [] 0 = (itemF y, (itemB y).length, 0) := hrd
    rw [itemsR, if_pos (by simp at hc; omega), hrd']
    simp only [ne_eq, not_true_eq_false, if_false]
    rw [itmOf_itemF, ih (xs ++ [y]) f (a + (itemB y).length) (fun z hz => hok z (List.mem_cons_of_mem _ hz)) ?_ (by simp at hc ⊢; omega) (by simp at hf; omega)]
    · simp; omega
    · rw [← List.drop_drop, hd, List.flatMap_cons, List.drop_left]
theorem open_back {p : Pkt} (h : fitP p = true) : openP (bodyB p) = (p, 0) := by
  have hok := headF_ok h
  have hrd := read_back (bodyB p) (p.items.flatMap itemB) (headF p) [] 0 hok.1 hok.2 (by rw [List.drop_zero]; rfl)
  rw [headF_kinds, List.nil_append, Nat.zero_add] at hrd
  have hrd' : readF (bodyB p) headK [] 0 = (headF p, ((headF p).flatMap fbytes).length, 0) := hrd
  have hit := itemsR_back (bodyB p) (p.items.length : Int) p.items [] ((bodyB p).length + 1) ((headF p).flatMap fbytes).length (fit_mem h) (by
    show ((headF p).flatMap fbytes ++ p.items.flatMap itemB).drop _ = _
    rw [List.drop_left]) (by simp) (by
    have : p.items.length ≤ (p.items.flatMap itemB).length := by
      generalize p.items = xs
      induction xs with
      | nil => simp
      | cons x r ih =>
        rw [List.flatMap_cons, List.length_append, List.length_cons]
        have h1 := fbytes_sum (itemF x)
        have h2 : (itemF x).length = 19 := rfl
        have h3 : (itemB x).length = ((itemF x).flatMap fbytes).length := rfl
        omega
    have h2 : (bodyB p).length = ((headF p).flatMap fbytes).length + (p.items.flatMap itemB).length := by
      show ((headF p).flatMap fbytes ++ p.items.flatMap itemB).length = _
      rw [List.length_append]
    omega)
  unfold openP
  rw [hrd']
  simp only [ne_eq, not_true_eq_false, if_false]
  rw [show ((headF p).getD 7 nilF).num = (p.items.length : Int) from rfl, hit]
  simp only [List.nil_append]
  rw [if_neg (by
    have h2 : (bodyB p).length = ((headF p).flatMap fbytes).length + (p.items.flatMap itemB).length := by
      show ((headF p).flatMap fbytes ++ p.items.flatMap itemB).length = _
      rw [List.length_append]
    omega), hdOf_headF, if_pos h]
theorem encB_fit {p : Pkt} (h : fitP p = true) : encB p = frameOf (bodyB p) := by unfold encB; rw [if_pos h]
theorem encB_len {p : Pkt} (h : fitP p = true) : (encB p).length = (bodyB p).length + 8 := by rw [encB_fit h, frameOf_len]
theorem body16 {p : Pkt} (h : fitP p = true) : (bodyB p).length ≤ 65535 := by have := bodyB_len h; omega
theorem decode_back {p : Pkt} (h : fitP p = true) : decodeP (encB p) = (p, 0) := by
  have h1 := open_frame (bodyB p) [] (body16 h)
  rw [List.append_nil] at h1
  unfold decodeP
  rw [encB_fit h, h1]
  simp only [ne_eq, not_true_eq_false, if_false]
  rw [if_neg (by rw [frameOf_len]; simp), open_back h]
theorem next_back {p : Pkt} (rest : List UInt8) (h : fitP p = true) : nextP (encB p ++ rest) = (p, (encB p).length, 0) := by
  have h1 := open_frame (bodyB p) rest (body16 h)
  unfold nextP
  rw [encB_fit h, h1]
  simp only [ne_eq, not_true_eq_false, if_false]
  rw [open_back h, frameOf_len]
theorem next_cut {p : Pkt} (k : Nat) (h : fitP p = true) (hk : k < (encB p).length) : (nextP ((encB p).take k)).2.2 = 21 := by
  have h1 := open_cut (bodyB p) k (body16 h) (by rw [encB_len h] at hk; exact hk)
  unfold nextP
  rw [encB_fit h, h1]
  simp
/-- frames one behind the other are taken all -/
theorem allR_back (l : List UInt8) (t : List UInt8) : ∀ (ps acc : List Pkt) (f a : Nat), (∀ p ∈ ps, fitP p = true) → l.drop a = ps.flatMap encB ++ t → a ≤ l.length → ps.length ≤ f → allR l f acc a = allR l (f - ps.length) (acc ++ ps) (a + (ps.flatMap encB).length) := by
  intro ps
  induction ps with
  | nil => intro acc f a _ _ _ _; simp
  | cons p r ih =>
    intro acc f a hok hd ha hf
    obtain ⟨f, rfl⟩ : ∃ f', f = f' + 1 := ⟨f - 1, by simp at hf; omega⟩
    have hp := hok p List.mem_cons_self
    have hn := next_back (p := p) (r.flatMap encB ++ t) hp
    rw [List.flatMap_cons, List.append_assoc] at hd
    have hlen : l.length = a + ((encB p).length + (r.flatMap encB ++ t).length) := by
      have := congrArg List.length hd
      rw [List.length_drop, List.length_append] at this
      omega
    have h8 := encB_len hp
    rw [allR, if_pos (by omega), hd, hn]
    simp only [ne_eq, not_true_eq_false, if_false]
    rw [ih (acc ++ [p]) f (a + (encB p).length) (fun z hz => hok z (List.mem_cons_of_mem _ hz)) (by rw [← List.drop_drop, hd, List.drop_left]) (by omega) (by simp at hf; omega)]
    simp only [List.length_cons, List.flatMap_cons, List.length_append, List.append_assoc, List.singleton_append, Nat.add_assoc]
    rw [show f + 1 - (r.length + 1) = f - r.length by omega]
theorem frames_len (ps : List Pkt) (h : ∀ p ∈ ps, fitP p = true) : 8 * ps.length ≤ (ps.flatMap encB).length := by
  induction ps with
  | nil => simp
  | cons p r ih =>
    rw [List.flatMap_cons, List.length_append, List.length_cons, encB_len (h p List.mem_cons_self)]
    have := ih fun z hz => h z (List.mem_cons_of_mem _ hz)
    omega
theorem all_back (ps : List Pkt) (h : ∀ p ∈ ps, fitP p = true) : allP (ps.flatMap encB) = (ps, (ps.flatMap encB).length, 0) := by
  have h1 := frames_len ps h
  unfold allP
  rw [allR_back _ [] ps [] ((ps.flatMap encB).length + 1) 0 h (by simp) (by omega) (by omega)]
  obtain ⟨f, hf⟩ : ∃ f, (ps.flatMap encB).length + 1 - ps.length = f + 1 := ⟨(ps.flatMap encB).length - ps.length, by omega⟩
  rw [hf, allR, if_neg (by omega)]
  simp
/-- a beginning of frames tells the whole ones ahead of the cut -/
theorem all_cut (ps qs : List Pkt) (p : Pkt) (k : Nat) (h : ∀ x ∈ ps, fitP x = true) (hp : fitP p = true) (hk : k < (encB p).length) :
    allP (((ps ++ p :: qs).flatMap encB).take ((ps.flatMap encB).length + k)) = (ps, (ps.flatMap encB).length, if k = 0 then 0 else 21) := by
  have e : ((ps ++ p :: qs).flatMap encB).take ((ps.flatMap encB).length + k) = ps.flatMap encB ++ (encB p).take k := by
    rw [List.flatMap_append, List.flatMap_cons, List.take_append, List.take_of_length_le (by omega)]
    rw [show (ps.flatMap encB).length + k - (ps.flatMap encB).length = k by omega, List.take_append_of_le_length (by omega)]
  rw [e]
  have h1 := frames_len ps h
  have hl : (ps.flatMap encB ++ (encB p).take k).length = (ps.flatMap encB).length + k := by rw [List.length_append, List.length_take]; omega
  unfold allP
  rw [allR_back _ ((encB p).take k) ps [] _ 0 h (by simp) (by omega) (by omega), hl]
  obtain ⟨f, hf⟩ : ∃ f, (ps.flatMap encB).length + k + 1 - ps.length = f + 1 := ⟨(ps.flatMap encB).length + k - ps.length, by omega⟩
  rw [hf, allR]
  by_cases hk0 : k = 0
  · rw [if_neg (by rw [hl]; omega), if_pos hk0]
    simp
  · rw [if_pos (by rw [hl]; omega), if_neg hk0]
    rw [Nat.zero_add, List.drop_left, if_pos (by rw [next_cut k hp hk]; decide), next_cut k hp hk]
    simp

end Go.Proofs.YtgnpjenpehfjbaaDoor

namespace Go.Proofs.YtgnpjenpehfjbaaDoor
open Go.RowKit

/-- a slice that reads as packets, each with its items -/
structure Pks (w : World) (B : Nat) (v : Value) (qs : List (Pkt × Value)) : Prop where
  row : ∃ ao cap, v = .slice ao qs.length cap ∧ qs.length ≤ cap ∧ qs.length ≤ maxLen ∧ (qs ≠ [] → ∃ b off, ao = some ⟨b, off, none⟩ ∧ b < B ∧ ∀ i q, qs[i]? = some q → w.rangeAt b (off + i * 8) (q.1.cells q.2))
  its : ∀ q ∈ qs, Ims w B q.2 q.1.items ∧ Sl q.2
theorem Pks.below {w w' : World} {B B' : Nat} {v : Value} {qs : List (Pkt × Value)} (h : Pks w B v qs) (hb : Below B w w') (hB : B ≤ B') : Pks w' B' v qs := by
  obtain ⟨⟨ao, cap, h1, h2, h3, h4⟩, h5⟩ := h
  refine ⟨⟨ao, cap, h1, h2, h3, fun hne => ?_⟩, fun q hq => ⟨(h5 q hq).1.below hb hB, (h5 q hq).2⟩⟩
  obtain ⟨b, off, e1, e2, e3⟩ := h4 hne
  exact ⟨b, off, e1, by omega, fun i q hq j u hu => (hb.cell (p := ⟨b, off + i * 8 + j, none⟩) e2).trans (e3 i q hq j u hu)⟩
theorem owns_kept {w w' : World} {B n sz n2 sz2 : Nat} {e e2 : TypeId} {v v2 : Value} {xs xs2 : List Value} (h1 : w.ownsRow B e sz v n xs) (h2 : w.ownsRow B e2 sz2 v2 n2 xs2) (hne : e ≠ e2) (hg : w.grownBy w' v.ownBlock) : w'.ownsRow B e2 sz2 v2 n2 xs2 := by
  refine World.ownsRow.kept h2 hg ?_
  cases hv : v2.ownBlock with
  | none => exact .inl rfl
  | some k =>
    refine .inr fun e => ?_
    obtain ⟨c, hc⟩ := owns_kind h2 k hv
    obtain ⟨c', hc'⟩ := owns_kind h1 k e.symm
    rw [hc] at hc'
    injection hc' with hc'
    injection hc' with _ hc' _
    exact hne hc'.symm
theorem owns_below {w w' : World} {B n sz : Nat} {e : TypeId} {v : Value} {xs : List Value} (h : w.ownsRow B e sz v n xs) (hb : Below w.heap.size w w') : w'.ownsRow B e sz v n xs :=
  World.ownsRow.kept h (row := none) ⟨hb.os, hb.tape, hb.output, hb.size, fun k hk _ => hb.block k hk⟩ (by
    cases hv : v.ownBlock with
    | none => exact .inl rfl
    | some k => exact .inr (by simp))
theorem row_grown {w w' : World} {B n sz x : Nat} {e e2 : TypeId} {v : Value} {xs : List Value} {cs : Array Value} (h1 : w.ownsRow B e sz v n xs) (hx : w.heap[x]? = some (.cells cs e2 (0, 0))) (hne : e ≠ e2) (hg : w.grownBy w' v.ownBlock) : w'.heap[x]? = some (.cells cs e2 (0, 0)) :=
  (hg.block x (Array.getElem?_eq_some_iff.1 hx).1 (fun e3 => by
    obtain ⟨c, hc⟩ := owns_kind h1 x e3.symm
    rw [hx] at hc
    injection hc with hc
    injection hc with _ hc _
    exact hne hc.symm)).trans hx
/-- where each frame ends -/
def endAt (fs : List Pkt) (i : Nat) : Nat := ((fs.take i).flatMap encB).length
def endsI (fs : List Pkt) : List Int := (List.range fs.length).map fun i => (endAt fs (i + 1) : Int)
theorem endsI_len (fs : List Pkt) : (endsI fs).length = fs.length := by simp [endsI]
theorem endsI_snoc (fs : List Pkt) (p : Pkt) : endsI (fs ++ [p]) = endsI fs ++ [(((fs ++ [p]).flatMap encB).length : Int)] := by
  unfold endsI
  rw [List.length_append, List.length_singleton, List.range_succ, List.map_append]
  congr 1
  · refine List.map_congr_left fun i hi => ?_
    have := List.mem_range.1 hi
    unfold endAt
    rw [List.take_append_of_le_length (by omega)]
  · simp only [List.map_cons, List.map_nil]
    unfold endAt
    rw [List.take_of_length_le (by simp)]
theorem endAt_mono (fs : List Pkt) (h : ∀ p ∈ fs, fitP p = true) (i : Nat) (hi : i < fs.length) : endAt fs i + 8 ≤ endAt fs (i + 1) := by
  unfold endAt
  rw [List.take_add_one, List.getElem?_eq_getElem hi]
  simp only [Option.toList_some, List.flatMap_append, List.length_append, List.flatMap_cons, List.flatMap_nil, List.append_nil]
  have := encB_len (h _ (List.getElem_mem hi))
  omega
/-- a cut lies within one frame -/
theorem cut_at (fs : List Pkt) (h : ∀ p ∈ fs, fitP p = true) (k : Nat) (hk : k < (fs.flatMap encB).length) : ∃ ps p qs, fs = ps ++ p :: qs ∧ (ps.flatMap encB).length ≤ k ∧ k < (ps.flatMap encB).length + (encB p).length := by
  induction fs generalizing k with
  | nil => simp at hk
  | cons x r ih =>
    rw [List.flatMap_cons, List.length_append] at hk
    by_cases h1 : k < (encB x).length
    · exact ⟨[], x, r, rfl, by simp, by simpa using h1⟩
    · obtain ⟨ps, p, qs, e, h2, h3⟩ := ih (fun p hp => h p (List.mem_cons_of_mem _ hp)) (k - (encB x).length) (by omega)
      refine ⟨x :: ps, p, qs, by rw [e]; rfl, ?_, ?_⟩ <;> (rw [List.flatMap_cons, List.length_append]; omega)
theorem endAt_at (ps rs : List Pkt) : endAt (ps ++ rs) ps.length = (ps.flatMap encB).length := by
  unfold endAt
  rw [List.take_left]
theorem endAt_cut (ps rs : List Pkt) (i : Nat) (h : i < ps.length) : endAt (ps ++ rs) (i + 1) ≤ (ps.flatMap encB).length := by
  unfold endAt
  rw [List.take_append_of_le_length (by omega)]
  conv => rhs; rw [← List.take_append_drop (i + 1) ps, List.flatMap_append, List.length_append]
  omega
theorem endAt_past (ps rs : List Pkt) (p : Pkt) (i : Nat) (h : ps.length ≤ i) : (ps.flatMap encB).length + (encB p).length ≤ endAt (ps ++ p :: rs) (i + 1) := by
  unfold endAt
  rw [List.take_append, List.take_of_length_le (by omega), show i + 1 - ps.length = (i - ps.length) + 1 by omega, List.take_succ_cons, List.flatMap_append, List.flatMap_cons, List.length_append, List.length_append]
  omega
theorem endsI_get (fs : List Pkt) (j : Nat) (h : j < fs.length) : (endsI fs).getD j 0 = (endAt fs (j + 1) : Int) := by
  simp [endsI, List.getD, h]
structure BI (w : World) (fs : List Pkt) (gs : List (Pkt × Value)) (bv ev fv : Value) (W : World) : Prop where
  low : Below w.heap.size w W
  ob : Own W w.heap.size bv (fs.flatMap encB)
  oe : OwnK W w.heap.size ev (endsI fs)
  oq : OwnQ W w.heap.size fv gs
  eq : gs.map Prod.fst = fs
  fit : ∀ p ∈ fs, fitP p = true
theorem BI.below {w : World} {fs : List Pkt} {gs : List (Pkt × Value)} {bv ev fv : Value} {W W' : World} (h : BI w fs gs bv ev fv W) (hb : Below W.heap.size W W') : BI w fs gs bv ev fv W' :=
  ⟨h.low.trans (hb.mono h.low.size), h.ob.below hb, owns_below h.oe hb, owns_below h.oq hb, h.eq, h.fit⟩
/-- the three appends of a round, in plain words -/
theorem BI.step {w : World} {fs : List Pkt} {gs : List (Pkt × Value)} {bv ev fv bv' ev' fv' : Value} {W W1 W2 W3 W4 W5 : World} {p : Pkt} {u : Value} (h : BI w fs gs bv ev fv W) (hp : fitP p = true)
    (g1 : W.grownBy W1 bv.ownBlock) (o1 : Own W1 w.heap.size bv' (fs.flatMap encB ++ encB p)) (hb2 : Below W1.heap.size W1 W2) (g3 : W2.grownBy W3 ev.ownBlock) (o3 : OwnK W3 w.heap.size ev' (endsI (fs ++ [p])))
    (hb4 : Below W3.heap.size W3 W4) (g5 : W4.grownBy W5 fv.ownBlock) (o5 : OwnQ W5 w.heap.size fv' (gs ++ [(p, u)])) : BI w (fs ++ [p]) (gs ++ [(p, u)]) bv' ev' fv' W5 := by
  have nb : (5 : TypeId) ≠ 3 := by decide
  have nq : (5 : TypeId) ≠ 24 := by decide
  have ni : (3 : TypeId) ≠ 24 := by decide
  have e1 := owns_kept h.ob h.oe nb g1
  have q1 := owns_kept h.ob h.oq nq g1
  have b2 := o1.below hb2
  have e2 := owns_below e1 hb2
  have q2 := owns_below q1 hb2
  have b3 := owns_kept e2 b2 nb.symm g3
  have q3 := owns_kept e2 q2 ni g3
  have b4 := owns_below b3 hb4
  have e4 := owns_below o3 hb4
  have q4 := owns_below q3 hb4
  have b5 := owns_kept q4 b4 nq.symm g5
  have e5 := owns_kept q4 e4 ni.symm g5
  have l1 := h.low.grown g1 h.low.size (fun k e => (World.ownsRow.lt h.ob k e).1)
  have l2 := l1.trans (hb2.mono l1.size)
  have l3 := l2.grown g3 l2.size (fun k e => (World.ownsRow.lt e2 k e).1)
  have l4 := l3.trans (hb4.mono l3.size)
  have l5 := l4.grown g5 l4.size (fun k e => (World.ownsRow.lt q4 k e).1)
  refine ⟨l5, ?_, e5, o5, by rw [List.map_append, h.eq]; rfl, fun x hx => ?_⟩
  · rw [List.flatMap_append]
    simp only [List.flatMap_cons, List.flatMap_nil, List.append_nil]
    exact b5
  · rcases List.mem_append.1 hx with hx | hx
    · exact h.fit x hx
    · rw [List.mem_singleton] at hx; subst hx; exact hp

end Go.Proofs.YtgnpjenpehfjbaaDoor

