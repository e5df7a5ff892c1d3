/- The document's Decode (by program: wip/tools/gen_rd9.py). -/
import Derived.Test.YtgnpjenpehfjbaaDoorMT
import Derived.Test.YtgnpjenpehfjbaaDoorMQ
import Derived.Test.YtgnpjenpehfjbaaDoorMA
set_option linter.unusedSimpArgs false
set_option linter.unusedVariables false
namespace Go.Proofs.YtgnpjenpehfjbaaDoor
open Go.RowKit

set_option maxRecDepth 100000 in
set_option maxHeartbeats 2000000 in
theorem rdecode_any (v : Value) (l : List UInt8) (w : World) (hb : Bts w w.heap.size v l) (hl : l.length ≤ 100000000) :
    Calls Tryd.prog 23 #[v] w fun e w' => ∃ (p : Pkt) (u : Value), e = .returned (.tuple #[.agg (p.cells u).toArray, .int .i64 ((decodeP l).2 : Nat)]) ∧ OwnX w' w.heap.size u p.items ∧ p = (decodeP l).1 ∧ Below w.heap.size w w' := by
  obtain ⟨⟨dp, dc⟩, hD⟩ : ∃ R, R = decodeP l := ⟨_, rfl⟩
  rw [← hD]
  dsimp only
  have HD0 := Lib.hid hD
  clear hD
  have HB := Lib.hid hb
  have HL := Lib.hid hl
  obtain ⟨ba, bc, hv, -⟩ := id hb
  obtain ⟨nb, hnb⟩ : ∃ n, n = l.length := ⟨_, rfl⟩
  rw [← hnb] at hv
  subst hv
  have HNB := Lib.hid hnb
  obtain ⟨g0, k0⟩ := new_block w (.cells #[.int .i64 0, .int .i64 0, .int .i64 0, .int .i64 0, .int .i64 0, .int .i64 0, .int .i64 0, .slice none 0 0] 24)
  have hcon := ref_Open (.slice ba nb bc) l (w.alloc (.cells #[.int .i64 0, .int .i64 0, .int .i64 0, .int .i64 0, .int .i64 0, .int .i64 0, .int .i64 0, .slice none 0 0] 24)) (hb.below g0 g0.size)
  have LB := Lib.hid g0
  have KB := Lib.hid k0
  obtain ⟨⟨bo, fn, fe⟩, hF⟩ : ∃ R, R = openF l := ⟨_, rfl⟩
  rw [← hF] at hcon
  dsimp only at hcon
  have HF := Lib.hid hF
  have HCON := Lib.hid hcon
  clear g0 k0 hb hl hnb hcon hF
  have HDP : Hid (decodeP l = if fe ≠ 0 then (zeroP, fe) else if fn ≠ l.length then (zeroP, 20) else openP bo) := by show _ = _; unfold decodeP; rw [← HF.out]
  have HBL : Hid (bo.length ≤ l.length) := by show _ ≤ _; have := (openF_len l).1; rw [← HF.out] at this; exact this
  go_enter Tryd.func23, Tryd.ntmps23
  go_wp2_with (fail)
  with_reducible refine HCON.out.mono ?_
  rintro x w1 ⟨v', rfl, ho, hB⟩
  obtain ⟨ab, capb, hvb, -⟩ := ho.bts
  obtain ⟨m, hm⟩ : ∃ m, m = bo.length := ⟨_, rfl⟩
  rw [← hm] at hvb
  subst hvb
  have L1 := Lib.hid (LB.out.trans (hB.mono LB.out.size))
  have KF := Lib.hid (stays KB.out hB)
  have HBO := Lib.hid ho.bts
  have HSZ1 : Hid (w.heap.size < w1.heap.size) := (Array.getElem?_eq_some_iff.1 KF.out).1
  clear HCON ho hm hB LB KB

  by_cases hfe : fe = 0
  case neg =>
    have hfe1 : ((fe : Int) != 0) = true := by rw [bne_iff_ne]; omega
    have hD : (dp, dc) = (zeroP, fe) := by rw [HD0.out, HDP.out, if_pos hfe]
    have HE : Hid (dp = zeroP ∧ dc = fe) := ⟨congrArg Prod.fst hD, congrArg Prod.snd hD⟩
    clear hD
    have KF2 := KF.out
    have c0 := cell_of_row _ _ 0 _ _ _ KF2
    have c1 := cell_of_row _ _ 1 _ _ _ KF2
    have c2 := cell_of_row _ _ 2 _ _ _ KF2
    have c3 := cell_of_row _ _ 3 _ _ _ KF2
    have c4 := cell_of_row _ _ 4 _ _ _ KF2
    have c5 := cell_of_row _ _ 5 _ _ _ KF2
    have c6 := cell_of_row _ _ 6 _ _ _ KF2
    have c7 := cell_of_row _ _ 7 _ _ _ KF2
    have z0 := frozen_of_row _ _ 0 _ _ KF2
    have z1 := frozen_of_row _ _ 1 _ _ KF2
    have z2 := frozen_of_row _ _ 2 _ _ KF2
    have z3 := frozen_of_row _ _ 3 _ _ KF2
    have z4 := frozen_of_row _ _ 4 _ _ KF2
    have z5 := frozen_of_row _ _ 5 _ _ KF2
    have z6 := frozen_of_row _ _ 6 _ _ KF2
    have z7 := frozen_of_row _ _ 7 _ _ KF2
    clear KF2
    go_wp2
    obtain ⟨WE, hWE⟩ : ∃ W, W = ((((((((w1.setCell ⟨w.heap.size, 0, none⟩ (.int .i64 0)).setCell ⟨w.heap.size, 1, none⟩ (.int .i64 0)).setCell ⟨w.heap.size, 2, none⟩ (.int .i64 0)).setCell ⟨w.heap.size, 3, none⟩ (.int .i64 0)).setCell ⟨w.heap.size, 4, none⟩ (.int .i64 0)).setCell ⟨w.heap.size, 5, none⟩ (.int .i64 0)).setCell ⟨w.heap.size, 6, none⟩ (.int .i64 0)).setCell ⟨w.heap.size, 7, none⟩ (.slice none 0 0)) := ⟨_, rfl⟩
    have KW : WE.heap[w.heap.size]? = some (.cells #[.int .i64 0, .int .i64 0, .int .i64 0, .int .i64 0, .int .i64 0, .int .i64 0, .int .i64 0, .slice none 0 0] 24 (0, 0)) := by
      rw [hWE]
      exact (set_block _ _ 7 _ _ _ (set_block _ _ 6 _ _ _ (set_block _ _ 5 _ _ _ (set_block _ _ 4 _ _ _ (set_block _ _ 3 _ _ _ (set_block _ _ 2 _ _ _ (set_block _ _ 1 _ _ _ (set_block _ _ 0 _ _ _ KF.out))))))))
    have LW : Below w.heap.size w WE := by
      rw [hWE]
      exact (bel_set (Nat.le_refl _) (bel_set (Nat.le_refl _) (bel_set (Nat.le_refl _) (bel_set (Nat.le_refl _) (bel_set (Nat.le_refl _) (bel_set (Nat.le_refl _) (bel_set (Nat.le_refl _) (bel_set (Nat.le_refl _) L1.out))))))))

    rw [← hWE]
    clear hWE
    clear c0 c1 c2 c3 c4 c5 c6 c7 z0 z1 z2 z3 z4 z5 z6 z7
    have c0 := cell_of_row _ _ 0 _ _ _ KW
    have c1 := cell_of_row _ _ 1 _ _ _ KW
    have c2 := cell_of_row _ _ 2 _ _ _ KW
    have c3 := cell_of_row _ _ 3 _ _ _ KW
    have c4 := cell_of_row _ _ 4 _ _ _ KW
    have c5 := cell_of_row _ _ 5 _ _ _ KW
    have c6 := cell_of_row _ _ 6 _ _ _ KW
    have c7 := cell_of_row _ _ 7 _ _ _ KW
    exact bodyPost_ret (v := .tuple #[.agg #[.int .i64 0, .int .i64 0, .int .i64 0, .int .i64 0, .int .i64 0, .int .i64 0, .int .i64 0, .slice none 0 0], .int .i64 (fe : Nat)]) (by simp [results, Tryd.results23, go_sem, *]) rfl ⟨zeroP, .slice none 0 0, by rw [HE.out.2]; rfl, World.ownsRow_nil _ _ _ _, HE.out.1.symm, LW⟩
  subst hfe
  by_cases hn : fn = nb
  case neg =>
    have hne : ¬ ((fn : Int) = (nb : Int)) := by omega
    have hD : (dp, dc) = (zeroP, 20) := by rw [HD0.out, HDP.out, if_neg (by simp), if_pos (by rw [← HNB.out]; exact hn)]
    have HE : Hid (dp = zeroP ∧ dc = 20) := ⟨congrArg Prod.fst hD, congrArg Prod.snd hD⟩
    clear hD
    have KF2 := KF.out
    have c0 := cell_of_row _ _ 0 _ _ _ KF2
    have c1 := cell_of_row _ _ 1 _ _ _ KF2
    have c2 := cell_of_row _ _ 2 _ _ _ KF2
    have c3 := cell_of_row _ _ 3 _ _ _ KF2
    have c4 := cell_of_row _ _ 4 _ _ _ KF2
    have c5 := cell_of_row _ _ 5 _ _ _ KF2
    have c6 := cell_of_row _ _ 6 _ _ _ KF2
    have c7 := cell_of_row _ _ 7 _ _ _ KF2
    have z0 := frozen_of_row _ _ 0 _ _ KF2
    have z1 := frozen_of_row _ _ 1 _ _ KF2
    have z2 := frozen_of_row _ _ 2 _ _ KF2
    have z3 := frozen_of_row _ _ 3 _ _ KF2
    have z4 := frozen_of_row _ _ 4 _ _ KF2
    have z5 := frozen_of_row _ _ 5 _ _ KF2
    have z6 := frozen_of_row _ _ 6 _ _ KF2
    have z7 := frozen_of_row _ _ 7 _ _ KF2
    clear KF2
    go_wp2
    obtain ⟨WE, hWE⟩ : ∃ W, W = ((((((((w1.setCell ⟨w.heap.size, 0, none⟩ (.int .i64 0)).setCell ⟨w.heap.size, 1, none⟩ (.int .i64 0)).setCell ⟨w.heap.size, 2, none⟩ (.int .i64 0)).setCell ⟨w.heap.size, 3, none⟩ (.int .i64 0)).setCell ⟨w.heap.size, 4, none⟩ (.int .i64 0)).setCell ⟨w.heap.size, 5, none⟩ (.int .i64 0)).setCell ⟨w.heap.size, 6, none⟩ (.int .i64 0)).setCell ⟨w.heap.size, 7, none⟩ (.slice none 0 0)) := ⟨_, rfl⟩
    have KW : WE.heap[w.heap.size]? = some (.cells #[.int .i64 0, .int .i64 0, .int .i64 0, .int .i64 0, .int .i64 0, .int .i64 0, .int .i64 0, .slice none 0 0] 24 (0, 0)) := by
      rw [hWE]
      exact (set_block _ _ 7 _ _ _ (set_block _ _ 6 _ _ _ (set_block _ _ 5 _ _ _ (set_block _ _ 4 _ _ _ (set_block _ _ 3 _ _ _ (set_block _ _ 2 _ _ _ (set_block _ _ 1 _ _ _ (set_block _ _ 0 _ _ _ KF.out))))))))
    have LW : Below w.heap.size w WE := by
      rw [hWE]
      exact (bel_set (Nat.le_refl _) (bel_set (Nat.le_refl _) (bel_set (Nat.le_refl _) (bel_set (Nat.le_refl _) (bel_set (Nat.le_refl _) (bel_set (Nat.le_refl _) (bel_set (Nat.le_refl _) (bel_set (Nat.le_refl _) L1.out))))))))

    rw [← hWE]
    clear hWE
    clear c0 c1 c2 c3 c4 c5 c6 c7 z0 z1 z2 z3 z4 z5 z6 z7
    have c0 := cell_of_row _ _ 0 _ _ _ KW
    have c1 := cell_of_row _ _ 1 _ _ _ KW
    have c2 := cell_of_row _ _ 2 _ _ _ KW
    have c3 := cell_of_row _ _ 3 _ _ _ KW
    have c4 := cell_of_row _ _ 4 _ _ _ KW
    have c5 := cell_of_row _ _ 5 _ _ _ KW
    have c6 := cell_of_row _ _ 6 _ _ _ KW
    have c7 := cell_of_row _ _ 7 _ _ _ KW
    exact bodyPost_ret (v := .tuple #[.agg #[.int .i64 0, .int .i64 0, .int .i64 0, .int .i64 0, .int .i64 0, .int .i64 0, .int .i64 0, .slice none 0 0], .int .i64 20]) (by simp [results, Tryd.results23, go_sem, *]) rfl ⟨zeroP, .slice none 0 0, by rw [HE.out.2]; rfl, World.ownsRow_nil _ _ _ _, HE.out.1.symm, LW⟩
  have hnn : (fn : Int) = (nb : Int) := by omega
  have hD : (dp, dc) = openP bo := by rw [HD0.out, HDP.out, if_neg (by simp), if_neg (by rw [← HNB.out, hn]; simp)]
  have HE : Hid (dp = (openP bo).1 ∧ dc = (openP bo).2) := ⟨congrArg Prod.fst hD, congrArg Prod.snd hD⟩
  clear hD
  have HBL' := HBL
  replace HBL : Hid (bo.length ≤ 100000000 ∧ True) := ⟨Nat.le_trans HBL'.out HL.out, trivial⟩
  clear HDP hn
  have hcon := Lib.hid (rdoc_open (.slice ab m capb) bo w1 HBO.out HBL.out.1)
  go_wp2_with (fail)
  with_reducible refine hcon.out.mono ?_
  rintro x w2 ⟨p, u, rfl, hi, hp, hB⟩
  have L2 := Lib.hid (L1.out.trans (hB.mono L1.out.size))
  have KF2 := stays KF.out hB
  have KG := Lib.hid KF2
  obtain ⟨k0, k1, k2, k3, k4, k5, k6, xs⟩ := p
  obtain ⟨au, cu, hu⟩ := owns_form hi
  obtain ⟨m, hm⟩ : ∃ m, m = xs.length := ⟨_, rfl⟩
  rw [← hm] at hu
  subst hu
  have HI := Lib.hid hi
  have HP := Lib.hid hp
  clear hcon hi hp hB hm
  have c0 := cell_of_row _ _ 0 _ _ _ KF2
  have c1 := cell_of_row _ _ 1 _ _ _ KF2
  have c2 := cell_of_row _ _ 2 _ _ _ KF2
  have c3 := cell_of_row _ _ 3 _ _ _ KF2
  have c4 := cell_of_row _ _ 4 _ _ _ KF2
  have c5 := cell_of_row _ _ 5 _ _ _ KF2
  have c6 := cell_of_row _ _ 6 _ _ _ KF2
  have c7 := cell_of_row _ _ 7 _ _ _ KF2
  have z0 := frozen_of_row _ _ 0 _ _ KF2
  have z1 := frozen_of_row _ _ 1 _ _ KF2
  have z2 := frozen_of_row _ _ 2 _ _ KF2
  have z3 := frozen_of_row _ _ 3 _ _ KF2
  have z4 := frozen_of_row _ _ 4 _ _ KF2
  have z5 := frozen_of_row _ _ 5 _ _ KF2
  have z6 := frozen_of_row _ _ 6 _ _ KF2
  have z7 := frozen_of_row _ _ 7 _ _ KF2
  clear KF2
  go_wp2
  obtain ⟨WE, hWE⟩ : ∃ W, W = ((((((((w2.setCell ⟨w.heap.size, 0, none⟩ (.int .i64 k0)).setCell ⟨w.heap.size, 1, none⟩ (.int .i64 k1)).setCell ⟨w.heap.size, 2, none⟩ (.int .i64 k2)).setCell ⟨w.heap.size, 3, none⟩ (.int .i64 k3)).setCell ⟨w.heap.size, 4, none⟩ (.int .i64 k4)).setCell ⟨w.heap.size, 5, none⟩ (.int .i64 k5)).setCell ⟨w.heap.size, 6, none⟩ (.int .i64 k6)).setCell ⟨w.heap.size, 7, none⟩ (.slice au m cu)) := ⟨_, rfl⟩
  have KW : WE.heap[w.heap.size]? = some (.cells #[.int .i64 k0, .int .i64 k1, .int .i64 k2, .int .i64 k3, .int .i64 k4, .int .i64 k5, .int .i64 k6, .slice au m cu] 24 (0, 0)) := by
    rw [hWE]
    exact (set_block _ _ 7 _ _ _ (set_block _ _ 6 _ _ _ (set_block _ _ 5 _ _ _ (set_block _ _ 4 _ _ _ (set_block _ _ 3 _ _ _ (set_block _ _ 2 _ _ _ (set_block _ _ 1 _ _ _ (set_block _ _ 0 _ _ _ KG.out))))))))
  have LW : Below w.heap.size w WE := by
    rw [hWE]
    exact (bel_set (Nat.le_refl _) (bel_set (Nat.le_refl _) (bel_set (Nat.le_refl _) (bel_set (Nat.le_refl _) (bel_set (Nat.le_refl _) (bel_set (Nat.le_refl _) (bel_set (Nat.le_refl _) (bel_set (Nat.le_refl _) L2.out))))))))
  have HIE : OwnX WE w.heap.size (.slice au m cu) xs := by
    have h8 := OwnX.sets HI.out [.int .i64 k0, .int .i64 k1, .int .i64 k2, .int .i64 k3, .int .i64 k4, .int .i64 k5, .int .i64 k6, .slice au m cu] 0 (b := w.heap.size) HSZ1.out
    rw [hWE]
    exact owns_mono h8 (Nat.le_of_lt HSZ1.out)
  rw [← hWE]
  clear hWE
  clear c0 c1 c2 c3 c4 c5 c6 c7 z0 z1 z2 z3 z4 z5 z6 z7
  have c0 := cell_of_row _ _ 0 _ _ _ KW
  have c1 := cell_of_row _ _ 1 _ _ _ KW
  have c2 := cell_of_row _ _ 2 _ _ _ KW
  have c3 := cell_of_row _ _ 3 _ _ _ KW
  have c4 := cell_of_row _ _ 4 _ _ _ KW
  have c5 := cell_of_row _ _ 5 _ _ _ KW
  have c6 := cell_of_row _ _ 6 _ _ _ KW
  have c7 := cell_of_row _ _ 7 _ _ _ KW
  exact bodyPost_ret (v := .tuple #[.agg #[.int .i64 k0, .int .i64 k1, .int .i64 k2, .int .i64 k3, .int .i64 k4, .int .i64 k5, .int .i64 k6, .slice au m cu], .int .i64 ((openP bo).2 : Nat)]) (by simp [results, Tryd.results23, go_sem, *]) rfl ⟨⟨k0, k1, k2, k3, k4, k5, k6, xs⟩, .slice au m cu, by rw [HE.out.2], HIE, by rw [HE.out.1]; exact HP.out, LW⟩

end Go.Proofs.YtgnpjenpehfjbaaDoor

