/- Wire: Decode of bytes that are no frame; the bytes of chapter 5's example (by program: wip/tools/gen_wire17.py). -/
import Derived.Test.YtgnpjenpehfjbaaDoorWire16
import Derived.Test.YtgnpjenpehfjbaaDoorCodeNumW
namespace Go.Proofs.YtgnpjenpehfjbaaDoor
open Go.RowKit

set_option maxRecDepth 100000 in
set_option maxHeartbeats 1000000 in
theorem decode_err (v : Value) (l : List UInt8) (w : World) (hb : Bts w w.heap.size v l) (ht : TabOK w) (e : Nat) (he : (openF l).2.2 = e) (hne : e ≠ 0) : Calls Tryd.prog 22 #[v] w fun x w' => x = .returned (.tuple #[.agg #[.int .i64 0, .int .i64 0, .int .i64 0, .int .i64 0, .int .i64 0, .int .i64 0, .int .i64 0, .slice none 0 0], .int .i64 (e : Int)]) ∧ Below w.heap.size w w' := by
  obtain ⟨ao, cap, rfl, _⟩ := id hb
  obtain ⟨g0, k0⟩ := new_block w (.cells #[.int .i64 0, .int .i64 0, .int .i64 0, .int .i64 0, .int .i64 0, .int .i64 0, .int .i64 0, .slice none 0 0] 24)
  have hcon := seal_Open (.slice ao l.length cap) l (w.alloc (.cells #[.int .i64 0, .int .i64 0, .int .i64 0, .int .i64 0, .int .i64 0, .int .i64 0, .int .i64 0, .slice none 0 0] 24)) (hb.below g0 g0.size) (ht.below g0 ht.lt)
  rw [he] at hcon
  have HCON := Lib.hid hcon
  have LB := Lib.hid g0
  have KB := Lib.hid k0
  have e1 : ((e : Int) != 0) = true := by simp; omega
  obtain ⟨n, hn⟩ : ∃ n, n = l.length := ⟨_, rfl⟩
  rw [← hn] at HCON ⊢
  clear g0 k0 hcon he hne hb ht hn
  go_enter Tryd.func22, Tryd.ntmps22
  go_wp2_with (fail)
  with_reducible refine HCON.out.mono ?_
  rintro x w1 ⟨v', rfl, ho, hB⟩
  obtain ⟨ab, capb, hvb, -⟩ := ho.bts
  obtain ⟨m, hm⟩ : ∃ m, m = (openF l).1.length := ⟨_, rfl⟩
  rw [← hm] at hvb
  subst hvb
  have L1 := Lib.hid (LB.out.trans (hB.mono LB.out.size))
  have K1 := stays KB.out hB
  have KF := Lib.hid K1
  clear HCON ho hm hB
  have c0 := cell_of_row _ _ 0 _ _ _ K1
  have c1 := cell_of_row _ _ 1 _ _ _ K1
  have c2 := cell_of_row _ _ 2 _ _ _ K1
  have c3 := cell_of_row _ _ 3 _ _ _ K1
  have c4 := cell_of_row _ _ 4 _ _ _ K1
  have c5 := cell_of_row _ _ 5 _ _ _ K1
  have c6 := cell_of_row _ _ 6 _ _ _ K1
  have c7 := cell_of_row _ _ 7 _ _ _ K1
  have z0 := frozen_of_row _ _ 0 _ _ K1
  have z1 := frozen_of_row _ _ 1 _ _ K1
  have z2 := frozen_of_row _ _ 2 _ _ K1
  have z3 := frozen_of_row _ _ 3 _ _ K1
  have z4 := frozen_of_row _ _ 4 _ _ K1
  have z5 := frozen_of_row _ _ 5 _ _ K1
  have z6 := frozen_of_row _ _ 6 _ _ K1
  have z7 := frozen_of_row _ _ 7 _ _ K1
  clear K1
  go_wp2
  obtain ⟨W, hW⟩ : ∃ W, W = ((((((((w1.setCell ⟨w.heap.size, 0, none⟩ (.int .i64 0)).setCell ⟨w.heap.size, 1, none⟩ (.int .i64 0)).setCell ⟨w.heap.size, 2, none⟩ (.int .i64 0)).setCell ⟨w.heap.size, 3, none⟩ (.int .i64 0)).setCell ⟨w.heap.size, 4, none⟩ (.int .i64 0)).setCell ⟨w.heap.size, 5, none⟩ (.int .i64 0)).setCell ⟨w.heap.size, 6, none⟩ (.int .i64 0)).setCell ⟨w.heap.size, 7, none⟩ (.slice none 0 0)) := ⟨_, rfl⟩
  have KW : W.heap[w.heap.size]? = some (.cells #[.int .i64 0, .int .i64 0, .int .i64 0, .int .i64 0, .int .i64 0, .int .i64 0, .int .i64 0, .slice none 0 0] 24 (0, 0)) := by
    rw [hW]
    exact set_block _ _ 7 _ _ _ (set_block _ _ 6 _ _ _ (set_block _ _ 5 _ _ _ (set_block _ _ 4 _ _ _ (set_block _ _ 3 _ _ _ (set_block _ _ 2 _ _ _ (set_block _ _ 1 _ _ _ (set_block _ _ 0 _ _ _ KF.out)))))))
  have LW : Below w.heap.size w W := by
    rw [hW]
    exact bel_set (Nat.le_refl _) (bel_set (Nat.le_refl _) (bel_set (Nat.le_refl _) (bel_set (Nat.le_refl _) (bel_set (Nat.le_refl _) (bel_set (Nat.le_refl _) (bel_set (Nat.le_refl _) (bel_set (Nat.le_refl _) L1.out)))))))
  rw [← hW]
  clear hW c0 c1 c2 c3 c4 c5 c6 c7 z0 z1 z2 z3 z4 z5 z6 z7
  have c0 := cell_of_row _ _ 0 _ _ _ KW
  have c1 := cell_of_row _ _ 1 _ _ _ KW
  have c2 := cell_of_row _ _ 2 _ _ _ KW
  have c3 := cell_of_row _ _ 3 _ _ _ KW
  have c4 := cell_of_row _ _ 4 _ _ _ KW
  have c5 := cell_of_row _ _ 5 _ _ _ KW
  have c6 := cell_of_row _ _ 6 _ _ _ KW
  have c7 := cell_of_row _ _ 7 _ _ _ KW
  exact bodyPost_ret (v := .tuple #[.agg #[.int .i64 0, .int .i64 0, .int .i64 0, .int .i64 0, .int .i64 0, .int .i64 0, .int .i64 0, .slice none 0 0], .int .i64 (e : Int)]) (by simp [results, Tryd.results22, go_sem, *]) rfl ⟨rfl, LW⟩

def E1 : List UInt8 := frameOf [1, 3, 5, 172, 2, 0, 0, 0, 0]
def E2 : List UInt8 := E1.set 16 (E1.getD 16 0 ^^^ 1)
theorem enc_hello : encB ⟨1, 3, 5, 300, 0, 0, 0, []⟩ = E1 := by decide +kernel
theorem enc_self : encB ⟨1, 3, 3, 300, 0, 0, 0, []⟩ = [] := by decide +kernel
theorem E1_len : E1.length = 17 := by decide +kernel
theorem E1_0 : E1.getD 0 0 = 237 := by decide +kernel
theorem E1_7 : E1.getD 7 0 = 172 := by decide +kernel
theorem num_300 : vint 300 = [172, 2] := by decide +kernel
theorem open_E1 : (openF (E1.take 16)).2.2 = 21 := by decide +kernel
theorem open_E2 : (openF E2).2.2 = 22 := by decide +kernel

end Go.Proofs.YtgnpjenpehfjbaaDoor
