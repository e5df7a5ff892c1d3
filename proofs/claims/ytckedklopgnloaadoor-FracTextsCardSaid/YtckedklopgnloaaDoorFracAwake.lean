/- awake: chapter 2's examples. -/
import Derived.Test.YtckedklopgnloaaDoorFrac9
import Derived.Test.YtckedklopgnloaaDoorFracT
import Derived.Test.YtckedklopgnloaaDoorFracTerms3
namespace Go.Proofs.YtckedklopgnloaaDoor
open Go.RowKit

/-- a fraction in a new box -/
theorem box_new (w : World) (a b : Int) : Below w.heap.size w (w.alloc (.cells #[.int .i64 a, .int .i64 b] 23)) ∧ (w.alloc (.cells #[.int .i64 a, .int .i64 b] 23)).heap[w.heap.size]? = some (frO a b) :=
  ⟨bel_alloc (Below.refl _ _) (Nat.le_refl _), heap_alloc_new _ _⟩
/-- a block that is there stays -/
theorem stays {W W' : World} {k : Nat} {o : Obj} (h : W.heap[k]? = some o) (hb : Below W.heap.size W W') : W'.heap[k]? = some o := (hb.block _ (Array.getElem?_eq_some_iff.1 h).1).trans h

theorem mk_a : mkF 6 (-4) = ((-3, 2), 0) := by decide
theorem mk_b : mkF 1 0 = ((0, 0), 11) := by decide
theorem text_a : fracText (-3) 2 = [45, 51, 47, 50] := by
  simp [fracText, Lib.itoa, Lib.decDigits]
theorem terms_a : termsI 355 113 = [3, 7, 16] := by
  rw [termsI_step _ _ (by omega), if_neg (by decide), termsI_step _ _ (by decide), if_neg (by decide), termsI_step _ _ (by decide), if_pos (by decide)]
  rfl
theorem near_a {n d : Int} {ok : Bool} (h : NearR 31 10 16 5 n d ok) : n = 16 ∧ d = 5 ∧ ok = true := by
  refine NearR.only (by omega) (by omega) (n := 16) (d := 5) (ok := true) ?_ h
  refine .inr ⟨by omega, rfl, .inr (.inr ⟨by omega, ?_⟩)⟩
  have : Smp 31 10 16 5 (3 * 5 + 1) 5 := Smp.deep (w := 3) (by omega) (by omega) (by omega) (by omega) (by omega) (by omega) (Smp.whole (c := 5) (by omega) (by omega) (by omega) (by omega) (by omega))
  exact this

set_option maxRecDepth 100000 in
set_option maxHeartbeats 400000 in
theorem awake_any (w : World) (ht : TabT w) : Calls Tryd.prog 16 #[] w fun e w' => e = .returned (.bool true) ∧ Below w.heap.size w w' := by
  have c1 := make_any 6 (-4) w (by omega) (by omega) (by omega) (by omega)
  rw [mk_a] at c1
  have c2 : ∀ W, _ := fun W => make_any 1 0 W (by omega) (by omega) (by omega) (by omega)
  rw [mk_b] at c2
  have c3 : ∀ W, _ := fun W => near_any 31 10 16 5 W (by decide) (by decide)
  have c4 : ∀ W, _ := fun W => terms_any 355 113 W (by omega) (by omega) (by omega) (by omega)
  rw [terms_a] at c4
  have c5 : ∀ W, _ := fun W => text_any (-3) 2 (by omega) (by omega) (by omega) (by omega) W
  rw [text_a] at c5
  have c6 : ∀ W, _ := fun W => valid_any (-3) 2 W (by omega) (by omega) (by omega) (by omega)
  go_enter Tryd.func16, Tryd.ntmps16
  go_wp2_with (fail)
  refine c1.mono ?_
  rintro e w1 ⟨rfl, hB1⟩
  obtain ⟨g1, k1⟩ := box_new w1 (-3) 2
  simp only [mkV]
  go_wp2_with (fail)
  refine (c2 _).mono ?_
  rintro e w2 ⟨rfl, hB2⟩
  have l1 := Lib.hid (hB1.trans ((g1.trans (hB2.mono g1.size)).mono hB1.size))
  have k1 := Lib.hid (stays k1 hB2)
  have z1 : Hid (w1.heap.size < w2.heap.size) := (Array.getElem?_eq_some_iff.1 k1.out).1
  generalize w1.heap.size = b1 at *
  clear hB1 g1 hB2 c1 c2
  obtain ⟨g2, k2⟩ := box_new w2 0 0
  simp only [mkV]
  go_wp2_with (fail)
  refine (c3 _).mono ?_
  rintro e w3 ⟨x, y, ok, rfl, hN, hB3⟩
  obtain ⟨rfl, rfl, rfl⟩ := near_a hN
  have l2 := Lib.hid (l1.out.trans ((g2.trans (hB3.mono g2.size)).mono l1.out.size))
  have k1 := Lib.hid (stays k1.out (g2.trans (hB3.mono g2.size)))
  clear hN hB3 g2 k2 z1 l1 c3
  generalize w2.heap.size = b2 at *
  obtain ⟨g3, k3⟩ := box_new w3 16 5
  simp only [nearV]
  go_wp2_with (fail)
  refine (c4 _).mono ?_
  rintro e w4 ⟨v, rfl, hown, hB4⟩
  have l3 := Lib.hid (l2.out.trans ((g3.trans (hB4.mono g3.size)).mono l2.out.size))
  have k1 := Lib.hid (stays k1.out (g3.trans (hB4.mono g3.size)))
  have k3 := Lib.hid (stays k3 hB4)
  generalize w3.heap.size = b3 at *
  obtain ⟨g, cap, rfl, hg, hcell⟩ := hown.row (by simp)
  have hc := hcell 2 (by simp)
  simp only [List.length_cons, List.length_nil, List.getD, List.getElem?_cons_succ, List.getElem?_cons_zero, Option.getD_some] at hc ⊢
  clear hown hB4 l2 g3 c4 hcell
  have a0 := cell_of_row _ _ 0 _ _ _ k1.out
  have a1 := cell_of_row _ _ 1 _ _ _ k1.out
  have b0 := cell_of_row _ _ 0 _ _ _ k3.out
  have b1 := cell_of_row _ _ 1 _ _ _ k3.out
  have ht4 := ht.below l3.out
  go_wp2_with (fail)
  refine (c5 _ ht4).mono ?_
  rintro e w5 ⟨rfl, hB5⟩
  have l5 := Lib.hid (l3.out.trans (hB5.mono l3.out.size))
  have k1 := Lib.hid (stays k1.out hB5)
  clear hB5 a0 a1 b0 b1 c5 ht4 l3
  have a0 := cell_of_row _ _ 0 _ _ _ k1.out
  have a1 := cell_of_row _ _ 1 _ _ _ k1.out
  have c6 := c6 w5
  rw [show valB (-3) 2 = true by decide] at c6
  go_wp2_with (fail)
  refine c6.mono ?_
  rintro e w6 ⟨rfl, hB6⟩
  have l6 := Lib.hid (l5.out.trans (hB6.mono l5.out.size))
  go_wp2
  go_ret
  exact ⟨rfl, l6.out⟩

end Go.Proofs.YtckedklopgnloaaDoor
