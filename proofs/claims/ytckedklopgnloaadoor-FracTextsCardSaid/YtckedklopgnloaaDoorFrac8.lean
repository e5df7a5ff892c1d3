/- between: the terms that both ends have. -/
import Derived.Test.YtckedklopgnloaaDoorFrac7
import Derived.Deep.LoopGhost
namespace Go.Proofs.YtckedklopgnloaaDoor
open Go.RowKit

theorem RowI.of_own {w : World} {B : Nat} {v : Value} {xs : List Int} (h : OwnI w B v xs) (hx : 0 < xs.length) : RowI w v xs := h.row hx
/-- between's three boxes and its list -/
structure Btw (w : World) (ln ld hn hd : Int) (lv : Value) (xs : List Int) (W : World) : Prop where
  box : Box3 w ln ld hn hd 0 0 W
  own : OwnI W (w.heap.size + 1 + 1 + 1) lv xs
theorem Btw.step {w W W' : World} {ln ld hn hd : Int} {lv : Value} {xs : List Int} (h : Btw w ln ld hn hd lv xs W) (g : Below W.heap.size W W') : Btw w ln ld hn hd lv xs W' := ⟨h.box.step g, h.own.below g⟩
theorem Btw.grown {w W W' : World} {ln ld hn hd : Int} {lv lv2 : Value} {xs ys : List Int} (h : Btw w ln ld hn hd lv xs W) (g : W.grownBy W' lv.ownBlock) (ho : OwnI W' (w.heap.size + 1 + 1 + 1) lv2 ys) : Btw w ln ld hn hd lv2 ys W' := by
  have hlt : ∀ k, lv.ownBlock = some k → w.heap.size + 1 + 1 + 1 ≤ k := fun k hk => (World.ownsRow.lt h.own k hk).1
  have hz := h.box.size
  refine ⟨⟨h.box.low.grown g (by omega) (fun k hk => by have := hlt k hk; omega), by have := g.size; omega, ?_, ?_, ?_⟩, ho⟩
  · exact (g.block _ (by omega) (fun e => by have := hlt _ e.symm; omega)).trans h.box.a
  · exact (g.block _ (by omega) (fun e => by have := hlt _ e.symm; omega)).trans h.box.b
  · exact (g.block _ (by omega) (fun e => by have := hlt _ e.symm; omega)).trans h.box.r
theorem Btw.set {w W : World} {ln ld hn hd : Int} {lv : Value} {xs : List Int} (h : Btw w ln ld hn hd lv xs W) (a b c d : Int) :
    Btw w a b c d lv xs ((((W.setCell ⟨w.heap.size, 0, none⟩ (.int .i64 a)).setCell ⟨w.heap.size, 1, none⟩ (.int .i64 b)).setCell ⟨w.heap.size + 1, 0, none⟩ (.int .i64 c)).setCell ⟨w.heap.size + 1, 1, none⟩ (.int .i64 d)) := by
  have hz := h.box.size
  refine ⟨⟨bel_set (by omega) (bel_set (by omega) (bel_set (Nat.le_refl _) (bel_set (Nat.le_refl _) h.box.low))), by simpa [World.setCell] using hz, ?_, ?_, ?_⟩, ?_⟩
  · rw [Below.heap_setCell _ _ _ _ (show w.heap.size ≠ w.heap.size + 1 by omega), Below.heap_setCell _ _ _ _ (show w.heap.size ≠ w.heap.size + 1 by omega)]
    have h1 := heap_setCell_same W w.heap.size 0 _ _ (.int .i64 a) h.box.a
    rw [heap_setCell_same _ w.heap.size 1 _ _ (.int .i64 b) h1]; rfl
  · have h0 : ((W.setCell ⟨w.heap.size, 0, none⟩ (.int .i64 a)).setCell ⟨w.heap.size, 1, none⟩ (.int .i64 b)).heap[w.heap.size + 1]? = some (.cells #[.int .i64 hn, .int .i64 hd] 23 (0, 0)) := by
      rw [Below.heap_setCell _ _ _ _ (show w.heap.size + 1 ≠ w.heap.size by omega), Below.heap_setCell _ _ _ _ (show w.heap.size + 1 ≠ w.heap.size by omega)]; exact h.box.b
    have h1 := heap_setCell_same _ (w.heap.size + 1) 0 _ _ (.int .i64 c) h0
    rw [heap_setCell_same _ (w.heap.size + 1) 1 _ _ (.int .i64 d) h1]; rfl
  · rw [Below.heap_setCell _ _ _ _ (show w.heap.size + 1 + 1 ≠ w.heap.size + 1 by omega), Below.heap_setCell _ _ _ _ (show w.heap.size + 1 + 1 ≠ w.heap.size + 1 by omega), Below.heap_setCell _ _ _ _ (show w.heap.size + 1 + 1 ≠ w.heap.size by omega), Below.heap_setCell _ _ _ _ (show w.heap.size + 1 + 1 ≠ w.heap.size by omega)]
    exact h.box.r
  · exact ownsRow_setCell_below (ownsRow_setCell_below (ownsRow_setCell_below (ownsRow_setCell_below h.own (by show w.heap.size < _; omega) _) (by show w.heap.size < _; omega) _) (by show w.heap.size + 1 < _; omega) _) (by show w.heap.size + 1 < _; omega) _

theorem bounds_cont {ln ld hn hd : Int} {xs : List Int} {c : Int} (h : Rng ln ld hn hd) (hs : Smp ln ld hn hd (cont xs c 1).1 (cont xs c 1).2) : (cont xs c 1).1 ≤ 2147483647 ∧ (cont xs c 1).2 ≤ 2147483647 := by
  obtain ⟨b1, b2, b3, b4, b5, b6⟩ := hs.bounds (by have := h.1; omega)
  obtain ⟨h1, h2, h3, h4, h5, h6, h7, h8, h9⟩ := h
  omega

set_option maxRecDepth 100000 in
set_option maxHeartbeats 8000000 in
theorem between_any (ln ld hn hd : Int) (w : World) (h : Rng ln ld hn hd) :
    Calls Tryd.prog 47 #[frV ln ld, frV hn hd] w fun e w' => ∃ p q, e = .returned (frV p q) ∧ Smp ln ld hn hd p q ∧ Below w.heap.size w w' := by
  have HRn := Lib.hid h
  have HS0 : Hid (Btw w ln ld hn hd (.slice none 0 0) [] _) := ⟨Box3.start w ln ld hn hd 0 0, OwnI.nil _ _⟩
  obtain ⟨h1, h2, h3, h4, h5, h6, h7, h8, h9⟩ := h
  go_enter Tryd.func47, Tryd.ntmps47
  go_wp2
  go_step3
  go_wp2
  go_step3
  go_wp2
  go_loopg [5] ((ld + hd).toNat) (fun k lv wr => ∃ (a b c d : Int) (xs : List Int), Hid ((b + d).toNat ≤ k) ∧ Hid (Rng a b c d) ∧ Hid (∀ x ∈ xs, 0 ≤ x) ∧ Hid (∀ p q, Smp a b c d p q → Smp ln ld hn hd (cont xs p q).1 (cont xs p q).2) ∧ Hid ((xs.length : Int) + b + d ≤ ld + hd) ∧ Hid (Btw w a b c d lv xs wr))
  case atStart => exact ⟨ln, ld, hn, hd, [], Nat.le_refl _, HRn, (by intro x hx; cases hx), (fun p q h => h), (by show _ ≤ _; simp), HS0⟩
  case round =>
    obtain ⟨a, b, c, d, xs, HK, HR, HX, HC, HL, HB⟩ := hrel
    obtain ⟨g1, g2, g3, g4, g5, g6, g7, g8, g9⟩ := HR.out
    obtain ⟨f1, f2⟩ := floor_facts a b (by omega)
    have cf : ∀ W, _ := fun W => floor_any a b W (by omega) (by omega) (by omega) (by omega)
    generalize a / b = u at *
    have hu1 : 0 < u + 1 := lt_of_mul (k := b) (by omega) (by omega)
    have hu : 0 ≤ u := by omega
    have mb := Int.mul_nonneg hu (show 0 ≤ b by omega)
    have mle := le_mul_self hu (show 1 ≤ b by omega)
    have mbu : u * b ≤ 2147483647 := by omega
    have hub : u ≤ 2147483647 := by omega
    obtain ⟨a0, a1, b0, b1, -, -, -, -, q0, q1, q2, q3⟩ := HB.out.box.facts
    by_cases he : a = u * b
    · have hu2 : 1 ≤ u := by
        rcases Int.lt_or_le 0 u with h | h
        · omega
        · have : u = 0 := by omega
          subst this; omega
      have hxd : u * d ≤ c := by
        have e2 : u * d * b = u * b * d := by rw [Int.mul_assoc, Int.mul_comm d b, ← Int.mul_assoc]
        rcases Int.lt_or_le c (u * d) with h | h
        · have := Int.mul_lt_mul_of_pos_right h (show 0 < b by omega)
          rw [e2, ← he] at this; omega
        · exact h
      have HSm := Lib.hid (Smp.whole (ln := a) (c := u) (hn := c) (show 0 < b by omega) (show 0 < d by omega) (by rw [Int.sub_mul]; omega) (by omega) hxd)
      have het : (a == u * b) = true := by rw [beq_iff_eq]; exact he
      clear he hxd f1 f2 hu1 g9
      go_wp2_with fail
      refine (cf _).mono ?_
      rintro e w1 ⟨rfl, hB1⟩
      have HB1 := Lib.hid (HB.out.step hB1)
      clear a0 a1 b0 b1 q0 q1 q2 q3 hB1 cf
      obtain ⟨a0, a1, b0, b1, -, -, -, -, q0, q1, q2, q3⟩ := HB1.out.box.facts
      have HB2 := Lib.hid (HB1.out.step ((Below.refl w1.heap.size w1).alloc (Nat.le_refl _) (.cells #[.int .i64 u] 2)))
      go_wp2_with (at_builtin; (refine wpList_append_i64 rfl _ _ rfl (w.heap.size + 1 + 1 + 1) _ xs rfl (HB2.out.own) w1.heap.size u rfl (heap_alloc_new w1 _) (by have := HL.out; omega) (by have := HB2.out.box.size; omega) ?_))
      intro v2 w2 hown2 hg2
      have HB3 := Lib.hid ((HB2.out.grown hg2 hown2))
      have hrow := hown2.row (by simp)
      obtain ⟨bd1, bd2⟩ := bounds_cont HRn.out (HC.out _ _ HSm.out)
      have cj := joined_any v2 xs u w2 hrow HX.out (by omega) bd1 bd2 (by have := HL.out; omega)
      have HF := Lib.hid (HC.out _ _ HSm.out)
      clear hown2 hg2 hrow bd1 bd2
      generalize (cont xs u 1).1 = p at *
      generalize (cont xs u 1).2 = q at *
      go_wp2_with fail
      refine cj.mono ?_
      rintro e w3 ⟨rfl, hBj⟩
      have HB4 := Lib.hid (HB3.out.step hBj)
      obtain ⟨-, -, -, -, r0, r1, q0, q1, -, -, -, -⟩ := HB4.out.box.facts
      clear cj hBj
      go_wp2_with fail
      try rw [Exit.noGoto_ret]
      exact bodyPost_ret (v := frV p q) (by simp [results, Tryd.results47, go_sem, *]) rfl ⟨_, _, rfl, HF.out, bel_set (by omega) (bel_set (by omega) HB4.out.box.low)⟩
    · have hz : u * b ≠ a := fun h => he h.symm
      have het : (a == u * b) = false := by rw [beq_eq_false_iff_ne]; exact he
      by_cases hx : (u + 1) * d ≤ c
      · have HSm := Lib.hid (Smp.whole (ln := a) (c := u + 1) (hn := c) (show 0 < b by omega) (show 0 < d by omega) (by rw [Int.add_sub_cancel]; omega) (by omega) hx)
        have mb2 := Int.mul_nonneg (show 0 ≤ u + 1 by omega) (show 0 ≤ d by omega)
        clear he f1 f2 hu1 g9 hz
        go_wp2_with fail
        refine (cf _).mono ?_
        rintro e w1 ⟨rfl, hB1⟩
        have HB1 := Lib.hid (HB.out.step hB1)
        clear a0 a1 b0 b1 q0 q1 q2 q3 hB1 cf
        obtain ⟨a0, a1, b0, b1, -, -, -, -, q0, q1, q2, q3⟩ := HB1.out.box.facts
        have HB2 := Lib.hid (HB1.out.step ((Below.refl w1.heap.size w1).alloc (Nat.le_refl _) (.cells #[.int .i64 (u + 1)] 2)))
        go_wp2_with (at_builtin; (refine wpList_append_i64 rfl _ _ rfl (w.heap.size + 1 + 1 + 1) _ xs rfl (HB2.out.own) w1.heap.size (u + 1) rfl (heap_alloc_new w1 _) (by have := HL.out; omega) (by have := HB2.out.box.size; omega) ?_))
        intro v2 w2 hown2 hg2
        have HB3 := Lib.hid ((HB2.out.grown hg2 hown2))
        have hrow := hown2.row (by simp)
        obtain ⟨bd1, bd2⟩ := bounds_cont HRn.out (HC.out _ _ HSm.out)
        have cj := joined_any v2 xs (u + 1) w2 hrow HX.out (by omega) bd1 bd2 (by have := HL.out; omega)
        have HF := Lib.hid (HC.out _ _ HSm.out)
        clear hown2 hg2 hrow bd1 bd2
        generalize (cont xs (u + 1) 1).1 = p at *
        generalize (cont xs (u + 1) 1).2 = q at *
        go_wp2_with fail
        refine cj.mono ?_
        rintro e w3 ⟨rfl, hBj⟩
        have HB4 := Lib.hid (HB3.out.step hBj)
        obtain ⟨-, -, -, -, r0, r1, q0, q1, -, -, -, -⟩ := HB4.out.box.facts
        clear cj hBj
        go_wp2_with fail
        try rw [Exit.noGoto_ret]
        exact bodyPost_ret (v := frV p q) (by simp [results, Tryd.results47, go_sem, *]) rfl ⟨_, _, rfl, HF.out, bel_set (by omega) (bel_set (by omega) HB4.out.box.low)⟩
      · have hxx : c < (u + 1) * d := by omega
        obtain ⟨n1, n2, n3, n4, n5, n6, hRng, hdec⟩ := HR.out.next f1 f2 hxx hz
        have hlt : u * b < a := by omega
        have hg3 : 0 < c - u * d := by have := hRng.2.2.1; omega
        have HC2 : Hid (∀ p q, Smp d (c - u * d) b (a - u * b) p q → Smp ln ld hn hd (cont (xs ++ [u]) p q).1 (cont (xs ++ [u]) p q).2) := fun p q h => by
          rw [cont_snoc]
          exact HC.out _ _ (Smp.deep (by omega) (by omega) hg3 hlt f2 hxx h)
        have HR2 := Lib.hid hRng
        have HX2 : Hid (∀ x ∈ xs ++ [u], 0 ≤ x) := fun x hx => by
          rcases List.mem_append.1 hx with h | h
          · exact HX.out x h
          · simp at h; omega
        have mb2 : (u + 1) * d ≤ 4294967296 := by rw [Int.add_mul]; omega
        have mb3 := Int.mul_nonneg (show 0 ≤ u + 1 by omega) (show 0 ≤ d by omega)
        obtain ⟨gk', rfl⟩ : ∃ g', gk = g' + 1 := ⟨gk - 1, by have := HK.out; omega⟩
        have HK2 : Hid (((c - u * d) + (a - u * b)).toNat ≤ gk') := by have := HK.out; show _ ≤ _; omega
        have HL2 : Hid (((xs ++ [u]).length : Int) + (c - u * d) + (a - u * b) ≤ ld + hd) := by have := HL.out; show _ ≤ _; simp; omega
        clear he f1 f2 hu1 g9 hz hx hlt hg3 hRng hdec
        go_wp2_with fail
        refine (cf _).mono ?_
        rintro e w1 ⟨rfl, hB1⟩
        have HB1 := Lib.hid (HB.out.step hB1)
        clear a0 a1 b0 b1 q0 q1 q2 q3 hB1 cf
        obtain ⟨a0, a1, b0, b1, -, -, -, -, q0, q1, q2, q3⟩ := HB1.out.box.facts
        have HB2 := Lib.hid (HB1.out.step ((Below.refl w1.heap.size w1).alloc (Nat.le_refl _) (.cells #[.int .i64 u] 2)))
        go_wp2_with (at_builtin; (refine wpList_append_i64 rfl _ _ rfl (w.heap.size + 1 + 1 + 1) _ xs rfl (HB2.out.own) w1.heap.size u rfl (heap_alloc_new w1 _) (by have := HL.out; omega) (by have := HB2.out.box.size; omega) ?_))
        intro v2 w2 hown2 hg2
        have HB3 := Lib.hid ((HB2.out.grown hg2 hown2))
        clear a0 a1 b0 b1 q0 q1 q2 q3 hown2 hg2
        obtain ⟨a0, a1, b0, b1, -, -, -, -, q0, q1, q2, q3⟩ := HB3.out.box.facts
        go_wp2_with fail
        go_roundg gk'
        case rel => exact ⟨d, c - u * d, b, a - u * b, xs ++ [u], HK2, HR2, HX2, HC2, HL2, HB3.out.set _ _ _ _⟩
        all_goals omega

end Go.Proofs.YtckedklopgnloaaDoor
