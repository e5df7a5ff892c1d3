/- awake: chapter 31's examples. -/
import Derived.Test.YtghgnalbahneoaaDoorHist20
import Derived.Test.YtghgnalbahneoaaDoorHist11
namespace Go.Proofs.YtghgnalbahneoaaDoor
open Go.RowKit

/-- a literal's row -/
theorem Its.lit {W : World} {g n : Nat} (l : List Int) {cs : Array Value} {t : TypeId} {fr : Nat × Nat} (h : W.heap[g]? = some (.cells cs t fr)) (hcs : cs = (l.map (Value.int .i64)).toArray) (hn : l.length = n) (hm : n ≤ 1000) : Its W W.heap.size (.slice (some ⟨g, 0, none⟩) n n) l := by
  subst hn
  refine ⟨_, _, rfl, Nat.le_refl _, by omega, (fun e => by cases e), fun _ => ⟨g, 0, rfl, (Array.getElem?_eq_some_iff.1 h).1, fun i hi => ?_⟩⟩
  rw [cell_of_row _ _ _ _ _ _ h, hcs]
  simp [hi, List.getD]

theorem cnt_a : cntF [0, 10] [-5, 0, 3, 10, 99] = [1, 2, 2] := by decide
theorem rank_a : rankF 1 2 5 = 3 := by decide
theorem quant_a {e : Ending} (h : QuantR [0, 10] [1, 2, 2] 1 2 0 e) : e = .returned (.tuple #[rgV true 0 true 10, .int .i64 0]) := by
  have hr : rankF 1 2 ([1, 2, 2] : List Int).sum = 3 := by decide
  unfold QuantR at h
  rw [hr] at h
  rcases h with ⟨h, -⟩ | ⟨-, h, -⟩ | ⟨-, -, ⟨k, hk, hP, hle, rfl⟩ | ⟨hP, -⟩⟩
  · omega
  · exact absurd h (by decide)
  · have : k = 0 ∨ k = 1 ∨ k = 2 := by simp at hk; omega
    rcases this with rfl | rfl | rfl
    · simp at hle
    · rfl
    · have := hP 1 (by omega); simp at this
  · have := hP 1 (by decide); simp at this
theorem rising_a : Rising [0, 10] := by
  refine ⟨by decide, by decide, fun i hi => ?_⟩
  have h2 : i + 1 < 2 := hi
  obtain rfl : i = 0 := by omega
  decide
theorem fit_a : FitH [0, 10] [1, 2, 2] := ⟨rising_a, rfl, by decide⟩
theorem rising_b : ¬ Rising [1, 1] := fun h => absurd (h.2.2 0 (by decide)) (by decide)
theorem text_a : textF [0, 10] [1, 2, 2] 4 = [45, 32, 46, 46, 32, 48, 32, 49, 32, 35, 35, 10, 48, 32, 46, 46, 32, 49, 48, 32, 50, 32, 35, 35, 35, 35, 10, 49, 48, 32, 46, 46, 32, 43, 32, 50, 32, 35, 35, 35, 35, 10] := by
  have hm : mostF [1, 2, 2] 3 = 2 := by decide
  have hw : widF 4 = 4 := by decide
  have h1 : barF 2 4 1 = 2 := by decide
  have h2 : barF 2 4 2 = 4 := by decide
  show textN [0, 10] [1, 2, 2] (mostF [1, 2, 2] 3) (widF 4) 3 = _
  rw [hm, hw]
  simp [textN, lineF, headF, lowF, highF, barL, h1, h2, Lib.itoa, Lib.decDigits, List.replicate]

set_option maxRecDepth 100000 in
set_option maxHeartbeats 1000000 in
theorem awake_any (w : World) (ht : TabT w) : Calls Tryd.prog 9 #[] w fun e w' => e = .returned (.bool true) ∧ Below w.heap.size w w' := by
  have HT := Lib.hid ht
  clear ht
  have g1 := bel_alloc (o := .cells #[.int .i64 0, .int .i64 10] 2) (Below.refl w.heap.size w) (Nat.le_refl _)
  have g2 := bel_alloc (o := .cells #[.int .i64 (-5), .int .i64 0, .int .i64 3, .int .i64 10, .int .i64 99] 2) (Below.refl (w.alloc (.cells #[.int .i64 0, .int .i64 10] 2)).heap.size _) (Nat.le_refl _)
  have k1 := stays (heap_alloc_new w (.cells #[.int .i64 0, .int .i64 10] 2)) g2
  have k2 := heap_alloc_new (w.alloc (.cells #[.int .i64 0, .int .i64 10] 2)) (.cells #[.int .i64 (-5), .int .i64 0, .int .i64 3, .int .i64 10, .int .i64 99] 2)
  simp only [World.size_alloc] at k2
  have hof := of_any _ _ [0, 10] [-5, 0, 3, 10, 99] _ (Its.lit (n := 2) [0, 10] k1 rfl rfl (by omega)) (Its.lit (n := 5) [-5, 0, 3, 10, 99] k2 rfl rfl (by omega)) (by decide) (by decide)
  have L := Lib.hid (g1.trans (g2.mono g1.size))
  clear g1 g2 k1 k2
  go_enter Tryd.func9, Tryd.ntmps9
  go_wp2_with (fail)
  refine hof.mono ?_
  rintro e w1 ⟨hR, hB1⟩
  rcases hR with ⟨hn, -⟩ | ⟨-, vb, vc, rfl, hO⟩
  · exact absurd rising_a hn
  rw [cnt_a] at hO
  obtain ⟨g3, k3⟩ := hist_new w1 vb vc
  have hO2 := hO.below g3
  have L1 := L.out.trans ((hB1.trans (g3.mono hB1.size)).mono L.out.size)
  have HQ := Lib.hid (quant_any vb vc [0, 10] [1, 2, 2] 1 2 _ hO2.b.its hO2.c.its fit_a)
  have HO := Lib.hid hO2
  have HL1 := Lib.hid L1
  have HK1 := Lib.hid k3
  have HT1 := Lib.hid (HT.out.below L1)
  obtain ⟨gc, cpc, hvc, -, -, -⟩ := hO.c.blk (by decide)
  obtain ⟨gb, cpb, hvb, -, -, -⟩ := hO.b.blk (by decide)
  subst hvc hvb
  clear hO hO2 L1 g3 k3 hB1 L hof
  have a0 := hiO_0 HK1.out
  have a1 := hiO_1 HK1.out
  go_wp2_with (fail)
  refine HQ.out.mono ?_
  rintro e w2 ⟨hQ, hB2⟩
  have := quant_a hQ
  subst this
  have HL2 := Lib.hid (HL1.out.trans (hB2.mono HL1.out.size))
  have HK2 := Lib.hid (stays HK1.out hB2)
  have HO2 := Lib.hid (HO.out.below hB2)
  have HT2 := Lib.hid (HT1.out.below hB2)
  generalize w1.heap.size = b1 at *
  clear hQ hB2 a0 a1 HQ HL1 HK1 HO HT1
  have g3 := bel_alloc (o := .cells #[.bool true, .int .i64 0, .bool true, .int .i64 10] 28) (Below.refl w2.heap.size w2) (Nat.le_refl _)
  have k3 := heap_alloc_new w2 (.cells #[.bool true, .int .i64 0, .bool true, .int .i64 10] 28)
  have g4 := bel_alloc (o := .cells #[.int .i64 1, .int .i64 1] 2) (Below.refl (w2.alloc (.cells #[.bool true, .int .i64 0, .bool true, .int .i64 10] 28)).heap.size _) (Nat.le_refl _)
  have k4 := heap_alloc_new (w2.alloc (.cells #[.bool true, .int .i64 0, .bool true, .int .i64 10] 28)) (.cells #[.int .i64 1, .int .i64 1] 2)
  simp only [World.size_alloc] at k4
  have G := Lib.hid (g3.trans (g4.mono g3.size))
  have HN := Lib.hid (new_any _ [1, 1] _ (Its.lit (n := 2) [1, 1] k4 rfl rfl (by omega)))
  have HK3 := Lib.hid (stays k3 g4)
  clear g3 g4 k3 k4
  simp only [rgV]
  go_wp2_with (fail)
  refine HN.out.mono ?_
  rintro e w3 ⟨hR, hB3⟩
  rcases hR.symm with ⟨hn, -⟩ | ⟨-, rfl⟩
  · exact absurd hn rising_b
  have G2 := G.out.trans (hB3.mono G.out.size)
  obtain ⟨g5, k5⟩ := hist_new w3 (.slice none 0 0) (.slice none 0 0)
  have g6 := bel_alloc (o := .cells #[.int .i64 1, .int .i64 2, .int .i64 2] 2) (Below.refl (w3.alloc (.cells #[.slice none 0 0, .slice none 0 0] 24)).heap.size _) (Nat.le_refl _)
  have k6 := heap_alloc_new (w3.alloc (.cells #[.slice none 0 0, .slice none 0 0] 24)) (.cells #[.int .i64 1, .int .i64 2, .int .i64 2] 2)
  simp only [World.size_alloc] at k6
  have G3 := G2.trans ((g5.trans (g6.mono g5.size)).mono G2.size)
  have HL3 := Lib.hid (HL2.out.trans (G3.mono HL2.out.size))
  have HO3 := Lib.hid (HO2.out.below G3)
  have HT3 := Lib.hid (HT2.out.below G3)
  have HKh := Lib.hid (stays HK2.out G3)
  have HKh0 := Lib.hid (stays (stays HK2.out G2) g5)
  have HKr := Lib.hid (stays HK3.out (hB3.trans ((g5.trans (g6.mono g5.size)).mono hB3.size)))
  have HI := Lib.hid (ints_any _ _ [1, 2, 2] [1, 2, 2] _ HO3.out.c.its (Its.lit (n := 3) [1, 2, 2] k6 rfl rfl (by omega)))
  clear G2 g5 k5 g6 k6 G3 HK3 HK2 HL2 HO2 HT2 hB3 HN G
  generalize w2.heap.size = b2 at *
  have a0 := hiO_0 HKh0.out
  have a1 := hiO_1 HKh0.out
  go_wp2_with (fail)
  refine HI.out.mono ?_
  rintro e w4 ⟨rfl, n, rfl⟩
  have gd := bdN ((w3.alloc (.cells #[.slice none 0 0, .slice none 0 0] 24)).alloc (.cells #[.int .i64 1, .int .i64 2, .int .i64 2] 2)).heap.size ((w3.alloc (.cells #[.slice none 0 0, .slice none 0 0] 24)).alloc (.cells #[.int .i64 1, .int .i64 2, .int .i64 2] 2)) n
  have HL4 := Lib.hid (HL3.out.trans (gd.mono HL3.out.size))
  have HO4 := Lib.hid (HO3.out.below gd)
  have HT4 := Lib.hid (HT3.out.below gd)
  have HKh4 := Lib.hid (stays HKh.out gd)
  have HKr4 := Lib.hid (stays HKr.out gd)
  clear gd HL3 HO3 HT3 HKh HKh0 HKr HI a0 a1
  generalize ((w3.alloc (.cells #[.slice none 0 0, .slice none 0 0] 24)).alloc (.cells #[.int .i64 1, .int .i64 2, .int .i64 2] 2)).drewN n = W4 at *
  have a0 := hiO_0 HKh4.out
  have a1 := hiO_1 HKh4.out
  have q0 := cell_of_row _ _ 0 _ _ _ HKr4.out
  have q1 := cell_of_row _ _ 1 _ _ _ HKr4.out
  have q2 := cell_of_row _ _ 2 _ _ _ HKr4.out
  have q3 := cell_of_row _ _ 3 _ _ _ HKr4.out
  have HX := Lib.hid (textH_any _ _ [0, 10] [1, 2, 2] 4 W4 HO4.out.b.its HO4.out.c.its fit_a (fun j => by rcases j with _ | _ | j <;> simp) HT4.out)
  rw [text_a] at HX
  simp only [decide_true]
  go_wp2_with (fail)
  refine HX.out.mono ?_
  rintro e w5 ⟨rfl, hB5⟩
  have HL5 := Lib.hid (HL4.out.trans (hB5.mono HL4.out.size))
  clear hB5 HX
  go_wp2
  go_ret
  exact ⟨rfl, HL5.out⟩
end Go.Proofs.YtghgnalbahneoaaDoor
