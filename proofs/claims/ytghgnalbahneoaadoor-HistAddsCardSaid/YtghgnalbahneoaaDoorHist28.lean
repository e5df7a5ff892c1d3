/- The law package's copied. -/
import Derived.Test.YtghgnalbahneoaaDoorHist10
namespace Go.Proofs.YtghgnalbahneoaaDoor
open Go.RowKit

set_option maxRecDepth 100000 in
set_option maxHeartbeats 1000000 in
theorem lcopied_any (vb vc : Value) (bs cs : List Int) (w : World) (hb : Its w w.heap.size vb bs) (hc : Its w w.heap.size vc cs) (hl1 : bs.length ≤ 1000) (hl2 : cs.length ≤ 1000) : Calls Tryd.prog 31 #[hiV vb vc] w fun e w' => (∃ ub uc, e = .returned (hiV ub uc) ∧ Its w' w'.heap.size ub bs ∧ Its w' w'.heap.size uc cs) ∧ Below w.heap.size w w' := by
  obtain ⟨g0, k0⟩ := hist_new w vb vc
  obtain ⟨g1, k1⟩ := hist_new (w.alloc (.cells #[vb, vc] 24)) (.slice none 0 0) (.slice none 0 0)
  obtain ⟨g2, k2⟩ := hist_new ((w.alloc (.cells #[vb, vc] 24)).alloc (.cells #[.slice none 0 0, .slice none 0 0] 24)) (.slice none 0 0) (.slice none 0 0)
  have G01 := g0.trans (g1.mono g0.size)
  have L := Lib.hid (G01.trans (g2.mono G01.size))
  have KA0 := stays (stays k0 g1) g2
  have KR0 := stays k1 g2
  have KC0 := k2
  simp only [World.size_alloc] at KR0 KC0
  have HB := Lib.hid (((hb.kept g0).kept g1).kept g2)
  have HC := Lib.hid (((hc.kept g0).kept g1).kept g2)
  have KA := Lib.hid KA0
  have HC0 := Lib.hid hc
  have KR := Lib.hid KR0
  have KC := Lib.hid KC0
  clear g0 g1 g2 k0 k1 k2 G01 KA0 KR0 KC0
  obtain ⟨ab, capb, hvb, -⟩ := hb.slice
  obtain ⟨ac, capc, hvc, -⟩ := hc.slice
  subst hvb hvc
  obtain ⟨nb, hnb⟩ : ∃ n, n = bs.length := ⟨_, rfl⟩
  obtain ⟨nc, hnc⟩ : ∃ n, n = cs.length := ⟨_, rfl⟩
  rw [← hnb] at hl1
  rw [← hnc] at hl2
  rw [← hnb, ← hnc] at L HB HC KA KR KC ⊢
  rw [← hnc] at HC0
  have NB := Lib.hid hnb
  have NC := Lib.hid hnc
  clear hb hc hnb hnc
  have x0 := hiO_0 KC.out
  have x1 := hiO_1 KC.out
  have z0 := hiF_0 KC.out
  have z1 := hiF_1 KC.out
  have a0 := hiO_0 KA.out
  have a1 := hiO_1 KA.out
  go_enter Tryd.func31, Tryd.ntmps31
  go_wp2_with (at_builtin; (generalize hgoal : wpList _ _ _ _ _ _ = G))
  subst hgoal
  clear x0 x1 z0 z1 a0 a1
  generalize (((w.alloc (.cells #[.slice ab nb capb, .slice ac nc capc] 24)).alloc (.cells #[.slice none 0 0, .slice none 0 0] 24)).alloc (.cells #[.slice none 0 0, .slice none 0 0] 24)) = W0 at *
  refine wpList_append_its rfl _ _ rfl W0.heap.size _ [] rfl (OwnI.nil _ _) (.slice ab nb capb) bs rfl HB.out (by have := NB.out; rw [List.length_nil]; omega) (Nat.le_refl _) ?_
  intro v1 w1 hown hg
  have hB : Below W0.heap.size W0 w1 := (Below.refl _ _).grown hg (Nat.le_refl _) (fun k e => by cases e)
  obtain ⟨q1, e1, hv1, -⟩ := hown.its.slice
  rw [List.nil_append] at hown hv1
  subst hv1
  have hsz := (Array.getElem?_eq_some_iff.1 KC.out).1
  have hset := hown.set (b := w.heap.size + 1 + 1) (o := 0) hsz (u := (.slice q1 bs.length e1))
  have HI1 := Lib.hid hset
  have L1 := Lib.hid (L.out.trans (hB.mono L.out.size))
  have KA1 := Lib.hid (stays KA.out hB)
  have KR1 := Lib.hid (stays KR.out hB)
  have KC1 := Lib.hid (stays KC.out hB)
  have HC1 := Lib.hid (HC.out.kept hB)
  have HSZ : Hid (w.heap.size + 1 + 1 < w1.heap.size) := Nat.lt_of_lt_of_le hsz hB.size
  rw [← NB.out] at HI1 ⊢
  clear hown hg hB hsz hset
  have x0 := hiO_0 KC1.out
  have x1 := hiO_1 KC1.out
  have z0 := hiF_0 KC1.out
  have z1 := hiF_1 KC1.out
  have a0 := hiO_0 KA1.out
  have a1 := hiO_1 KA1.out
  have KC2 := Lib.hid (heap_setCell_same w1 (w.heap.size + 1 + 1) 0 _ _ (.slice q1 nb e1) KC1.out)
  have o : ∀ k, k ≠ w.heap.size + 1 + 1 → (w1.setCell ⟨w.heap.size + 1 + 1, 0, none⟩ (.slice q1 nb e1)).heap[k]? = w1.heap[k]? := fun k h => Below.heap_setCell _ _ _ _ h
  have KA2 := Lib.hid ((o _ (by omega)).trans KA1.out)
  have KR2 := Lib.hid ((o _ (by omega)).trans KR1.out)
  have L2 : Hid (Below w.heap.size w (w1.setCell ⟨w.heap.size + 1 + 1, 0, none⟩ (.slice q1 nb e1))) := bel_set (by omega) L1.out
  clear o
  have HC2 : Hid (Its (w1.setCell ⟨w.heap.size + 1 + 1, 0, none⟩ (.slice q1 nb e1)) (w1.setCell ⟨w.heap.size + 1 + 1, 0, none⟩ (.slice q1 nb e1)).heap.size (.slice ac nc capc) cs) := HC0.out.below L2.out L2.out.size
  have SZ0 : Hid (w.heap.size + 1 + 1 < W0.heap.size) := (Array.getElem?_eq_some_iff.1 KC.out).1
  have KC2' : Hid ((w1.setCell ⟨w.heap.size + 1 + 1, 0, none⟩ (.slice q1 nb e1)).heap[w.heap.size + 1 + 1]? = some (hiO (.slice q1 nb e1) (.slice none 0 0))) := KC2.out
  have y0 := hiO_0 KC2'.out
  have y1 := hiO_1 KC2'.out
  have b1 := hiO_1 KA2.out
  go_wp2_with (at_builtin; (generalize hgoal : wpList _ _ _ _ _ _ = G))
  subst hgoal
  clear x0 x1 z0 z1 a0 a1 y0 y1 b1 KC2
  generalize (w1.setCell ⟨w.heap.size + 1 + 1, 0, none⟩ (.slice q1 nb e1)) = W2 at *
  refine wpList_append_its rfl _ _ rfl W2.heap.size _ [] rfl (OwnI.nil _ _) (.slice ac nc capc) cs rfl HC2.out (by have := NC.out; rw [List.length_nil]; omega) (Nat.le_refl _) ?_
  intro v3 w3 hown hg
  have hB : Below W2.heap.size W2 w3 := (Below.refl _ _).grown hg (Nat.le_refl _) (fun k e => by cases e)
  obtain ⟨q3, e3, hv3, -⟩ := hown.its.slice
  rw [List.nil_append] at hown hv3
  subst hv3
  have L3 := Lib.hid (L2.out.trans (hB.mono L2.out.size))
  have KC3 := Lib.hid (stays KC2'.out hB)
  have KR3 := Lib.hid (stays KR2.out hB)
  have HI3 := Lib.hid (HI1.out.below hB)
  have HO3 := Lib.hid hown
  have SZ2 : Hid (w.heap.size + 1 + 1 < W2.heap.size) := (Array.getElem?_eq_some_iff.1 KC2'.out).1
  rw [← NC.out] at HO3 ⊢
  clear hown hg hB
  have x0 := hiO_0 KC3.out
  have x1 := hiO_1 KC3.out
  have z0 := hiF_0 KC3.out
  have z1 := hiF_1 KC3.out
  have KC4 : Hid ((w3.setCell ⟨w.heap.size + 1 + 1, 1, none⟩ (.slice q3 nc e3)).heap[w.heap.size + 1 + 1]? = some (hiO (.slice q1 nb e1) (.slice q3 nc e3))) := heap_setCell_same w3 (w.heap.size + 1 + 1) 1 _ _ (.slice q3 nc e3) KC3.out
  have KR4 : Hid ((w3.setCell ⟨w.heap.size + 1 + 1, 1, none⟩ (.slice q3 nc e3)).heap[w.heap.size + 1]? = some (hiO (.slice none 0 0) (.slice none 0 0))) := (Below.heap_setCell _ _ _ _ (by simp)).trans KR3.out
  have y0 := hiO_0 KC4.out
  have y1 := hiO_1 KC4.out
  have r0 := hiO_0 KR4.out
  have r1 := hiO_1 KR4.out
  have g0 := hiF_0 KR4.out
  have g1 := hiF_1 KR4.out
  have KR6 : Hid ((((w3.setCell ⟨w.heap.size + 1 + 1, 1, none⟩ (.slice q3 nc e3)).setCell ⟨w.heap.size + 1, 0, none⟩ (.slice q1 nb e1)).setCell ⟨w.heap.size + 1, 1, none⟩ (.slice q3 nc e3)).heap[w.heap.size + 1]? = some (hiO (.slice q1 nb e1) (.slice q3 nc e3))) := heap_setCell_same _ (w.heap.size + 1) 1 _ _ _ (heap_setCell_same (w3.setCell ⟨w.heap.size + 1 + 1, 1, none⟩ (.slice q3 nc e3)) (w.heap.size + 1) 0 _ _ _ KR4.out)
  have f0 := hiO_0 KR6.out
  have f1 := hiO_1 KR6.out
  have L6 : Hid (Below w.heap.size w (((w3.setCell ⟨w.heap.size + 1 + 1, 1, none⟩ (.slice q3 nc e3)).setCell ⟨w.heap.size + 1, 0, none⟩ (.slice q1 nb e1)).setCell ⟨w.heap.size + 1, 1, none⟩ (.slice q3 nc e3))) := bel_set (by omega) (bel_set (by omega) (bel_set (by omega) L3.out))
  have I6 : Hid (Its (((w3.setCell ⟨w.heap.size + 1 + 1, 1, none⟩ (.slice q3 nc e3)).setCell ⟨w.heap.size + 1, 0, none⟩ (.slice q1 nb e1)).setCell ⟨w.heap.size + 1, 1, none⟩ (.slice q3 nc e3)) (((w3.setCell ⟨w.heap.size + 1 + 1, 1, none⟩ (.slice q3 nc e3)).setCell ⟨w.heap.size + 1, 0, none⟩ (.slice q1 nb e1)).setCell ⟨w.heap.size + 1, 1, none⟩ (.slice q3 nc e3)).heap.size (.slice q1 nb e1) bs) := (((HI3.out.set (by have := SZ0.out; omega)).set (by have := SZ0.out; omega)).set (by have := SZ0.out; omega)).its
  have J6 : Hid (Its (((w3.setCell ⟨w.heap.size + 1 + 1, 1, none⟩ (.slice q3 nc e3)).setCell ⟨w.heap.size + 1, 0, none⟩ (.slice q1 nb e1)).setCell ⟨w.heap.size + 1, 1, none⟩ (.slice q3 nc e3)) (((w3.setCell ⟨w.heap.size + 1 + 1, 1, none⟩ (.slice q3 nc e3)).setCell ⟨w.heap.size + 1, 0, none⟩ (.slice q1 nb e1)).setCell ⟨w.heap.size + 1, 1, none⟩ (.slice q3 nc e3)).heap.size (.slice q3 nc e3) cs) := (((HO3.out.set (by have := SZ2.out; omega)).set (by have := SZ2.out; omega)).set (by have := SZ2.out; omega)).its
  go_wp2
  exact bodyPost_ret (v := hiV (.slice q1 nb e1) (.slice q3 nc e3)) (by simp [results, Tryd.results31, go_sem, *]) rfl ⟨⟨_, _, rfl, I6.out, J6.out⟩, L6.out⟩

end Go.Proofs.YtghgnalbahneoaaDoor
