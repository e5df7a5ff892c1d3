/- Histograms: Fit on both sides. -/
import Derived.Test.YtghgnalbahneoaaDoorHist4
namespace Go.Proofs.YtghgnalbahneoaaDoor
open Go.RowKit

/-- a histogram's value -/
abbrev hiV (vb vc : Value) : Value := .agg #[vb, vc]
def hiO (vb vc : Value) : Obj := .cells #[vb, vc] 24 (0, 0)
/-- a histogram is one -/
def FitH (bs cs : List Int) : Prop := Rising bs ∧ cs.length = bs.length + 1 ∧ ∀ c ∈ cs, 0 ≤ c ∧ c ≤ 1099511627776
noncomputable def fitHB (bs cs : List Int) : Bool := @decide (FitH bs cs) (Classical.propDecidable _)
theorem fitHB_t {bs cs : List Int} (h : FitH bs cs) : fitHB bs cs = true := @decide_eq_true _ (Classical.propDecidable _) h
theorem fitHB_f {bs cs : List Int} (h : ¬ FitH bs cs) : fitHB bs cs = false := @decide_eq_false _ (Classical.propDecidable _) h
theorem fitHB_iff {bs cs : List Int} : fitHB bs cs = true ↔ FitH bs cs := @decide_eq_true_iff _ (Classical.propDecidable _)
theorem hist_new (w : World) (vb vc : Value) : Below w.heap.size w (w.alloc (.cells #[vb, vc] 24)) ∧ (w.alloc (.cells #[vb, vc] 24)).heap[w.heap.size]? = some (hiO vb vc) :=
  ⟨bel_alloc (Below.refl _ _) (Nat.le_refl _), heap_alloc_new _ _⟩
theorem hiO_0 {W : World} {k : Nat} {a b : Value} (h : W.heap[k]? = some (hiO a b)) : W.cell? ⟨k, 0, none⟩ = some a := cell_of_row _ _ 0 _ _ _ h
theorem hiO_1 {W : World} {k : Nat} {a b : Value} (h : W.heap[k]? = some (hiO a b)) : W.cell? ⟨k, 1, none⟩ = some b := cell_of_row _ _ 1 _ _ _ h
theorem hiF_0 {W : World} {k : Nat} {a b : Value} (h : W.heap[k]? = some (hiO a b)) : W.frozen? ⟨k, 0, none⟩ = false := frozen_of_row _ _ 0 _ _ h
theorem hiF_1 {W : World} {k : Nat} {a b : Value} (h : W.heap[k]? = some (hiO a b)) : W.frozen? ⟨k, 1, none⟩ = false := frozen_of_row _ _ 1 _ _ h
theorem any_bad {cs : List Int} : cs.any (fun c => !cntB c) = false ↔ ∀ c ∈ cs, 0 ≤ c ∧ c ≤ 1099511627776 := by
  rw [List.any_eq_false]
  constructor
  · intro h c hc
    have := h c hc
    simp only [Bool.not_eq_true', Bool.not_eq_false] at this
    exact cntB_of this
  · intro h c hc
    have := h c hc
    rw [cntB_t this.1 this.2]; simp

set_option maxRecDepth 100000 in
set_option maxHeartbeats 1000000 in
theorem fit_any (vb vc : Value) (bs cs : List Int) (w : World) (hb : Its w w.heap.size vb bs) (hc : Its w w.heap.size vc cs) : Calls Tryd.prog 18 #[hiV vb vc] w fun e w' => e = .returned (.bool (fitHB bs cs)) ∧ Below w.heap.size w w' := by
  obtain ⟨g0, k0⟩ := hist_new w vb vc
  have L := Lib.hid g0
  have K := Lib.hid k0
  have HB := Lib.hid (hb.kept g0)
  have HC := Lib.hid (hc.kept g0)
  clear g0 k0
  have cr : ∀ W, Its W W.heap.size vb bs → _ := fun W h => rising_any vb bs W h
  have cf : ∀ W, Its W W.heap.size vc cs → _ := fun W h => contains_fit vc cs W h (fun c => !cntB c) (fun x W _ => fit1_any x W)
  obtain ⟨ab, capb, hvb, hlb⟩ := hb.slice
  obtain ⟨ac, capc, hvc, hlc⟩ := hc.slice
  subst hvb hvc
  obtain ⟨nb, hnb⟩ : ∃ n, n = bs.length := ⟨_, rfl⟩
  obtain ⟨nc, hnc⟩ : ∃ n, n = cs.length := ⟨_, rfl⟩
  rw [← hnb] at K HB HC L cr hlb ⊢
  rw [← hnc] at K HC L HB cf hlc ⊢
  have NB := Lib.hid hnb
  have NC := Lib.hid hnc
  clear hnb hnc hb hc
  have a0 := hiO_0 K.out
  have a1 := hiO_1 K.out
  cases hr : risB bs
  · have HF := Lib.hid (fitHB_f (bs := bs) (cs := cs) (fun h => by have := risB_t h.1; rw [hr] at this; cases this))
    rw [hr] at cr
    clear hr cf
    go_enter Tryd.func18, Tryd.ntmps18
    go_wp2_with (fail)
    refine (cr _ HB.out).mono ?_
    rintro e w1 ⟨rfl, d, rfl⟩
    clear cr
    go_wp2
    go_ret
    rw [HF.out]
    exact ⟨rfl, bel_drew L.out⟩
  · have HR := Lib.hid (risB_iff.1 hr)
    have hl : nb ≤ 140737488355328 := by have := HR.out.2.1; have := NB.out; omega
    rw [hr] at cr
    clear hr
    by_cases hlen : nc = nb + 1
    · have hlb2 : ((nc : Int) == (nb : Int) + 1) = true := by rw [beq_iff_eq]; omega
      cases ha : cs.any (fun c => !cntB c)
      · have HF := Lib.hid (fitHB_t (bs := bs) (cs := cs) ⟨HR.out, by rw [← NB.out, ← NC.out]; exact hlen, any_bad.1 ha⟩)
        rw [ha] at cf
        clear ha hlen
        go_enter Tryd.func18, Tryd.ntmps18
        go_wp2_with (fail)
        refine (cr _ HB.out).mono ?_
        rintro e w1 ⟨rfl, d, rfl⟩
        clear cr
        have HC2 := Lib.hid (HC.out.kept (bdN _ _ d))
        go_wp2_with (fail)
        refine (cf _ HC2.out).mono ?_
        rintro e w1 ⟨rfl, hB⟩
        have L2 := Lib.hid ((bel_drew (k := d) L.out).trans (hB.mono (bel_drew (k := d) L.out).size))
        clear cf hB
        go_wp2
        go_ret
        rw [HF.out]
        exact ⟨rfl, L2.out⟩
      · have HF := Lib.hid (fitHB_f (bs := bs) (cs := cs) (fun h => by have := any_bad.2 h.2.2; rw [ha] at this; cases this))
        rw [ha] at cf
        clear ha hlen
        go_enter Tryd.func18, Tryd.ntmps18
        go_wp2_with (fail)
        refine (cr _ HB.out).mono ?_
        rintro e w1 ⟨rfl, d, rfl⟩
        clear cr
        have HC2 := Lib.hid (HC.out.kept (bdN _ _ d))
        go_wp2_with (fail)
        refine (cf _ HC2.out).mono ?_
        rintro e w1 ⟨rfl, hB⟩
        have L2 := Lib.hid ((bel_drew (k := d) L.out).trans (hB.mono (bel_drew (k := d) L.out).size))
        clear cf hB
        go_wp2
        go_ret
        rw [HF.out]
        exact ⟨rfl, L2.out⟩
    · have hlb2 : ((nc : Int) == (nb : Int) + 1) = false := by rw [beq_eq_false_iff_ne]; omega
      have HF := Lib.hid (fitHB_f (bs := bs) (cs := cs) (fun h => hlen (by rw [NB.out, NC.out]; exact h.2.1)))
      clear hlen cf
      go_enter Tryd.func18, Tryd.ntmps18
      go_wp2_with (fail)
      refine (cr _ HB.out).mono ?_
      rintro e w1 ⟨rfl, d, rfl⟩
      clear cr
      go_wp2
      go_ret
      rw [HF.out]
      exact ⟨rfl, bel_drew L.out⟩

set_option maxRecDepth 100000 in
set_option maxHeartbeats 1000000 in
theorem rfit_any (vb vc : Value) (bs cs : List Int) (w : World) (hb : Its w w.heap.size vb bs) (hc : Its w w.heap.size vc cs) : Calls Tryd.prog 8 #[hiV vb vc] w fun e w' => e = .returned (.bool (fitHB bs cs)) ∧ Below w.heap.size w w' := by
  obtain ⟨g0, k0⟩ := hist_new w vb vc
  have L := Lib.hid g0
  have K := Lib.hid k0
  have HB := Lib.hid (hb.kept g0)
  have HC := Lib.hid (hc.kept g0)
  clear g0 k0
  have cr : ∀ W, Its W W.heap.size vb bs → _ := fun W h => rbounds_any vb bs W h
  obtain ⟨ab, capb, hvb, hlb⟩ := hb.slice
  subst hvb
  obtain ⟨nb, hnb⟩ : ∃ n, n = bs.length := ⟨_, rfl⟩
  rw [← hnb] at K HB HC L cr hlb ⊢
  have NB := Lib.hid hnb
  clear hnb hb
  have a0 := hiO_0 K.out
  have a1 := hiO_1 K.out
  cases hr : risB bs
  · have HF := Lib.hid (fitHB_f (bs := bs) (cs := cs) (fun h => by have := risB_t h.1; rw [hr] at this; cases this))
    rw [hr] at cr
    clear hr
    go_enter Tryd.func8, Tryd.ntmps8
    go_wp2_with (fail)
    refine (cr _ HB.out).mono ?_
    rintro e w1 ⟨rfl, d, rfl⟩
    clear cr
    go_wp2
    go_ret
    rw [HF.out]
    exact ⟨rfl, bel_drew L.out⟩
  · have HR := Lib.hid (risB_iff.1 hr)
    have hl : nb ≤ 140737488355328 := by have := HR.out.2.1; have := NB.out; omega
    rw [hr] at cr
    clear hr
    rcases hc.form with ⟨rfl, ac, capc, rfl, -⟩ | ⟨hpos, b, off, capc, rfl, hcap, hm, hbb, hcc⟩
    · have HF := Lib.hid (fitHB_f (bs := bs) (cs := []) (fun h => by have := h.2.1; simp at this))
      have hlb2 : ((0 : Int) == (nb : Int) + 1) = false := by rw [beq_eq_false_iff_ne]; omega
      have hlb3 : ((0 : Int) != (nb : Int) + 1) = true := by rw [bne_iff_ne]; omega
      go_enter Tryd.func8, Tryd.ntmps8
      go_wp2_with (fail)
      refine (cr _ HB.out).mono ?_
      rintro e w1 ⟨rfl, d, rfl⟩
      clear cr
      go_wp2
      go_ret
      rw [HF.out]
      exact ⟨rfl, bel_drew L.out⟩
    · obtain ⟨nc, hnc⟩ : ∃ n, n = cs.length := ⟨_, rfl⟩
      have HCC := Lib.hid hcc
      clear hcc hc
      rw [← hnc] at K HC L HB hpos hcap hm HCC a1 ⊢
      have NC := Lib.hid hnc
      clear hnc
      by_cases hlen : nc = nb + 1
      · have hlb2 : ((nc : Int) == (nb : Int) + 1) = true := by rw [beq_iff_eq]; omega
        have hlb3 : ((nc : Int) != (nb : Int) + 1) = false := by rw [bne_eq_false_iff_eq]; omega
        have HLEN := Lib.hid hlen
        clear hlen
        go_enter Tryd.func8, Tryd.ntmps8
        go_wp2_with (fail)
        refine (cr _ HB.out).mono ?_
        rintro e w1 ⟨rfl, d, rfl⟩
        clear cr
        go_wp2
        go_loop [3] (fun i => ∃ k : Nat, k ≤ nc ∧ i = .int .i64 (k : Int) ∧ Hid (∀ j, j < k → 0 ≤ cs.getD j 0 ∧ cs.getD j 0 ≤ 1099511627776)) (fun i => nc - (intOf i).toNat)
        case atStart => exact ⟨0, Nat.zero_le _, rfl, fun j h => absurd h (Nat.not_lt_zero _)⟩
        case round =>
          obtain ⟨k, hk, rfl, HK⟩ := hrel
          by_cases hlt : k < nc
          · have e1 := (L.out.cell (p := ⟨b, off + k, none⟩) hbb).trans (HCC.out k hlt)
            obtain ⟨y, hy⟩ : ∃ y, y = cs.getD k 0 := ⟨_, rfl⟩
            rw [← hy] at e1
            have HY := Lib.hid hy
            clear hy
            have bad : ¬ (0 ≤ y ∧ y ≤ 1099511627776) → Hid (fitHB bs cs = false) := fun h => fitHB_f (fun hf => h (by
              have := hf.2.2 (cs.getD k 0) (by
                have hkl : k < cs.length := by have := NC.out; omega
                rw [List.getD_eq_getElem?_getD, List.getElem?_eq_getElem hkl]
                exact List.getElem_mem hkl)
              rw [← HY.out] at this; exact this))
            by_cases h1 : y < 0
            · have HF := bad (by omega)
              go_wp2
              go_ret
              rw [HF.out]
              exact ⟨rfl, bel_drew L.out⟩
            · by_cases h2 : 1099511627776 < y
              · have HF := bad (by omega)
                go_wp2
                go_ret
                rw [HF.out]
                exact ⟨rfl, bel_drew L.out⟩
              · have HK2 : Hid (∀ j, j < k + 1 → 0 ≤ cs.getD j 0 ∧ cs.getD j 0 ≤ 1099511627776) := fun j hj => by
                  rcases Nat.lt_or_ge j k with h | h
                  · exact HK.out j h
                  · obtain rfl : j = k := by omega
                    rw [← HY.out]; omega
                clear bad
                go_wp2
                go_round
                case rel => exact ⟨k + 1, by omega, by go_num, HK2⟩
                case measure => simp [intOf]; omega
          · have HF : Hid (fitHB bs cs = true) := fitHB_t ⟨HR.out, by rw [← NB.out, ← NC.out]; exact HLEN.out, fun c hc => by
              obtain ⟨j, hj, rfl⟩ := List.getElem_of_mem hc
              have := HK.out j (by have := NC.out; omega)
              simpa [List.getD, hj] using this⟩
            go_wp2
            go_ret
            rw [HF.out]
            exact ⟨rfl, bel_drew L.out⟩
      · have hlb2 : ((nc : Int) == (nb : Int) + 1) = false := by rw [beq_eq_false_iff_ne]; omega
        have hlb3 : ((nc : Int) != (nb : Int) + 1) = true := by rw [bne_iff_ne]; omega
        have HF := Lib.hid (fitHB_f (bs := bs) (cs := cs) (fun h => hlen (by rw [NB.out, NC.out]; exact h.2.1)))
        clear hlen
        go_enter Tryd.func8, Tryd.ntmps8
        go_wp2_with (fail)
        refine (cr _ HB.out).mono ?_
        rintro e w1 ⟨rfl, d, rfl⟩
        clear cr
        go_wp2
        go_ret
        rw [HF.out]
        exact ⟨rfl, bel_drew L.out⟩

end Go.Proofs.YtghgnalbahneoaaDoor
