/- Histograms: Below on both sides (by program: wip/tools/gen_hist21.py). -/
import Derived.Test.YtghgnalbahneoaaDoorHist17
import Derived.Test.YtghgnalbahneoaaDoorHist18
namespace Go.Proofs.YtghgnalbahneoaaDoor
open Go.RowKit

attribute [local go_sem] Oper.semAt_some

def isSure (bs : List Int) (x : Int) (k : Nat) : Bool := decide (k < bs.length) && decide (bs.getD k 0 ≤ x)
def isMost (bs : List Int) (x : Int) (k : Nat) : Bool := isSure bs x k || (!decide (0 < k) || decide (bs.getD (k - 1) 0 < x))
/-- how many of the first k ranges' values are below x surely, and at most -/
def sureF (bs cs : List Int) (x : Int) : Nat → Int
  | 0 => 0
  | k + 1 => sureF bs cs x k + if isSure bs x k then cs.getD k 0 else 0
def mostB (bs cs : List Int) (x : Int) : Nat → Int
  | 0 => 0
  | k + 1 => mostB bs cs x k + if isMost bs x k then cs.getD k 0 else 0
theorem rgK_inv' {bs : List Int} {k : Nat} {b1 b2 : Bool} {l1 l2 : Int} (h : rgK bs k = rgV b1 l1 b2 l2) : b1 = decide (0 < k) ∧ l1 = (if 0 < k then bs.getD (k - 1) 0 else 0) ∧ b2 = decide (k < bs.length) ∧ l2 = (if k < bs.length then bs.getD k 0 else 0) := by
  unfold rgK rgV at h
  simp only [Value.agg.injEq, Array.mk.injEq, List.cons.injEq, Value.bool.injEq, Value.int.injEq, true_and, and_true] at h
  exact ⟨h.1.symm, h.2.1.symm, h.2.2.1.symm, h.2.2.2.symm⟩
theorem isSure_rg {bs : List Int} {k : Nat} {b1 b2 : Bool} {l1 l2 : Int} (h : rgK bs k = rgV b1 l1 b2 l2) (x : Int) : isSure bs x k = (b2 && decide (l2 ≤ x)) := by
  obtain ⟨-, -, h3, h4⟩ := rgK_inv' h
  unfold isSure
  by_cases hk : k < bs.length
  · rw [if_pos hk] at h4; rw [h3, h4]
  · rw [h3]; simp [hk]
theorem isMost_rg {bs : List Int} {k : Nat} {b1 b2 : Bool} {l1 l2 : Int} (h : rgK bs k = rgV b1 l1 b2 l2) (x : Int) : isMost bs x k = ((b2 && decide (l2 ≤ x)) || (!b1 || decide (l1 < x))) := by
  obtain ⟨h1, h2, -, -⟩ := rgK_inv' h
  unfold isMost
  rw [isSure_rg h x]
  by_cases hk : 0 < k
  · rw [if_pos hk] at h2; rw [h1, h2]
  · rw [h1]; simp [hk]

set_option maxRecDepth 100000 in
set_option maxHeartbeats 4000000 in
theorem rbelow_any (vb vc : Value) (bs cs : List Int) (x : Int) (w : World) (hb : Its w w.heap.size vb bs) (hc : Its w w.heap.size vc cs) (hfit : FitH bs cs) : Calls Tryd.prog 13 #[hiV vb vc, .int .i64 x] w fun e w' => e = .returned (.tuple #[.int .i64 (sureF bs cs x cs.length), .int .i64 (mostB bs cs x cs.length)]) ∧ Below w.heap.size w w' := by
  obtain ⟨g0, k0⟩ := hist_new w vb vc
  have L := Lib.hid g0
  have K := Lib.hid k0
  have HB := Lib.hid (hb.kept g0)
  have HC := Lib.hid (hc.kept g0)
  have HF := Lib.hid hfit
  clear g0 k0 hfit
  obtain ⟨ab, capb, hvb, -⟩ := hb.slice
  obtain ⟨ac, capc, hvc, -⟩ := hc.slice
  subst hvb hvc
  obtain ⟨nb, hnb⟩ : ∃ n, n = bs.length := ⟨_, rfl⟩
  obtain ⟨nc, hnc⟩ : ∃ n, n = cs.length := ⟨_, rfl⟩
  rw [← hnb, ← hnc] at K HB HC L ⊢
  have NB := Lib.hid hnb
  have NC := Lib.hid hnc
  have BND : Hid (1 ≤ nb ∧ nb ≤ 64 ∧ nc = nb + 1) := by have := HF.out.1.1; have := HF.out.1.2.1; have := HF.out.2.1; have := NB.out; have := NC.out; show _ ∧ _; omega
  clear hb hc hnb hnc
  go_enter Tryd.func13, Tryd.ntmps13
  go_wp2_with (fail)
  generalize w.alloc (.cells #[(.slice ab nb capb), (.slice ac nc capc)] 24) = W0 at *
  have hn65 : nc ≤ 65 := by have := BND.out; omega
  go_loopw [6, 7, 8] (fun sv mv i wr => ∃ (k : Nat) (s m : Int), k ≤ nc ∧ 0 ≤ s ∧ s ≤ 1099511627776 * k ∧ 0 ≤ m ∧ m ≤ 1099511627776 * k ∧ i = .int .i64 (k : Int) ∧ sv = .int .i64 s ∧ mv = .int .i64 m ∧ Hid (s = sureF bs cs x k) ∧ Hid (m = mostB bs cs x k) ∧ Hid (Below W0.heap.size W0 wr)) (fun _ _ i _ => nc - (intOf i).toNat)
  case atStart => exact ⟨0, 0, 0, Nat.zero_le _, by omega, by omega, by omega, by omega, rfl, rfl, rfl, rfl, rfl, Below.refl _ _⟩
  case round =>
    obtain ⟨k, s, m, hk, hs0, hs1, hm0, hm1, rfl, rfl, rfl, HS, HM, HBW⟩ := hrel
    by_cases hlt : k < nc
    · have HBr := Lib.hid (HB.out.kept HBW.out)
      have HKr := Lib.hid (stays K.out HBW.out)
      have a0 := hiO_0 HKr.out
      have a1 := hiO_1 HKr.out
      have cb := rbucketR_any (.slice ab nb capb) (.slice ac nc capc) bs k wr HBr.out (by have := NB.out; have := BND.out; omega) (by have := NB.out; have := BND.out; omega)
      obtain ⟨b1, l1, b2, l2, hrg⟩ : ∃ b1 l1 b2 l2, rgK bs k = rgV b1 l1 b2 l2 := ⟨_, _, _, _, rfl⟩
      have HSU := Lib.hid (isSure_rg hrg x)
      have HMO := Lib.hid (isMost_rg hrg x)
      rw [hrg] at cb
      simp only [rgV] at cb
      clear hrg
      have hki : 0 ≤ (k : Int) ∧ (k : Int) < (nc : Int) := by omega
      go_wp2_with (fail)
      refine cb.mono ?_
      rintro e w3 ⟨rfl, hB3⟩
      have HB3 := Lib.hid (HBW.out.trans (hB3.mono HBW.out.size))
      replace HKr := Lib.hid (stays HKr.out hB3)
      clear a0 a1 cb hB3 HBr
      obtain ⟨c, hcc⟩ : ∃ c, c = cs.getD k 0 := ⟨_, rfl⟩
      obtain ⟨bc, oc, hac, hbl, hcell⟩ : ∃ b off, ac = some ⟨b, off, none⟩ ∧ b < W0.heap.size ∧ W0.cell? ⟨b, off + k, none⟩ = some (.int .i64 c) := by
        rcases HC.out.form with ⟨h0, -⟩ | ⟨hpos, b, off, cap', he, -, -, hb, hc2⟩
        · exfalso; rw [h0] at NC; have := NC.out; simp at this; omega
        · exact ⟨b, off, (Value.slice.inj he).1, hb, by rw [hcc]; exact hc2 k (by have := NC.out; omega)⟩
      subst hac
      have hcin := HF.out.cnt k
      rw [← hcc] at hcin
      have HCC := Lib.hid hcc
      have hc0 : 0 ≤ c := hcin.1
      have hc1 : c ≤ 1099511627776 := hcin.2
      clear hcc hcin
      have g4 : Below w3.heap.size w3 (w3.alloc (.cells #[.bool b1, .int .i64 l1, .bool b2, .int .i64 l2] 28)) := bel_alloc (Below.refl _ _) (Nat.le_refl _)
      have HBE := Lib.hid (HB3.out.trans (g4.mono HB3.out.size))
      have HK4 := Lib.hid (stays HKr.out g4)
      have e1 := (HBE.out.cell (p := ⟨bc, oc + k, none⟩) hbl).trans hcell
      clear g4 HKr HB3 hcell
      have a0 := hiO_0 HK4.out
      have a1 := hiO_1 HK4.out
      have hw1 : IntKind.i64.wrap (s + c) = s + c := by rw [IntKind.wrap_i64]; omega
      have hw2 : IntKind.i64.wrap (m + c) = m + c := by rw [IntKind.wrap_i64]; omega
      cases b2
      · cases b1
        · go_wp2
          go_roundw
          case rel =>
            refine ⟨k + 1, s, m + c, by omega, by omega, by omega, by omega, by omega, by go_num, rfl, rfl, ?_, ?_, HBE⟩
            · show _ = _; rw [sureF, HSU.out, ← HCC.out, ← HS.out]; simp
            · show _ = _; rw [mostB, HMO.out, ← HCC.out, ← HM.out]; simp
          case measure => simp [intOf]; omega
        · by_cases h1 : l1 < x
          · go_wp2
            go_roundw
            case rel =>
              refine ⟨k + 1, s, m + c, by omega, by omega, by omega, by omega, by omega, by go_num, rfl, rfl, ?_, ?_, HBE⟩
              · show _ = _; rw [sureF, HSU.out, ← HCC.out, ← HS.out]; simp [h1] <;> split <;> omega
              · show _ = _; rw [mostB, HMO.out, ← HCC.out, ← HM.out]; simp [h1] <;> split <;> omega
            case measure => simp [intOf]; omega
          · go_wp2
            go_roundw
            case rel =>
              refine ⟨k + 1, s, m, by omega, by omega, by omega, by omega, by omega, by go_num, rfl, rfl, ?_, ?_, HBE⟩
              · show _ = _; rw [sureF, HSU.out, ← HCC.out, ← HS.out]; simp [h1] <;> split <;> omega
              · show _ = _; rw [mostB, HMO.out, ← HCC.out, ← HM.out]; simp [h1] <;> split <;> omega
            case measure => simp [intOf]; omega
      · by_cases h2 : l2 ≤ x
        · go_wp2
          go_roundw
          case rel =>
            refine ⟨k + 1, s + c, m + c, by omega, by omega, by omega, by omega, by omega, by go_num, rfl, rfl, ?_, ?_, HBE⟩
            · show _ = _; rw [sureF, HSU.out, ← HCC.out, ← HS.out]; simp [h2] <;> split <;> omega
            · show _ = _; rw [mostB, HMO.out, ← HCC.out, ← HM.out]; simp [h2] <;> split <;> omega
          case measure => simp [intOf]; omega
        · cases b1
          · go_wp2
            go_roundw
            case rel =>
              refine ⟨k + 1, s, m + c, by omega, by omega, by omega, by omega, by omega, by go_num, rfl, rfl, ?_, ?_, HBE⟩
              · show _ = _; rw [sureF, HSU.out, ← HCC.out, ← HS.out]; simp [h2] <;> split <;> omega
              · show _ = _; rw [mostB, HMO.out, ← HCC.out, ← HM.out]; simp [h2] <;> split <;> omega
            case measure => simp [intOf]; omega
          · by_cases h1 : l1 < x
            · go_wp2
              go_roundw
              case rel =>
                refine ⟨k + 1, s, m + c, by omega, by omega, by omega, by omega, by omega, by go_num, rfl, rfl, ?_, ?_, HBE⟩
                · show _ = _; rw [sureF, HSU.out, ← HCC.out, ← HS.out]; simp [h1, h2] <;> split <;> omega
                · show _ = _; rw [mostB, HMO.out, ← HCC.out, ← HM.out]; simp [h1, h2] <;> split <;> omega
              case measure => simp [intOf]; omega
            · go_wp2
              go_roundw
              case rel =>
                refine ⟨k + 1, s, m, by omega, by omega, by omega, by omega, by omega, by go_num, rfl, rfl, ?_, ?_, HBE⟩
                · show _ = _; rw [sureF, HSU.out, ← HCC.out, ← HS.out]; simp [h1, h2] <;> split <;> omega
                · show _ = _; rw [mostB, HMO.out, ← HCC.out, ← HM.out]; simp [h1, h2] <;> split <;> omega
              case measure => simp [intOf]; omega
    · have hkn : ¬ ((k : Int) < (nc : Int)) := by omega
      have HE : Hid (k = cs.length) := by show _ = _; rw [← NC.out]; omega
      have HKr := Lib.hid (stays K.out HBW.out)
      have a0 := hiO_0 HKr.out
      have a1 := hiO_1 HKr.out
      go_wp2
      refine bodyPost_ret (v := .tuple #[.int .i64 s, .int .i64 m]) (by simp [results, Tryd.results13, go_sem, *]) rfl ⟨?_, L.out.trans (HBW.out.mono L.out.size)⟩
      rw [HS.out, HM.out, show k = nc by rw [NC.out]; exact HE.out]

/-- what Below's boxes hold between two rounds -/
structure BSt (w : World) (W : World) (vb vc : Value) (x s m : Int) : Prop where
  L : Below w.heap.size w W
  r1 : W.heap[w.heap.size + 1]? = some (.cells #[.int .i64 x] 2 (0, 0))
  r2 : W.heap[w.heap.size + 1 + 1]? = some (.cells #[.int .i64 s] 2 (0, 0))
  r3 : W.heap[w.heap.size + 1 + 1 + 1]? = some (.cells #[.int .i64 m] 2 (0, 0))
  r4 : W.heap[w.heap.size + 1 + 1 + 1 + 1]? = some (hiO vb vc)
theorem BSt.below {w W W' : World} {vb vc : Value} {x s m : Int} (h : BSt w W vb vc x s m) (hb : Below W.heap.size W W') : BSt w W' vb vc x s m :=
  ⟨h.L.trans (hb.mono h.L.size), stays h.r1 hb, stays h.r2 hb, stays h.r3 hb, stays h.r4 hb⟩
theorem BSt.put {w W : World} {vb vc : Value} {x s m : Int} (h : BSt w W vb vc x s m) {l : Nat} {o : Obj} (o' : Obj) (hn : w.heap.size ≤ l) (hl : W.heap[l]? = some o) (hc : o.isCells = false) : BSt w (W.putObj l o') vb vc x s m :=
  ⟨h.L.grown (grownBy_putObj' W l o') h.L.size (fun k e => by cases e; omega), row_put o' h.r1 hl hc, row_put o' h.r2 hl hc, row_put o' h.r3 hl hc, row_put o' h.r4 hl hc⟩
theorem BSt.setS {w W : World} {vb vc : Value} {x s m : Int} (h : BSt w W vb vc x s m) (z : Int) : BSt w (W.setCell ⟨w.heap.size + 1 + 1, 0, none⟩ (.int .i64 z)) vb vc x z m := by
  refine ⟨bel_set (by omega) h.L, ?_, heap_setCell_same W (w.heap.size + 1 + 1) 0 _ _ _ h.r2, ?_, ?_⟩
  · rw [Below.heap_setCell _ _ _ _ (show w.heap.size + 1 ≠ w.heap.size + 1 + 1 by omega)]; exact h.r1
  · rw [Below.heap_setCell _ _ _ _ (show w.heap.size + 1 + 1 + 1 ≠ w.heap.size + 1 + 1 by omega)]; exact h.r3
  · rw [Below.heap_setCell _ _ _ _ (show w.heap.size + 1 + 1 + 1 + 1 ≠ w.heap.size + 1 + 1 by omega)]; exact h.r4
theorem BSt.setM {w W : World} {vb vc : Value} {x s m : Int} (h : BSt w W vb vc x s m) (z : Int) : BSt w (W.setCell ⟨w.heap.size + 1 + 1 + 1, 0, none⟩ (.int .i64 z)) vb vc x s z := by
  refine ⟨bel_set (by omega) h.L, ?_, ?_, heap_setCell_same W (w.heap.size + 1 + 1 + 1) 0 _ _ _ h.r3, ?_⟩
  · rw [Below.heap_setCell _ _ _ _ (show w.heap.size + 1 ≠ w.heap.size + 1 + 1 + 1 by omega)]; exact h.r1
  · rw [Below.heap_setCell _ _ _ _ (show w.heap.size + 1 + 1 ≠ w.heap.size + 1 + 1 + 1 by omega)]; exact h.r2
  · rw [Below.heap_setCell _ _ _ _ (show w.heap.size + 1 + 1 + 1 + 1 ≠ w.heap.size + 1 + 1 + 1 by omega)]; exact h.r4
def BI (w : World) (vb vc : Value) (bs cs : List Int) (x : Int) (n : Nat) (W : World) : Prop := ∃ s m : Int, BSt w W vb vc x s m ∧ s = sureF bs cs x n ∧ m = mostB bs cs x n ∧ 0 ≤ s ∧ s ≤ 1099511627776 * n ∧ 0 ≤ m ∧ m ≤ 1099511627776 * n

set_option maxRecDepth 100000 in
set_option maxHeartbeats 4000000 in
theorem below_any (vb vc : Value) (bs cs : List Int) (x : Int) (w : World) (hb : Its w w.heap.size vb bs) (hc : Its w w.heap.size vc cs) (hfit : FitH bs cs) : Calls Tryd.prog 12 #[hiV vb vc, .int .i64 x] w fun e w' => e = .returned (.tuple #[.int .i64 (sureF bs cs x cs.length), .int .i64 (mostB bs cs x cs.length)]) ∧ Below w.heap.size w w' := by
  have HB := Lib.hid hb
  have HC := Lib.hid hc
  have HF := Lib.hid hfit
  clear hfit
  obtain ⟨ab, capb, hvb, -⟩ := hb.slice
  obtain ⟨ac, capc, hvc, -⟩ := hc.slice
  subst hvb hvc
  obtain ⟨nb, hnb⟩ : ∃ n, n = bs.length := ⟨_, rfl⟩
  obtain ⟨nc, hnc⟩ : ∃ n, n = cs.length := ⟨_, rfl⟩
  rw [← hnb] at HB ⊢
  rw [← hnc] at HC ⊢
  have NB := Lib.hid hnb
  have NC := Lib.hid hnc
  have BND : Hid (1 ≤ nb ∧ nb ≤ 64 ∧ nc = nb + 1) := by have := HF.out.1.1; have := HF.out.1.2.1; have := HF.out.2.1; have := NB.out; have := NC.out; show _ ∧ _; omega
  clear hb hc hnb hnc
  obtain ⟨W0, hW0⟩ : ∃ W0, W0 = (((w.alloc (.cells #[(.slice ab nb capb), (.slice ac nc capc)] 24)).alloc (.cells #[.int .i64 x] 2)).alloc (.cells #[.int .i64 0] 2)).alloc (.cells #[.int .i64 0] 2) := ⟨_, rfl⟩
  have hk : W0.heap[w.heap.size]? = some (hiO (.slice ab nb capb) (.slice ac nc capc)) ∧ BSt w (W0.alloc (.cells #[(.slice ab nb capb), (.slice ac nc capc)] 24)) (.slice ab nb capb) (.slice ac nc capc) x 0 0 ∧ W0.heap.size = w.heap.size + 1 + 1 + 1 + 1 := by
    obtain ⟨g0, k0⟩ := hist_new w (.slice ab nb capb) (.slice ac nc capc)
    have g1 := bel_alloc (o := .cells #[.int .i64 x] 2) (Below.refl (w.alloc (.cells #[(.slice ab nb capb), (.slice ac nc capc)] 24)).heap.size _) (Nat.le_refl _)
    have k1 := heap_alloc_new (w.alloc (.cells #[(.slice ab nb capb), (.slice ac nc capc)] 24)) (.cells #[.int .i64 x] 2)
    have g2 := bel_alloc (o := .cells #[.int .i64 0] 2) (Below.refl ((w.alloc (.cells #[(.slice ab nb capb), (.slice ac nc capc)] 24)).alloc (.cells #[.int .i64 x] 2)).heap.size _) (Nat.le_refl _)
    have k2 := heap_alloc_new ((w.alloc (.cells #[(.slice ab nb capb), (.slice ac nc capc)] 24)).alloc (.cells #[.int .i64 x] 2)) (.cells #[.int .i64 0] 2)
    have g3 := bel_alloc (o := .cells #[.int .i64 0] 2) (Below.refl (((w.alloc (.cells #[(.slice ab nb capb), (.slice ac nc capc)] 24)).alloc (.cells #[.int .i64 x] 2)).alloc (.cells #[.int .i64 0] 2)).heap.size _) (Nat.le_refl _)
    have k3 := heap_alloc_new (((w.alloc (.cells #[(.slice ab nb capb), (.slice ac nc capc)] 24)).alloc (.cells #[.int .i64 x] 2)).alloc (.cells #[.int .i64 0] 2)) (.cells #[.int .i64 0] 2)
    have k0' := stays (stays (stays k0 g1) g2) g3
    have k1' := stays (stays k1 g2) g3
    have k2' := stays k2 g3
    have G := g0.trans ((g1.trans ((g2.trans (g3.mono g2.size)).mono g1.size)).mono g0.size)
    rw [← hW0] at k0' k1' k2' k3 G
    have hsz : W0.heap.size = w.heap.size + 1 + 1 + 1 + 1 := by rw [hW0]; simp
    obtain ⟨g4, k4⟩ := hist_new W0 (.slice ab nb capb) (.slice ac nc capc)
    simp only [World.size_alloc] at k0' k1' k2' k3
    rw [hsz] at k4
    exact ⟨k0', ⟨G.trans (g4.mono G.size), stays k1' g4, stays k2' g4, stays k3 g4, k4⟩, hsz⟩
  have HK := Lib.hid hk.1
  have HS0 := Lib.hid hk.2.1
  have HSZ := Lib.hid hk.2.2
  clear hk
  refine (callsIn_wide (n := 5)).1 ?_
  refine callsIn_of_wp_marks Tryd.func12 rfl trivial ?_ rfl
  simp only [Tryd.ntmps12, List.size_toArray, List.length_cons, List.length_nil, Nat.reduceAdd, Nat.reduceSub, Array.replicate_succ, Array.replicate_zero, List.push_toArray, List.append_toArray, List.nil_append, List.cons_append]
  gi_wp2_with (fail)
  rw [← hW0]
  clear hW0
  have a0 := hiO_0 HK.out
  have a1 := hiO_1 HK.out
  have hbk := buckets_calls (.slice ab nb capb) (.slice ac nc capc) W0
  refine ⟨trivial, ?_⟩
  refine (callsIn_wide.2 hbk).mono ?_
  rintro e w' ⟨rfl, rfl⟩
  gi_wp2
  rw [HSZ.out]
  clear a0 a1 hbk
  refine wpIn_range_as (F := Fence.wide) (n := 5) rfl (by omega) (gf := 62) (lb := #[.pointer (some ⟨w.heap.size + 1 + 1 + 1 + 1, 0, none⟩)]) ?hg trivial (enters_of Tryd.func62 (by kernel_rfl) rfl)
    (buckets1_iter (w.heap.size + 1 + 1 + 1 + 1) (.slice ab nb capb) (.slice ac nc capc) bs cs (by have := NB.out; have := NC.out; have := BND.out; omega) (by have := NB.out; have := BND.out; omega) 4) (fun x => rfl) ?hRput
    (fun pre W => BI w (.slice ab nb capb) (.slice ac nc capc) bs cs x pre.length W) (fun _ _ _ => False) ?hI ?hIp ?hIxp ?hInv ?h0
    (A := ?A) (fun (x : Nat) (q : Nat) (b1 : Bool) (l1 : Int) (b2 : Bool) (l2 : Int) (c : Int) W => rgK bs x = rgV b1 l1 b2 l2 ∧ c = cs.getD x 0 ∧ W.heap[q]? = some (.cells #[.bool b1, .int .i64 l1, .bool b2, .int .i64 l2] 28 (0, 0))) ?hAxp ?assign ?body ?done ?stop
  case hg => rfl
  case hRput => exact fun pre x W l o o' h _ _ => h
  case hI =>
    rintro s' A B ⟨s, m, h1, h2⟩ hb
    exact ⟨s, m, h1.below hb, h2⟩
  case hIp =>
    rintro s' A l o o' ⟨s, m, h1, h2⟩ hl ho hc
    exact ⟨s, m, h1.put o' (by have := HSZ.out; simp at hl; omega) ho hc, h2⟩
  case hIxp => exact fun _ _ _ _ _ _ h => h.elim
  case hInv =>
    rintro s' A ⟨s, m, h1, h2⟩
    exact ⟨h1.r4, HB.out.below h1.L h1.L.size, HC.out.below h1.L h1.L.size⟩
  case h0 => exact ⟨0, 0, HS0.out, rfl, rfl, by omega, by omega, by omega, by omega⟩
  case hAxp =>
    rintro x q b1 l1 b2 l2 c A l o o' ⟨h2, h3, h4⟩ hl ho hc
    exact ⟨h2, h3, row_put o' h4 ho hc⟩
  case assign =>
    rintro yl pre k W K ⟨s, m, hQ, hI2⟩ hR hK
    obtain ⟨b1, l1, b2, l2, hrg⟩ : ∃ b1 l1 b2 l2, rgK bs k = rgV b1 l1 b2 l2 := ⟨_, _, _, _, rfl⟩
    obtain ⟨c, hc⟩ : ∃ c, c = cs.getD k 0 := ⟨_, rfl⟩
    simp only [encB]
    rw [hrg, ← hc]
    simp only [rgV]
    have HK := Lib.hid hK
    have HQ := Lib.hid hQ
    have HI2 := Lib.hid hI2
    have HRG := Lib.hid hrg
    have HCC := Lib.hid hc
    clear hK hQ hI2 hrg hc
    gi_wp2
    have g1 : Below W.heap.size W (W.alloc (.cells #[.bool b1, .int .i64 l1, .bool b2, .int .i64 l2] 28)) := bel_alloc (Below.refl _ _) (Nat.le_refl _)
    have k1 := heap_alloc_new W (.cells #[.bool b1, .int .i64 l1, .bool b2, .int .i64 l2] 28)
    have hQ1 := HQ.out.below g1
    clear g1
    have hko := KeepsOthers.alloc W (.cells #[.bool b1, .int .i64 l1, .bool b2, .int .i64 l2] 28)
    generalize W.heap.size = q at *
    exact HK.out q b1 l1 b2 l2 c _ hko ⟨s, m, hQ1, HI2.out⟩ hR ⟨HRG.out, HCC.out, k1⟩
  case body =>
    rintro yl pre k q b1 l1 b2 l2 c W ⟨s, m, hQ, hs, hm, hs0, hs1, hm0, hm1⟩ ⟨hpre, hk⟩ ⟨hrg, hc, hrow⟩
    have hlen : pre.length = k := by rw [hpre]; simp
    rw [hlen] at hs hm hs1 hm1
    have HLN : Hid ((pre ++ [k]).length = k + 1) := by show _ = _; simp [hlen]
    have hcin := HF.out.cnt k
    rw [← hc] at hcin
    have hc0 : 0 ≤ c := hcin.1
    have hc1 : c ≤ 1099511627776 := hcin.2
    have hk65 : k < 65 := by have := NC.out; have := BND.out; omega
    have HSU := Lib.hid (isSure_rg hrg x)
    have HMO := Lib.hid (isMost_rg hrg x)
    have HQ := Lib.hid hQ
    have HCC := Lib.hid hc
    have HS := Lib.hid hs
    have HM := Lib.hid hm
    have x1 := cell_of_row _ _ 0 _ _ _ hQ.r1
    have x2 := cell_of_row _ _ 0 _ _ _ hQ.r2
    have x3 := cell_of_row _ _ 0 _ _ _ hQ.r3
    have z2 := frozen_of_row _ _ 0 _ _ hQ.r2
    have z3 := frozen_of_row _ _ 0 _ _ hQ.r3
    have q0 := cell_of_row _ _ 0 _ _ _ hrow
    have q1 := cell_of_row _ _ 1 _ _ _ hrow
    have q2 := cell_of_row _ _ 2 _ _ _ hrow
    have q3 := cell_of_row _ _ 3 _ _ _ hrow
    have hw1 : IntKind.i64.wrap (s + c) = s + c := by rw [IntKind.wrap_i64]; omega
    have hw2 : IntKind.i64.wrap (m + c) = m + c := by rw [IntKind.wrap_i64]; omega
    clear hQ hc hs hm hcin hrow hrg hpre hlen hk
    cases b2
    · cases b1
      · gi_wp2
        refine ⟨KeepsOthers.setCell _ _ _, s, m + c, HQ.out.setM _, ?_, ?_, by omega, by rw [HLN.out]; omega, by omega, by rw [HLN.out]; omega⟩
        · rw [HLN.out, sureF, HSU.out, ← HCC.out, ← HS.out]; simp
        · rw [HLN.out, mostB, HMO.out, ← HCC.out, ← HM.out]; simp
      · by_cases h1 : l1 < x
        · gi_wp2
          refine ⟨KeepsOthers.setCell _ _ _, s, m + c, HQ.out.setM _, ?_, ?_, by omega, by rw [HLN.out]; omega, by omega, by rw [HLN.out]; omega⟩
          · rw [HLN.out, sureF, HSU.out, ← HCC.out, ← HS.out]; simp [h1] <;> split <;> omega
          · rw [HLN.out, mostB, HMO.out, ← HCC.out, ← HM.out]; simp [h1] <;> split <;> omega
        · gi_wp2
          refine ⟨KeepsOthers.refl _, s, m, HQ.out, ?_, ?_, by omega, by rw [HLN.out]; omega, by omega, by rw [HLN.out]; omega⟩
          · rw [HLN.out, sureF, HSU.out, ← HCC.out, ← HS.out]; simp [h1] <;> split <;> omega
          · rw [HLN.out, mostB, HMO.out, ← HCC.out, ← HM.out]; simp [h1] <;> split <;> omega
    · by_cases h2 : l2 ≤ x
      · gi_wp2
        refine ⟨(KeepsOthers.setCell _ _ _).trans (KeepsOthers.setCell _ _ _), s + c, m + c, (HQ.out.setS _).setM _, ?_, ?_, by omega, by rw [HLN.out]; omega, by omega, by rw [HLN.out]; omega⟩
        · rw [HLN.out, sureF, HSU.out, ← HCC.out, ← HS.out]; simp [h2] <;> split <;> omega
        · rw [HLN.out, mostB, HMO.out, ← HCC.out, ← HM.out]; simp [h2] <;> split <;> omega
      · cases b1
        · gi_wp2
          refine ⟨KeepsOthers.setCell _ _ _, s, m + c, HQ.out.setM _, ?_, ?_, by omega, by rw [HLN.out]; omega, by omega, by rw [HLN.out]; omega⟩
          · rw [HLN.out, sureF, HSU.out, ← HCC.out, ← HS.out]; simp [h2] <;> split <;> omega
          · rw [HLN.out, mostB, HMO.out, ← HCC.out, ← HM.out]; simp [h2] <;> split <;> omega
        · by_cases h1 : l1 < x
          · gi_wp2
            refine ⟨KeepsOthers.setCell _ _ _, s, m + c, HQ.out.setM _, ?_, ?_, by omega, by rw [HLN.out]; omega, by omega, by rw [HLN.out]; omega⟩
            · rw [HLN.out, sureF, HSU.out, ← HCC.out, ← HS.out]; simp [h1, h2] <;> split <;> omega
            · rw [HLN.out, mostB, HMO.out, ← HCC.out, ← HM.out]; simp [h1, h2] <;> split <;> omega
          · gi_wp2
            refine ⟨KeepsOthers.refl _, s, m, HQ.out, ?_, ?_, by omega, by rw [HLN.out]; omega, by omega, by rw [HLN.out]; omega⟩
            · rw [HLN.out, sureF, HSU.out, ← HCC.out, ← HS.out]; simp [h1, h2] <;> split <;> omega
            · rw [HLN.out, mostB, HMO.out, ← HCC.out, ← HM.out]; simp [h1, h2] <;> split <;> omega
  case done =>
    rintro D xs W rfl ⟨s, m, hQ, hs, hm, -, -, -, -⟩ hD hDn
    rw [List.length_range] at hs hm
    have x2 := cell_of_row _ _ 0 _ _ _ hQ.r2
    have x3 := cell_of_row _ _ 0 _ _ _ hQ.r3
    have HQ := Lib.hid hQ
    have HD := Lib.hid hD
    have HDN := Lib.hid hDn
    have HS := Lib.hid hs
    have HM := Lib.hid hm
    clear hQ hD hDn hs hm
    gi_wp2
    gi_region
    gi_wp2
    have hdn : w.heap.size ≤ D := by have h := HDN.out; have := HSZ.out; simp at h; omega
    have HB2 := bel_drew (k := 1) HQ.out.L
    refine marks_ret1 rfl ?hD (v := .tuple #[.int .i64 s, .int .i64 m]) ?_ ⟨by rw [HS.out, HM.out, NC.out], ?_⟩
    case hD => exact HD.out
    · simp [results, Tryd.results12, go_sem]
    · exact Below.grown HB2 (grownBy_putObj' _ D _) HB2.size (fun k e => by cases e; omega)
  case stop => exact fun _ _ _ _ _ h => h.elim

end Go.Proofs.YtghgnalbahneoaaDoor
