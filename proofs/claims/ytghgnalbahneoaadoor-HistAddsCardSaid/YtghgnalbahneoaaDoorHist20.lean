/- Histograms: the program's Text (by program: wip/tools/gen_hist20.py). -/
import Derived.Test.YtghgnalbahneoaaDoorHist17
import Derived.Test.YtghgnalbahneoaaDoorHist19
namespace Go.Proofs.YtghgnalbahneoaaDoor
open Go.RowKit

attribute [local go_sem] Oper.semAt_some

/-- what Text's boxes hold, ahead of the builder and behind it -/
structure TS0 (w : World) (W : World) (vb vc : Value) (wd m : Int) : Prop where
  L : Below w.heap.size w W
  r0 : W.heap[w.heap.size]? = some (hiO vb vc)
  r1 : W.heap[w.heap.size + 1]? = some (.cells #[.int .i64 wd] 3 (0, 0))
  r2 : W.heap[w.heap.size + 1 + 1]? = some (.cells #[.int .i64 m] 2 (0, 0))
theorem TS0.below {w W W' : World} {vb vc : Value} {wd m : Int} (h : TS0 w W vb vc wd m) (hb : Below W.heap.size W W') : TS0 w W' vb vc wd m :=
  ⟨h.L.trans (hb.mono h.L.size), stays h.r0 hb, stays h.r1 hb, stays h.r2 hb⟩
theorem TS0.setM {w W : World} {vb vc : Value} {wd m : Int} (h : TS0 w W vb vc wd m) (z : Int) : TS0 w (W.setCell ⟨w.heap.size + 1 + 1, 0, none⟩ (.int .i64 z)) vb vc wd z := by
  refine ⟨bel_set (by omega) h.L, ?_, ?_, heap_setCell_same W (w.heap.size + 1 + 1) 0 _ _ _ h.r2⟩
  · rw [Below.heap_setCell _ _ _ _ (show w.heap.size ≠ w.heap.size + 1 + 1 by omega)]; exact h.r0
  · rw [Below.heap_setCell _ _ _ _ (show w.heap.size + 1 ≠ w.heap.size + 1 + 1 by omega)]; exact h.r1
structure TSt (w : World) (b p : Nat) (W : World) (vb vc : Value) (wd m : Int) (s : List UInt8) : Prop where
  L : Below w.heap.size w W
  hm : w.heap.size + 1 + 1 < b ∧ b < p
  r1 : W.heap[w.heap.size + 1]? = some (.cells #[.int .i64 wd] 3 (0, 0))
  r2 : W.heap[w.heap.size + 1 + 1]? = some (.cells #[.int .i64 m] 2 (0, 0))
  bl : Bld W w.heap.size b s
  r4 : W.heap[p]? = some (hiO vb vc)
theorem TSt.below {w W W' : World} {b p : Nat} {vb vc : Value} {wd m : Int} {s : List UInt8} (h : TSt w b p W vb vc wd m s) (hb : Below W.heap.size W W') : TSt w b p W' vb vc wd m s :=
  ⟨h.L.trans (hb.mono h.L.size), h.hm, stays h.r1 hb, stays h.r2 hb, h.bl.below hb, stays h.r4 hb⟩
theorem TSt.put {w W : World} {b p : Nat} {vb vc : Value} {wd m : Int} {s : List UInt8} (h : TSt w b p W vb vc wd m s) {l : Nat} {o : Obj} (o' : Obj) (hn : w.heap.size ≤ l) (hl : W.heap[l]? = some o) (hc : o.isCells = false) : TSt w b p (W.putObj l o') vb vc wd m s :=
  ⟨h.L.grown (grownBy_putObj' W l o') h.L.size (fun k e => by cases e; omega), h.hm, row_put o' h.r1 hl hc, row_put o' h.r2 hl hc, h.bl.put o' hl hc, row_put o' h.r4 hl hc⟩
theorem TSt.wrote {w W W' : World} {b p : Nat} {vb vc : Value} {wd m : Int} {s s' : List UInt8} (h : TSt w b p W vb vc wd m s) (hb : Bld W' w.heap.size b s') (hB : Below w.heap.size W W') (hf : FrameB b W W') : TSt w b p W' vb vc wd m s' := by
  have hm := h.hm
  exact ⟨h.L.trans hB, h.hm, hf _ _ h.r1 (by omega) (fun cs fr e => by cases e), hf _ _ h.r2 (by omega) (fun cs fr e => by cases e), hb, hf _ _ h.r4 (by omega) (fun cs fr e => by cases e)⟩
theorem TSt.others {w W W' : World} {b p : Nat} {vb vc : Value} {wd m : Int} {s : List UInt8} (h : TSt w b p W vb vc wd m s) (hB : Below w.heap.size W W') (hf : FrameB b W W') : KeepsOthers W W' := by
  obtain ⟨cs, hr⟩ := h.bl.row
  exact hf.others hB.size hr
theorem others_below {W W' : World} (hb : Below W.heap.size W W') : KeepsOthers W W' := ⟨hb.size, fun k o hk _ => stays hk hb⟩
theorem tab_gone {w W : World} (ht : TabT w) (hb : Below w.heap.size w W) : TabT W := ht.below hb

def TI (w : World) (b p : Nat) (vb vc : Value) (bs cs : List Int) (wd m : Int) (n : Nat) (W : World) : Prop := TSt w b p W vb vc wd m (textN bs cs m wd n)
theorem repeatL_35 : ∀ n, Lib.repeatL [35] n = List.replicate n 35
  | 0 => rfl
  | n + 1 => by simp [Lib.repeatL, repeatL_35 n, List.replicate_succ]

set_option maxRecDepth 100000 in
set_option maxHeartbeats 8000000 in
theorem textH_any (vb vc : Value) (bs cs : List Int) (x : Int) (w : World) (hb : Its w w.heap.size vb bs) (hc : Its w w.heap.size vc cs) (hfit : FitH bs cs) (h64 : In64 bs) (ht : TabT w) :
    Calls Tryd.prog 14 #[hiV vb vc, .int .i64 x] w fun e w' => e = .returned (.string ⟨(textF bs cs x).toArray⟩) ∧ Below w.heap.size w w' := by
  obtain ⟨g0, k0⟩ := hist_new w vb vc
  have HB := Lib.hid hb
  have HC := Lib.hid hc
  have HTW := Lib.hid ht
  have HF := Lib.hid hfit
  have H64 := Lib.hid h64
  clear hfit ht h64
  obtain ⟨ab, capb, hvb, -⟩ := hb.slice
  obtain ⟨ac, capc, hvc, -⟩ := hc.slice
  subst hvb hvc
  obtain ⟨nb, hnb⟩ : ∃ n, n = bs.length := ⟨_, rfl⟩
  obtain ⟨nc, hnc⟩ : ∃ n, n = cs.length := ⟨_, rfl⟩
  rw [← hnb] at HB k0 g0 ⊢
  rw [← hnc] at HC k0 g0 ⊢
  have NB := Lib.hid hnb
  have NC := Lib.hid hnc
  have BND : Hid (1 ≤ nb ∧ nb ≤ 64 ∧ nc = nb + 1) := by have := HF.out.1.1; have := HF.out.1.2.1; have := HF.out.2.1; have := NB.out; have := NC.out; show _ ∧ _; omega
  clear hb hc hnb hnc
  have hwd := widF_in x
  have HWE : Hid (widF x = min (max x 0) 100) := rfl
  obtain ⟨wd, hwe⟩ : ∃ n, n = widF x := ⟨_, rfl⟩
  have HW := Lib.hid hwe
  rw [← hwe] at hwd
  have HWD := Lib.hid hwd
  clear hwe hwd
  have hst0 : TS0 w (((w.alloc (.cells #[.slice ab nb capb, .slice ac nc capc] 24)).alloc (.cells #[.int .i64 wd] 3)).alloc (.cells #[.int .i64 0] 2)) (.slice ab nb capb) (.slice ac nc capc) wd 0 := by
    have g1 := bel_alloc (o := .cells #[.int .i64 wd] 3) (Below.refl (w.alloc (.cells #[.slice ab nb capb, .slice ac nc capc] 24)).heap.size _) (Nat.le_refl _)
    have g2 := bel_alloc (o := .cells #[.int .i64 0] 2) (Below.refl ((w.alloc (.cells #[.slice ab nb capb, .slice ac nc capc] 24)).alloc (.cells #[.int .i64 wd] 3)).heap.size _) (Nat.le_refl _)
    have k1 := heap_alloc_new (w.alloc (.cells #[.slice ab nb capb, .slice ac nc capc] 24)) (.cells #[.int .i64 wd] 3)
    have k2 := heap_alloc_new ((w.alloc (.cells #[.slice ab nb capb, .slice ac nc capc] 24)).alloc (.cells #[.int .i64 wd] 3)) (.cells #[.int .i64 0] 2)
    have k0' := stays (stays k0 g1) g2
    have k1' := stays k1 g2
    simp only [World.size_alloc] at k1' k2
    exact ⟨g0.trans ((g1.mono g0.size).trans (g2.mono (Nat.le_trans g0.size g1.size))), k0', k1', k2⟩
  have HS0 := Lib.hid hst0
  clear hst0 g0 k0
  refine (callsIn_wide (n := 5)).1 ?_
  refine callsIn_of_wp_marks Tryd.func14 rfl trivial ?_ rfl
  simp only [Tryd.ntmps14, List.size_toArray, List.length_cons, List.length_nil, Nat.reduceAdd, Nat.reduceSub, Array.replicate_succ, Array.replicate_zero, List.push_toArray, List.append_toArray, List.nil_append, List.cons_append]
  gi_wp2_with (fail)
  rw [← HWE.out, ← HW.out]
  generalize ((w.alloc (.cells #[.slice ab nb capb, .slice ac nc capc] 24)).alloc (.cells #[.int .i64 wd] 3)).alloc (.cells #[.int .i64 0] 2) = W0 at *
  have hn65 : nc ≤ 65 := by have := BND.out; omega
  gi_loopw [20] (fun i wr => ∃ (k : Nat) (m : Int), k ≤ nc ∧ 0 ≤ m ∧ m ≤ 1099511627776 ∧ i = .int .i64 (k : Int) ∧ Hid (m = mostF cs k) ∧ Hid (TS0 w wr (.slice ab nb capb) (.slice ac nc capc) wd m)) (fun i _ => nc - (intOf i).toNat)
  case atStart => exact ⟨0, 0, Nat.zero_le _, by omega, by omega, rfl, rfl, HS0⟩
  case round =>
    obtain ⟨k, m, hk, hm0, hm1, rfl, HM, HS⟩ := hrel
    have m0 := cell_of_row _ _ 0 _ _ _ HS.out.r2
    have mf := frozen_of_row _ _ 0 _ _ HS.out.r2
    by_cases hlt : k < nc
    · obtain ⟨c, hcc⟩ : ∃ c, c = cs.getD k 0 := ⟨_, rfl⟩
      obtain ⟨bc, oc, hac, hbl, hcell⟩ : ∃ b off, ac = some ⟨b, off, none⟩ ∧ b < w.heap.size ∧ w.cell? ⟨b, off + k, none⟩ = some (.int .i64 c) := by
        rcases HC.out.form with ⟨h0, -⟩ | ⟨hpos, b, off, cap', he, -, -, hb, hc2⟩
        · exfalso; rw [h0] at NC; have := NC.out; simp at this; omega
        · exact ⟨b, off, (Value.slice.inj he).1, hb, by rw [hcc]; exact hc2 k (by have := NC.out; omega)⟩
      subst hac
      have e1 := (HS.out.L.cell (p := ⟨bc, oc + k, none⟩) hbl).trans hcell
      have hcin := HF.out.cnt k
      rw [← hcc] at hcin
      have HM2 : Hid (max m c = mostF cs (k + 1)) := by show _ = _; rw [HM.out, hcc]; rfl
      have hki : 0 ≤ (k : Int) ∧ (k : Int) < (nc : Int) := by omega
      clear hcc hcell
      gi_wp2
      go_roundw
      case rel => exact ⟨k + 1, max m c, by omega, by omega, by omega, by go_num, HM2, HS.out.setM _⟩
      case measure => simp [intOf]; omega
    · have HMM : Hid (m = mostF cs cs.length) := by show _ = _; rw [HM.out, ← NC.out]; congr 1; omega
      have hmge : ∀ k, k < nc → cs.getD k 0 ≤ m := fun k hk => by rw [HMM.out]; exact mostF_ge cs k _ (by have := NC.out; omega)
      have HGE := Lib.hid hmge
      clear hmge HM
      have hkn : ¬ ((k : Int) < (nc : Int)) := by omega
      clear hlt hk
      have g1 := bel_alloc (o := .cells #[.pointer none, .slice none 0 0] 73) (Below.refl wr.heap.size wr) (Nat.le_refl _)
      have HS1 := HS.out.below g1
      obtain ⟨g2, k2⟩ := hist_new (wr.alloc (.cells #[.pointer none, .slice none 0 0] 73)) (.slice ab nb capb) (.slice ac nc capc)
      have HS2 := HS1.below g2
      simp only [World.size_alloc] at k2
      have hlt0 := (Array.getElem?_eq_some_iff.1 HS.out.r2).1
      have hT0 : TSt w wr.heap.size (wr.heap.size + 1) ((wr.alloc (.cells #[.pointer none, .slice none 0 0] 73)).alloc (.cells #[.slice ab nb capb, .slice ac nc capc] 24)) (.slice ab nb capb) (.slice ac nc capc) wd m [] :=
        ⟨HS2.L, ⟨by omega, by omega⟩, HS2.r1, HS2.r2, (Bld.new wr w.heap.size HS.out.L.size).below g2, k2⟩
      have HT0 := Lib.hid hT0
      have a0 := hiO_0 HS1.r0
      have a1 := hiO_1 HS1.r0
      clear hT0 g1 g2 k2 HS1 HS2 hlt0
      gi_wp2_with (fail)
      refine ⟨trivial, ?_⟩
      refine (callsIn_wide.2 (buckets_calls _ _ _)).mono ?_
      rintro e w' ⟨rfl, rfl⟩
      gi_wp2
      obtain ⟨b, hb0⟩ : ∃ b, b = wr.heap.size := ⟨_, rfl⟩
      rw [← hb0] at HT0 ⊢
      have HPW : Hid (b = wr.heap.size) := hb0
      clear hb0
      obtain ⟨p, hp⟩ : ∃ p, p = b + 1 := ⟨_, rfl⟩
      rw [← hp] at HT0 ⊢
      have HPB : Hid (p = b + 1) := hp
      clear hp a0 a1 hkn
      refine wpIn_range_as (F := Fence.wide) (n := 5) rfl (by omega) (gf := 62) (lb := #[.pointer (some ⟨p, 0, none⟩)]) ?hg trivial (enters_of Tryd.func62 (by kernel_rfl) rfl)
        (buckets1_iter p (.slice ab nb capb) (.slice ac nc capc) bs cs (by have := NB.out; have := NC.out; have := BND.out; omega) (by have := NB.out; have := BND.out; omega) 4) (fun x => rfl) ?hRput
        (fun pre W => TI w b p (.slice ab nb capb) (.slice ac nc capc) bs cs wd m pre.length W) (fun _ _ _ => False) ?hI ?hIp ?hIxp ?hInv ?h0
        (A := ?A) (fun (x : Nat) (q : Nat) (b1 : Bool) (l1 : Int) (b2 : Bool) (l2 : Int) (c : Int) W => rgK bs x = rgV b1 l1 b2 l2 ∧ c = cs.getD x 0 ∧ W.heap[q]? = some (.cells #[.bool b1, .int .i64 l1, .bool b2, .int .i64 l2] 28 (0, 0))) ?hAxp ?assign ?body ?done ?stop
      case hg => rfl
      case hRput => exact fun pre x W l o o' h _ _ => h
      case hI => exact fun s' A B h hb => TSt.below h hb
      case hIp => exact fun s' A l o o' h hl ho hc => TSt.put h o' (by have := HS.out.L.size; simp at hl; omega) ho hc
      case hIxp => exact fun _ _ _ _ _ _ h => h.elim
      case hInv => exact fun s' A h => ⟨h.r4, HB.out.below h.L h.L.size, HC.out.below h.L h.L.size⟩
      case h0 => exact HT0.out
      case hAxp =>
        rintro x q b1 l1 b2 l2 c A l o o' ⟨h2, h3, h4⟩ hl ho hc
        exact ⟨h2, h3, row_put o' h4 ho hc⟩
      case assign =>
        rintro yl pre k W K hQ hR hK
        obtain ⟨b1, l1, b2, l2, hrg⟩ : ∃ b1 l1 b2 l2, rgK bs k = rgV b1 l1 b2 l2 := ⟨_, _, _, _, rfl⟩
        obtain ⟨c, hc⟩ : ∃ c, c = cs.getD k 0 := ⟨_, rfl⟩
        simp only [encB]
        rw [hrg, ← hc]
        simp only [rgV]
        have HK := Lib.hid hK
        have HQ := Lib.hid hQ
        have HRG := Lib.hid hrg
        have HCC := Lib.hid hc
        clear hK hQ hrg hc
        gi_wp2
        have g1 : Below W.heap.size W (W.alloc (.cells #[.bool b1, .int .i64 l1, .bool b2, .int .i64 l2] 28)) := bel_alloc (Below.refl _ _) (Nat.le_refl _)
        have k1 := heap_alloc_new W (.cells #[.bool b1, .int .i64 l1, .bool b2, .int .i64 l2] 28)
        have hQ1 : TI w b p (.slice ab nb capb) (.slice ac nc capc) bs cs wd m pre.length (W.alloc (.cells #[.bool b1, .int .i64 l1, .bool b2, .int .i64 l2] 28)) := TSt.below HQ.out g1
        clear g1
        have hko := KeepsOthers.alloc W (.cells #[.bool b1, .int .i64 l1, .bool b2, .int .i64 l2] 28)
        generalize W.heap.size = q at *
        exact HK.out q b1 l1 b2 l2 c _ hko hQ1 hR ⟨HRG.out, HCC.out, k1⟩
      case body =>
        rintro yl pre k q b1 l1 b2 l2 c W hQ ⟨hpre, hk⟩ ⟨hrg, hc, hrow⟩
        have hlen : pre.length = k := by rw [hpre]; simp
        rw [hlen] at hQ
        have HLN : Hid ((pre ++ [k]).length = k + 1) := by show _ = _; simp [hlen]
        have hcin := HF.out.cnt k
        have hcm := HGE.out k (by rw [NC.out]; exact hk)
        rw [← hc] at hcin hcm
        have hc0 : 0 ≤ c := hcin.1
        have hc1 : c ≤ 1099511627776 := hcin.2
        have hkc : k < nc := by rw [NC.out]; exact hk
        have HQ4 : Hid (TSt w b p W (.slice ab nb capb) (.slice ac nc capc) wd m (textN bs cs m wd k)) := hQ
        have HG4 := Lib.hid hrow
        have HKO4 := Lib.hid (KeepsOthers.refl W)
        have HCC := Lib.hid hc
        obtain ⟨rb1, rl1, rb2, rl2⟩ := rgK_inv hrg
        have HL1 : Hid (-9223372036854775808 ≤ l1 ∧ l1 ≤ 9223372036854775807) := by show _ ∧ _; have := H64.out (k - 1); rw [rl1]; split <;> omega
        have HL2 : Hid (-9223372036854775808 ≤ l2 ∧ l2 ≤ 9223372036854775807) := by show _ ∧ _; have := H64.out k; rw [rl2]; split <;> omega
        obtain ⟨lo, hlo⟩ : ∃ l, l = lowF bs k := ⟨_, rfl⟩
        obtain ⟨hi, hhi⟩ : ∃ l, l = highF bs k := ⟨_, rfl⟩
        have HLO := Lib.hid hlo
        have HHI := Lib.hid hhi
        have HLO2 : Hid (lo = if b1 then Lib.itoa l1 else [45]) := by
          show _ = _; rw [hlo, rb1, rl1]; unfold lowF; by_cases h : 0 < k <;> simp [h]
        have HHI2 : Hid (hi = if b2 then Lib.itoa l2 else [43]) := by
          show _ = _; rw [hhi, rb2, rl2]; unfold highF; by_cases h : k < bs.length <;> simp [h]
        have hL1 := Lib.itoa_length_le l1 HL1.out.1 HL1.out.2
        have hL2 := Lib.itoa_length_le l2 HL2.out.1 HL2.out.2
        have hLc := Lib.itoa_length_le c (by omega) (by omega)
        have HLEN : Hid ((textN bs cs m wd k).length ≤ 11050 ∧ (headF lo hi (Lib.itoa c)).length ≤ 68) := by
          show _ ∧ _
          have h1 := textN_length bs cs H64.out HF.out.cnt m wd (by rw [HMM.out]; exact (mostF_in cs HF.out.cnt _).2) HWD.out.1 HWD.out.2 k (fun j hj => HGE.out j (by omega))
          have h2 := headF_length lo hi (Lib.itoa c)
          have h3 := lowF_length bs H64.out k
          have h4 := highF_length bs H64.out k
          rw [← hlo] at h3
          rw [← hhi] at h4
          omega
        have m1 := cell_of_row _ _ 0 _ _ _ hQ.r1
        have m2 := cell_of_row _ _ 0 _ _ _ hQ.r2
        clear hlo hhi rb1 rl1 rb2 rl2 hrg hQ hrow hc hcin hpre hlen hk
        cases b1 <;> cases b2
        · -- 0 0
          have q0 := cell_of_row _ _ 0 _ _ _ HG4.out
          have q2 := cell_of_row _ _ 2 _ _ _ HG4.out
          have cn := num_any c (by omega) (by omega) _ (HTW.out.below HQ4.out.L)
          gi_wp2_with (fail)
          refine ⟨trivial, ?_⟩
          refine (CallsIn.inRound yl (callsIn_wide.2 cn)).mono ?_
          rintro e w7 ⟨rfl, hB7⟩
          have HQ7 := Lib.hid (HQ4.out.below hB7)
          have HG7 := Lib.hid (stays HG4.out hB7)
          have HKO7 := Lib.hid (HKO4.out.trans (others_below hB7))
          clear cn hB7
          have cn := bld_stringB w.heap.size b (textN bs cs m wd k) (headF lo hi (Lib.itoa c)) _ HQ7.out.bl (by have := HLEN.out; omega) HQ7.out.L.size
          gi_wp2_with (fail)
          refine ⟨trivial, ?_⟩
          refine (CallsIn.inRound yl (callsIn_wide.2 (cn _ ?hs))).mono ?_
          case hs => exact ByteArray.ext (by simp [ByteArray.data_append, headF, HLO2.out, HHI2.out, repeatL_35])
          rintro e w8 ⟨rfl, hBl, hBe, hFr⟩
          have HKO8 := Lib.hid (HKO7.out.trans (HQ7.out.others hBe hFr))
          have HQ8 := Lib.hid (HQ7.out.wrote hBl hBe hFr)
          clear cn hBl hBe hFr
          have m1 := cell_of_row _ _ 0 _ _ _ HQ8.out.r1
          have m2 := cell_of_row _ _ 0 _ _ _ HQ8.out.r2
          by_cases hm : 0 < m
          · have hmul0 : 0 ≤ c * wd := Int.mul_nonneg hc0 HWD.out.1
            have hmul1 : c * wd ≤ 1099511627776 * 100 := Int.mul_le_mul hc1 HWD.out.2 HWD.out.1 (by omega)
            have hb := barF_in m wd c hc0 hcm HWD.out.1 HWD.out.2
            have HBF : Hid (barF m wd c = c * wd / m) := by show _ = _; unfold barF; rw [if_pos hm]
            rw [HBF.out] at hb
            have w1' : IntKind.i64.wrap (c * wd) = c * wd := by rw [IntKind.wrap_i64]; omega
            have w2' : (c * wd).tdiv m = c * wd / m := Int.tdiv_eq_ediv_of_nonneg hmul0
            have hm0' : m ≠ 0 := by omega
            obtain ⟨nn, hnn⟩ : ∃ nn : Nat, c * wd / m = (nn : Int) := ⟨(c * wd / m).toNat, by omega⟩
            rw [hnn] at w2' hb HBF
            have w3' : IntKind.i64.wrap (nn : Int) = (nn : Int) := by rw [IntKind.wrap_i64]; omega
            have hn100 : nn ≤ 100 := by omega
            clear hb hnn hmul0 hmul1 hm1
            by_cases hn : 0 < nn
            · have HBL : Hid (barL (barF m wd c) = 32 :: List.replicate nn 35) := by show _ = _; rw [HBF.out]; unfold barL; rw [if_pos (by omega)]; simp
              have hn' : 0 < (nn : Int) := by omega
              have hr35 : (⟨#[35]⟩ : ByteArray).size = 1 := rfl
              have cr := Tryd.strings_Repeat ⟨#[35]⟩ nn w8 (by omega) (by rw [hr35]; omega)
              clear hr35
              gi_wp2_with (fail)
              refine ⟨trivial, ?_⟩
              refine (CallsIn.inRound yl (callsIn_wide.2 cr)).mono ?_
              rintro e w9 ⟨rfl, hB9⟩
              have HQ9 := Lib.hid (HQ8.out.below hB9)
              have HKO9 := Lib.hid (HKO8.out.trans (others_below hB9))
              clear cr hB9
              have hlr : (Lib.repeatL [35] nn).length = nn := by rw [repeatL_35]; simp
              have cn := bld_stringB w.heap.size b (textN bs cs m wd k ++ headF lo hi (Lib.itoa c)) (32 :: List.replicate nn 35) _ HQ9.out.bl (by have := HLEN.out; simp only [List.length_append, List.length_cons, List.length_replicate]; omega) HQ9.out.L.size
              gi_wp2_with (fail)
              refine ⟨trivial, ?_⟩
              refine (CallsIn.inRound yl (callsIn_wide.2 (cn _ ?hs))).mono ?_
              case hs => exact ByteArray.ext (by simp [ByteArray.data_append, headF, HLO2.out, HHI2.out, repeatL_35])
              rintro e w10 ⟨rfl, hBl, hBe, hFr⟩
              have HKO10 := Lib.hid (HKO9.out.trans (HQ9.out.others hBe hFr))
              have HQ10 := Lib.hid (HQ9.out.wrote hBl hBe hFr)
              clear cn hBl hBe hFr
              have m1 := cell_of_row _ _ 0 _ _ _ HQ10.out.r1
              have m2 := cell_of_row _ _ 0 _ _ _ HQ10.out.r2
              have cn := bld_byte w.heap.size b (textN bs cs m wd k ++ headF lo hi (Lib.itoa c) ++ 32 :: List.replicate nn 35) 10 _ HQ10.out.bl (by have := HLEN.out; simp only [List.length_append]; simp; omega) HQ10.out.L.size
              gi_wp2_with (fail)
              refine ⟨trivial, ?_⟩
              refine (CallsIn.inRound yl (callsIn_wide.2 cn)).mono ?_
              rintro e we ⟨rfl, hBl, hBe, hFr⟩
              have HKOe := Lib.hid (HKO10.out.trans (HQ10.out.others hBe hFr))
              have HQe := Lib.hid (HQ10.out.wrote hBl hBe hFr)
              clear cn hBl hBe hFr
              have m1 := cell_of_row _ _ 0 _ _ _ HQe.out.r1
              have m2 := cell_of_row _ _ 0 _ _ _ HQe.out.r2
              gi_wp2
              refine ⟨HKOe.out, ?_⟩
              show TSt w b p we _ _ wd m (textN bs cs m wd _)
              rw [HLN.out, textN, lineF, ← HCC.out, ← HLO.out, ← HHI.out, HBL.out]
              simpa using HQe.out
            · have HBL : Hid (barL (barF m wd c) = []) := by show _ = _; rw [HBF.out, show nn = 0 by omega]; rfl
              have hn' : ¬ (0 < (nn : Int)) := by omega
              have cn := bld_byte w.heap.size b (textN bs cs m wd k ++ headF lo hi (Lib.itoa c)) 10 _ HQ8.out.bl (by have := HLEN.out; simp only [List.length_append]; simp; omega) HQ8.out.L.size
              gi_wp2_with (fail)
              refine ⟨trivial, ?_⟩
              refine (CallsIn.inRound yl (callsIn_wide.2 cn)).mono ?_
              rintro e we ⟨rfl, hBl, hBe, hFr⟩
              have HKOe := Lib.hid (HKO8.out.trans (HQ8.out.others hBe hFr))
              have HQe := Lib.hid (HQ8.out.wrote hBl hBe hFr)
              clear cn hBl hBe hFr
              have m1 := cell_of_row _ _ 0 _ _ _ HQe.out.r1
              have m2 := cell_of_row _ _ 0 _ _ _ HQe.out.r2
              gi_wp2
              refine ⟨HKOe.out, ?_⟩
              show TSt w b p we _ _ wd m (textN bs cs m wd _)
              rw [HLN.out, textN, lineF, ← HCC.out, ← HLO.out, ← HHI.out, HBL.out]
              simpa using HQe.out
          · have HBL : Hid (barL (barF m wd c) = []) := by show _ = _; unfold barF; rw [if_neg hm]; rfl
            have cn := bld_byte w.heap.size b (textN bs cs m wd k ++ headF lo hi (Lib.itoa c)) 10 _ HQ8.out.bl (by have := HLEN.out; simp only [List.length_append]; simp; omega) HQ8.out.L.size
            gi_wp2_with (fail)
            refine ⟨trivial, ?_⟩
            refine (CallsIn.inRound yl (callsIn_wide.2 cn)).mono ?_
            rintro e we ⟨rfl, hBl, hBe, hFr⟩
            have HKOe := Lib.hid (HKO8.out.trans (HQ8.out.others hBe hFr))
            have HQe := Lib.hid (HQ8.out.wrote hBl hBe hFr)
            clear cn hBl hBe hFr
            have m1 := cell_of_row _ _ 0 _ _ _ HQe.out.r1
            have m2 := cell_of_row _ _ 0 _ _ _ HQe.out.r2
            gi_wp2
            refine ⟨HKOe.out, ?_⟩
            show TSt w b p we _ _ wd m (textN bs cs m wd _)
            rw [HLN.out, textN, lineF, ← HCC.out, ← HLO.out, ← HHI.out, HBL.out]
            simpa using HQe.out
        · -- 0 1
          have q0 := cell_of_row _ _ 0 _ _ _ HG4.out
          have q2 := cell_of_row _ _ 2 _ _ _ HG4.out
          have q3 := cell_of_row _ _ 3 _ _ _ HG4.out
          have cn := num_any l2 HL2.out.1 HL2.out.2 _ (HTW.out.below HQ4.out.L)
          gi_wp2_with (fail)
          refine ⟨trivial, ?_⟩
          refine (CallsIn.inRound yl (callsIn_wide.2 cn)).mono ?_
          rintro e w6 ⟨rfl, hB6⟩
          have HQ6 := Lib.hid (HQ4.out.below hB6)
          have HG6 := Lib.hid (stays HG4.out hB6)
          have HKO6 := Lib.hid (HKO4.out.trans (others_below hB6))
          clear cn hB6
          have cn := num_any c (by omega) (by omega) _ (HTW.out.below HQ6.out.L)
          gi_wp2_with (fail)
          refine ⟨trivial, ?_⟩
          refine (CallsIn.inRound yl (callsIn_wide.2 cn)).mono ?_
          rintro e w7 ⟨rfl, hB7⟩
          have HQ7 := Lib.hid (HQ6.out.below hB7)
          have HG7 := Lib.hid (stays HG6.out hB7)
          have HKO7 := Lib.hid (HKO6.out.trans (others_below hB7))
          clear cn hB7
          have cn := bld_stringB w.heap.size b (textN bs cs m wd k) (headF lo hi (Lib.itoa c)) _ HQ7.out.bl (by have := HLEN.out; omega) HQ7.out.L.size
          gi_wp2_with (fail)
          refine ⟨trivial, ?_⟩
          refine (CallsIn.inRound yl (callsIn_wide.2 (cn _ ?hs))).mono ?_
          case hs => exact ByteArray.ext (by simp [ByteArray.data_append, headF, HLO2.out, HHI2.out, repeatL_35])
          rintro e w8 ⟨rfl, hBl, hBe, hFr⟩
          have HKO8 := Lib.hid (HKO7.out.trans (HQ7.out.others hBe hFr))
          have HQ8 := Lib.hid (HQ7.out.wrote hBl hBe hFr)
          clear cn hBl hBe hFr
          have m1 := cell_of_row _ _ 0 _ _ _ HQ8.out.r1
          have m2 := cell_of_row _ _ 0 _ _ _ HQ8.out.r2
          by_cases hm : 0 < m
          · have hmul0 : 0 ≤ c * wd := Int.mul_nonneg hc0 HWD.out.1
            have hmul1 : c * wd ≤ 1099511627776 * 100 := Int.mul_le_mul hc1 HWD.out.2 HWD.out.1 (by omega)
            have hb := barF_in m wd c hc0 hcm HWD.out.1 HWD.out.2
            have HBF : Hid (barF m wd c = c * wd / m) := by show _ = _; unfold barF; rw [if_pos hm]
            rw [HBF.out] at hb
            have w1' : IntKind.i64.wrap (c * wd) = c * wd := by rw [IntKind.wrap_i64]; omega
            have w2' : (c * wd).tdiv m = c * wd / m := Int.tdiv_eq_ediv_of_nonneg hmul0
            have hm0' : m ≠ 0 := by omega
            obtain ⟨nn, hnn⟩ : ∃ nn : Nat, c * wd / m = (nn : Int) := ⟨(c * wd / m).toNat, by omega⟩
            rw [hnn] at w2' hb HBF
            have w3' : IntKind.i64.wrap (nn : Int) = (nn : Int) := by rw [IntKind.wrap_i64]; omega
            have hn100 : nn ≤ 100 := by omega
            clear hb hnn hmul0 hmul1 hm1
            by_cases hn : 0 < nn
            · have HBL : Hid (barL (barF m wd c) = 32 :: List.replicate nn 35) := by show _ = _; rw [HBF.out]; unfold barL; rw [if_pos (by omega)]; simp
              have hn' : 0 < (nn : Int) := by omega
              have hr35 : (⟨#[35]⟩ : ByteArray).size = 1 := rfl
              have cr := Tryd.strings_Repeat ⟨#[35]⟩ nn w8 (by omega) (by rw [hr35]; omega)
              clear hr35
              gi_wp2_with (fail)
              refine ⟨trivial, ?_⟩
              refine (CallsIn.inRound yl (callsIn_wide.2 cr)).mono ?_
              rintro e w9 ⟨rfl, hB9⟩
              have HQ9 := Lib.hid (HQ8.out.below hB9)
              have HKO9 := Lib.hid (HKO8.out.trans (others_below hB9))
              clear cr hB9
              have hlr : (Lib.repeatL [35] nn).length = nn := by rw [repeatL_35]; simp
              have cn := bld_stringB w.heap.size b (textN bs cs m wd k ++ headF lo hi (Lib.itoa c)) (32 :: List.replicate nn 35) _ HQ9.out.bl (by have := HLEN.out; simp only [List.length_append, List.length_cons, List.length_replicate]; omega) HQ9.out.L.size
              gi_wp2_with (fail)
              refine ⟨trivial, ?_⟩
              refine (CallsIn.inRound yl (callsIn_wide.2 (cn _ ?hs))).mono ?_
              case hs => exact ByteArray.ext (by simp [ByteArray.data_append, headF, HLO2.out, HHI2.out, repeatL_35])
              rintro e w10 ⟨rfl, hBl, hBe, hFr⟩
              have HKO10 := Lib.hid (HKO9.out.trans (HQ9.out.others hBe hFr))
              have HQ10 := Lib.hid (HQ9.out.wrote hBl hBe hFr)
              clear cn hBl hBe hFr
              have m1 := cell_of_row _ _ 0 _ _ _ HQ10.out.r1
              have m2 := cell_of_row _ _ 0 _ _ _ HQ10.out.r2
              have cn := bld_byte w.heap.size b (textN bs cs m wd k ++ headF lo hi (Lib.itoa c) ++ 32 :: List.replicate nn 35) 10 _ HQ10.out.bl (by have := HLEN.out; simp only [List.length_append]; simp; omega) HQ10.out.L.size
              gi_wp2_with (fail)
              refine ⟨trivial, ?_⟩
              refine (CallsIn.inRound yl (callsIn_wide.2 cn)).mono ?_
              rintro e we ⟨rfl, hBl, hBe, hFr⟩
              have HKOe := Lib.hid (HKO10.out.trans (HQ10.out.others hBe hFr))
              have HQe := Lib.hid (HQ10.out.wrote hBl hBe hFr)
              clear cn hBl hBe hFr
              have m1 := cell_of_row _ _ 0 _ _ _ HQe.out.r1
              have m2 := cell_of_row _ _ 0 _ _ _ HQe.out.r2
              gi_wp2
              refine ⟨HKOe.out, ?_⟩
              show TSt w b p we _ _ wd m (textN bs cs m wd _)
              rw [HLN.out, textN, lineF, ← HCC.out, ← HLO.out, ← HHI.out, HBL.out]
              simpa using HQe.out
            · have HBL : Hid (barL (barF m wd c) = []) := by show _ = _; rw [HBF.out, show nn = 0 by omega]; rfl
              have hn' : ¬ (0 < (nn : Int)) := by omega
              have cn := bld_byte w.heap.size b (textN bs cs m wd k ++ headF lo hi (Lib.itoa c)) 10 _ HQ8.out.bl (by have := HLEN.out; simp only [List.length_append]; simp; omega) HQ8.out.L.size
              gi_wp2_with (fail)
              refine ⟨trivial, ?_⟩
              refine (CallsIn.inRound yl (callsIn_wide.2 cn)).mono ?_
              rintro e we ⟨rfl, hBl, hBe, hFr⟩
              have HKOe := Lib.hid (HKO8.out.trans (HQ8.out.others hBe hFr))
              have HQe := Lib.hid (HQ8.out.wrote hBl hBe hFr)
              clear cn hBl hBe hFr
              have m1 := cell_of_row _ _ 0 _ _ _ HQe.out.r1
              have m2 := cell_of_row _ _ 0 _ _ _ HQe.out.r2
              gi_wp2
              refine ⟨HKOe.out, ?_⟩
              show TSt w b p we _ _ wd m (textN bs cs m wd _)
              rw [HLN.out, textN, lineF, ← HCC.out, ← HLO.out, ← HHI.out, HBL.out]
              simpa using HQe.out
          · have HBL : Hid (barL (barF m wd c) = []) := by show _ = _; unfold barF; rw [if_neg hm]; rfl
            have cn := bld_byte w.heap.size b (textN bs cs m wd k ++ headF lo hi (Lib.itoa c)) 10 _ HQ8.out.bl (by have := HLEN.out; simp only [List.length_append]; simp; omega) HQ8.out.L.size
            gi_wp2_with (fail)
            refine ⟨trivial, ?_⟩
            refine (CallsIn.inRound yl (callsIn_wide.2 cn)).mono ?_
            rintro e we ⟨rfl, hBl, hBe, hFr⟩
            have HKOe := Lib.hid (HKO8.out.trans (HQ8.out.others hBe hFr))
            have HQe := Lib.hid (HQ8.out.wrote hBl hBe hFr)
            clear cn hBl hBe hFr
            have m1 := cell_of_row _ _ 0 _ _ _ HQe.out.r1
            have m2 := cell_of_row _ _ 0 _ _ _ HQe.out.r2
            gi_wp2
            refine ⟨HKOe.out, ?_⟩
            show TSt w b p we _ _ wd m (textN bs cs m wd _)
            rw [HLN.out, textN, lineF, ← HCC.out, ← HLO.out, ← HHI.out, HBL.out]
            simpa using HQe.out
        · -- 1 0
          have q0 := cell_of_row _ _ 0 _ _ _ HG4.out
          have q2 := cell_of_row _ _ 2 _ _ _ HG4.out
          have q1 := cell_of_row _ _ 1 _ _ _ HG4.out
          have cn := num_any l1 HL1.out.1 HL1.out.2 _ (HTW.out.below HQ4.out.L)
          gi_wp2_with (fail)
          refine ⟨trivial, ?_⟩
          refine (CallsIn.inRound yl (callsIn_wide.2 cn)).mono ?_
          rintro e w5 ⟨rfl, hB5⟩
          have HQ5 := Lib.hid (HQ4.out.below hB5)
          have HG5 := Lib.hid (stays HG4.out hB5)
          have HKO5 := Lib.hid (HKO4.out.trans (others_below hB5))
          clear cn hB5
          have q2 := cell_of_row _ _ 2 _ _ _ HG5.out
          have cn := num_any c (by omega) (by omega) _ (HTW.out.below HQ5.out.L)
          gi_wp2_with (fail)
          refine ⟨trivial, ?_⟩
          refine (CallsIn.inRound yl (callsIn_wide.2 cn)).mono ?_
          rintro e w7 ⟨rfl, hB7⟩
          have HQ7 := Lib.hid (HQ5.out.below hB7)
          have HG7 := Lib.hid (stays HG5.out hB7)
          have HKO7 := Lib.hid (HKO5.out.trans (others_below hB7))
          clear cn hB7
          have cn := bld_stringB w.heap.size b (textN bs cs m wd k) (headF lo hi (Lib.itoa c)) _ HQ7.out.bl (by have := HLEN.out; omega) HQ7.out.L.size
          gi_wp2_with (fail)
          refine ⟨trivial, ?_⟩
          refine (CallsIn.inRound yl (callsIn_wide.2 (cn _ ?hs))).mono ?_
          case hs => exact ByteArray.ext (by simp [ByteArray.data_append, headF, HLO2.out, HHI2.out, repeatL_35])
          rintro e w8 ⟨rfl, hBl, hBe, hFr⟩
          have HKO8 := Lib.hid (HKO7.out.trans (HQ7.out.others hBe hFr))
          have HQ8 := Lib.hid (HQ7.out.wrote hBl hBe hFr)
          clear cn hBl hBe hFr
          have m1 := cell_of_row _ _ 0 _ _ _ HQ8.out.r1
          have m2 := cell_of_row _ _ 0 _ _ _ HQ8.out.r2
          by_cases hm : 0 < m
          · have hmul0 : 0 ≤ c * wd := Int.mul_nonneg hc0 HWD.out.1
            have hmul1 : c * wd ≤ 1099511627776 * 100 := Int.mul_le_mul hc1 HWD.out.2 HWD.out.1 (by omega)
            have hb := barF_in m wd c hc0 hcm HWD.out.1 HWD.out.2
            have HBF : Hid (barF m wd c = c * wd / m) := by show _ = _; unfold barF; rw [if_pos hm]
            rw [HBF.out] at hb
            have w1' : IntKind.i64.wrap (c * wd) = c * wd := by rw [IntKind.wrap_i64]; omega
            have w2' : (c * wd).tdiv m = c * wd / m := Int.tdiv_eq_ediv_of_nonneg hmul0
            have hm0' : m ≠ 0 := by omega
            obtain ⟨nn, hnn⟩ : ∃ nn : Nat, c * wd / m = (nn : Int) := ⟨(c * wd / m).toNat, by omega⟩
            rw [hnn] at w2' hb HBF
            have w3' : IntKind.i64.wrap (nn : Int) = (nn : Int) := by rw [IntKind.wrap_i64]; omega
            have hn100 : nn ≤ 100 := by omega
            clear hb hnn hmul0 hmul1 hm1
            by_cases hn : 0 < nn
            · have HBL : Hid (barL (barF m wd c) = 32 :: List.replicate nn 35) := by show _ = _; rw [HBF.out]; unfold barL; rw [if_pos (by omega)]; simp
              have hn' : 0 < (nn : Int) := by omega
              have hr35 : (⟨#[35]⟩ : ByteArray).size = 1 := rfl
              have cr := Tryd.strings_Repeat ⟨#[35]⟩ nn w8 (by omega) (by rw [hr35]; omega)
              clear hr35
              gi_wp2_with (fail)
              refine ⟨trivial, ?_⟩
              refine (CallsIn.inRound yl (callsIn_wide.2 cr)).mono ?_
              rintro e w9 ⟨rfl, hB9⟩
              have HQ9 := Lib.hid (HQ8.out.below hB9)
              have HKO9 := Lib.hid (HKO8.out.trans (others_below hB9))
              clear cr hB9
              have hlr : (Lib.repeatL [35] nn).length = nn := by rw [repeatL_35]; simp
              have cn := bld_stringB w.heap.size b (textN bs cs m wd k ++ headF lo hi (Lib.itoa c)) (32 :: List.replicate nn 35) _ HQ9.out.bl (by have := HLEN.out; simp only [List.length_append, List.length_cons, List.length_replicate]; omega) HQ9.out.L.size
              gi_wp2_with (fail)
              refine ⟨trivial, ?_⟩
              refine (CallsIn.inRound yl (callsIn_wide.2 (cn _ ?hs))).mono ?_
              case hs => exact ByteArray.ext (by simp [ByteArray.data_append, headF, HLO2.out, HHI2.out, repeatL_35])
              rintro e w10 ⟨rfl, hBl, hBe, hFr⟩
              have HKO10 := Lib.hid (HKO9.out.trans (HQ9.out.others hBe hFr))
              have HQ10 := Lib.hid (HQ9.out.wrote hBl hBe hFr)
              clear cn hBl hBe hFr
              have m1 := cell_of_row _ _ 0 _ _ _ HQ10.out.r1
              have m2 := cell_of_row _ _ 0 _ _ _ HQ10.out.r2
              have cn := bld_byte w.heap.size b (textN bs cs m wd k ++ headF lo hi (Lib.itoa c) ++ 32 :: List.replicate nn 35) 10 _ HQ10.out.bl (by have := HLEN.out; simp only [List.length_append]; simp; omega) HQ10.out.L.size
              gi_wp2_with (fail)
              refine ⟨trivial, ?_⟩
              refine (CallsIn.inRound yl (callsIn_wide.2 cn)).mono ?_
              rintro e we ⟨rfl, hBl, hBe, hFr⟩
              have HKOe := Lib.hid (HKO10.out.trans (HQ10.out.others hBe hFr))
              have HQe := Lib.hid (HQ10.out.wrote hBl hBe hFr)
              clear cn hBl hBe hFr
              have m1 := cell_of_row _ _ 0 _ _ _ HQe.out.r1
              have m2 := cell_of_row _ _ 0 _ _ _ HQe.out.r2
              gi_wp2
              refine ⟨HKOe.out, ?_⟩
              show TSt w b p we _ _ wd m (textN bs cs m wd _)
              rw [HLN.out, textN, lineF, ← HCC.out, ← HLO.out, ← HHI.out, HBL.out]
              simpa using HQe.out
            · have HBL : Hid (barL (barF m wd c) = []) := by show _ = _; rw [HBF.out, show nn = 0 by omega]; rfl
              have hn' : ¬ (0 < (nn : Int)) := by omega
              have cn := bld_byte w.heap.size b (textN bs cs m wd k ++ headF lo hi (Lib.itoa c)) 10 _ HQ8.out.bl (by have := HLEN.out; simp only [List.length_append]; simp; omega) HQ8.out.L.size
              gi_wp2_with (fail)
              refine ⟨trivial, ?_⟩
              refine (CallsIn.inRound yl (callsIn_wide.2 cn)).mono ?_
              rintro e we ⟨rfl, hBl, hBe, hFr⟩
              have HKOe := Lib.hid (HKO8.out.trans (HQ8.out.others hBe hFr))
              have HQe := Lib.hid (HQ8.out.wrote hBl hBe hFr)
              clear cn hBl hBe hFr
              have m1 := cell_of_row _ _ 0 _ _ _ HQe.out.r1
              have m2 := cell_of_row _ _ 0 _ _ _ HQe.out.r2
              gi_wp2
              refine ⟨HKOe.out, ?_⟩
              show TSt w b p we _ _ wd m (textN bs cs m wd _)
              rw [HLN.out, textN, lineF, ← HCC.out, ← HLO.out, ← HHI.out, HBL.out]
              simpa using HQe.out
          · have HBL : Hid (barL (barF m wd c) = []) := by show _ = _; unfold barF; rw [if_neg hm]; rfl
            have cn := bld_byte w.heap.size b (textN bs cs m wd k ++ headF lo hi (Lib.itoa c)) 10 _ HQ8.out.bl (by have := HLEN.out; simp only [List.length_append]; simp; omega) HQ8.out.L.size
            gi_wp2_with (fail)
            refine ⟨trivial, ?_⟩
            refine (CallsIn.inRound yl (callsIn_wide.2 cn)).mono ?_
            rintro e we ⟨rfl, hBl, hBe, hFr⟩
            have HKOe := Lib.hid (HKO8.out.trans (HQ8.out.others hBe hFr))
            have HQe := Lib.hid (HQ8.out.wrote hBl hBe hFr)
            clear cn hBl hBe hFr
            have m1 := cell_of_row _ _ 0 _ _ _ HQe.out.r1
            have m2 := cell_of_row _ _ 0 _ _ _ HQe.out.r2
            gi_wp2
            refine ⟨HKOe.out, ?_⟩
            show TSt w b p we _ _ wd m (textN bs cs m wd _)
            rw [HLN.out, textN, lineF, ← HCC.out, ← HLO.out, ← HHI.out, HBL.out]
            simpa using HQe.out
        · -- 1 1
          have q0 := cell_of_row _ _ 0 _ _ _ HG4.out
          have q2 := cell_of_row _ _ 2 _ _ _ HG4.out
          have q1 := cell_of_row _ _ 1 _ _ _ HG4.out
          have q3 := cell_of_row _ _ 3 _ _ _ HG4.out
          have cn := num_any l1 HL1.out.1 HL1.out.2 _ (HTW.out.below HQ4.out.L)
          gi_wp2_with (fail)
          refine ⟨trivial, ?_⟩
          refine (CallsIn.inRound yl (callsIn_wide.2 cn)).mono ?_
          rintro e w5 ⟨rfl, hB5⟩
          have HQ5 := Lib.hid (HQ4.out.below hB5)
          have HG5 := Lib.hid (stays HG4.out hB5)
          have HKO5 := Lib.hid (HKO4.out.trans (others_below hB5))
          clear cn hB5
          have q2 := cell_of_row _ _ 2 _ _ _ HG5.out
          have q3 := cell_of_row _ _ 3 _ _ _ HG5.out
          have cn := num_any l2 HL2.out.1 HL2.out.2 _ (HTW.out.below HQ5.out.L)
          gi_wp2_with (fail)
          refine ⟨trivial, ?_⟩
          refine (CallsIn.inRound yl (callsIn_wide.2 cn)).mono ?_
          rintro e w6 ⟨rfl, hB6⟩
          have HQ6 := Lib.hid (HQ5.out.below hB6)
          have HG6 := Lib.hid (stays HG5.out hB6)
          have HKO6 := Lib.hid (HKO5.out.trans (others_below hB6))
          clear cn hB6
          have cn := num_any c (by omega) (by omega) _ (HTW.out.below HQ6.out.L)
          gi_wp2_with (fail)
          refine ⟨trivial, ?_⟩
          refine (CallsIn.inRound yl (callsIn_wide.2 cn)).mono ?_
          rintro e w7 ⟨rfl, hB7⟩
          have HQ7 := Lib.hid (HQ6.out.below hB7)
          have HG7 := Lib.hid (stays HG6.out hB7)
          have HKO7 := Lib.hid (HKO6.out.trans (others_below hB7))
          clear cn hB7
          have cn := bld_stringB w.heap.size b (textN bs cs m wd k) (headF lo hi (Lib.itoa c)) _ HQ7.out.bl (by have := HLEN.out; omega) HQ7.out.L.size
          gi_wp2_with (fail)
          refine ⟨trivial, ?_⟩
          refine (CallsIn.inRound yl (callsIn_wide.2 (cn _ ?hs))).mono ?_
          case hs => exact ByteArray.ext (by simp [ByteArray.data_append, headF, HLO2.out, HHI2.out, repeatL_35])
          rintro e w8 ⟨rfl, hBl, hBe, hFr⟩
          have HKO8 := Lib.hid (HKO7.out.trans (HQ7.out.others hBe hFr))
          have HQ8 := Lib.hid (HQ7.out.wrote hBl hBe hFr)
          clear cn hBl hBe hFr
          have m1 := cell_of_row _ _ 0 _ _ _ HQ8.out.r1
          have m2 := cell_of_row _ _ 0 _ _ _ HQ8.out.r2
          by_cases hm : 0 < m
          · have hmul0 : 0 ≤ c * wd := Int.mul_nonneg hc0 HWD.out.1
            have hmul1 : c * wd ≤ 1099511627776 * 100 := Int.mul_le_mul hc1 HWD.out.2 HWD.out.1 (by omega)
            have hb := barF_in m wd c hc0 hcm HWD.out.1 HWD.out.2
            have HBF : Hid (barF m wd c = c * wd / m) := by show _ = _; unfold barF; rw [if_pos hm]
            rw [HBF.out] at hb
            have w1' : IntKind.i64.wrap (c * wd) = c * wd := by rw [IntKind.wrap_i64]; omega
            have w2' : (c * wd).tdiv m = c * wd / m := Int.tdiv_eq_ediv_of_nonneg hmul0
            have hm0' : m ≠ 0 := by omega
            obtain ⟨nn, hnn⟩ : ∃ nn : Nat, c * wd / m = (nn : Int) := ⟨(c * wd / m).toNat, by omega⟩
            rw [hnn] at w2' hb HBF
            have w3' : IntKind.i64.wrap (nn : Int) = (nn : Int) := by rw [IntKind.wrap_i64]; omega
            have hn100 : nn ≤ 100 := by omega
            clear hb hnn hmul0 hmul1 hm1
            by_cases hn : 0 < nn
            · have HBL : Hid (barL (barF m wd c) = 32 :: List.replicate nn 35) := by show _ = _; rw [HBF.out]; unfold barL; rw [if_pos (by omega)]; simp
              have hn' : 0 < (nn : Int) := by omega
              have hr35 : (⟨#[35]⟩ : ByteArray).size = 1 := rfl
              have cr := Tryd.strings_Repeat ⟨#[35]⟩ nn w8 (by omega) (by rw [hr35]; omega)
              clear hr35
              gi_wp2_with (fail)
              refine ⟨trivial, ?_⟩
              refine (CallsIn.inRound yl (callsIn_wide.2 cr)).mono ?_
              rintro e w9 ⟨rfl, hB9⟩
              have HQ9 := Lib.hid (HQ8.out.below hB9)
              have HKO9 := Lib.hid (HKO8.out.trans (others_below hB9))
              clear cr hB9
              have hlr : (Lib.repeatL [35] nn).length = nn := by rw [repeatL_35]; simp
              have cn := bld_stringB w.heap.size b (textN bs cs m wd k ++ headF lo hi (Lib.itoa c)) (32 :: List.replicate nn 35) _ HQ9.out.bl (by have := HLEN.out; simp only [List.length_append, List.length_cons, List.length_replicate]; omega) HQ9.out.L.size
              gi_wp2_with (fail)
              refine ⟨trivial, ?_⟩
              refine (CallsIn.inRound yl (callsIn_wide.2 (cn _ ?hs))).mono ?_
              case hs => exact ByteArray.ext (by simp [ByteArray.data_append, headF, HLO2.out, HHI2.out, repeatL_35])
              rintro e w10 ⟨rfl, hBl, hBe, hFr⟩
              have HKO10 := Lib.hid (HKO9.out.trans (HQ9.out.others hBe hFr))
              have HQ10 := Lib.hid (HQ9.out.wrote hBl hBe hFr)
              clear cn hBl hBe hFr
              have m1 := cell_of_row _ _ 0 _ _ _ HQ10.out.r1
              have m2 := cell_of_row _ _ 0 _ _ _ HQ10.out.r2
              have cn := bld_byte w.heap.size b (textN bs cs m wd k ++ headF lo hi (Lib.itoa c) ++ 32 :: List.replicate nn 35) 10 _ HQ10.out.bl (by have := HLEN.out; simp only [List.length_append]; simp; omega) HQ10.out.L.size
              gi_wp2_with (fail)
              refine ⟨trivial, ?_⟩
              refine (CallsIn.inRound yl (callsIn_wide.2 cn)).mono ?_
              rintro e we ⟨rfl, hBl, hBe, hFr⟩
              have HKOe := Lib.hid (HKO10.out.trans (HQ10.out.others hBe hFr))
              have HQe := Lib.hid (HQ10.out.wrote hBl hBe hFr)
              clear cn hBl hBe hFr
              have m1 := cell_of_row _ _ 0 _ _ _ HQe.out.r1
              have m2 := cell_of_row _ _ 0 _ _ _ HQe.out.r2
              gi_wp2
              refine ⟨HKOe.out, ?_⟩
              show TSt w b p we _ _ wd m (textN bs cs m wd _)
              rw [HLN.out, textN, lineF, ← HCC.out, ← HLO.out, ← HHI.out, HBL.out]
              simpa using HQe.out
            · have HBL : Hid (barL (barF m wd c) = []) := by show _ = _; rw [HBF.out, show nn = 0 by omega]; rfl
              have hn' : ¬ (0 < (nn : Int)) := by omega
              have cn := bld_byte w.heap.size b (textN bs cs m wd k ++ headF lo hi (Lib.itoa c)) 10 _ HQ8.out.bl (by have := HLEN.out; simp only [List.length_append]; simp; omega) HQ8.out.L.size
              gi_wp2_with (fail)
              refine ⟨trivial, ?_⟩
              refine (CallsIn.inRound yl (callsIn_wide.2 cn)).mono ?_
              rintro e we ⟨rfl, hBl, hBe, hFr⟩
              have HKOe := Lib.hid (HKO8.out.trans (HQ8.out.others hBe hFr))
              have HQe := Lib.hid (HQ8.out.wrote hBl hBe hFr)
              clear cn hBl hBe hFr
              have m1 := cell_of_row _ _ 0 _ _ _ HQe.out.r1
              have m2 := cell_of_row _ _ 0 _ _ _ HQe.out.r2
              gi_wp2
              refine ⟨HKOe.out, ?_⟩
              show TSt w b p we _ _ wd m (textN bs cs m wd _)
              rw [HLN.out, textN, lineF, ← HCC.out, ← HLO.out, ← HHI.out, HBL.out]
              simpa using HQe.out
          · have HBL : Hid (barL (barF m wd c) = []) := by show _ = _; unfold barF; rw [if_neg hm]; rfl
            have cn := bld_byte w.heap.size b (textN bs cs m wd k ++ headF lo hi (Lib.itoa c)) 10 _ HQ8.out.bl (by have := HLEN.out; simp only [List.length_append]; simp; omega) HQ8.out.L.size
            gi_wp2_with (fail)
            refine ⟨trivial, ?_⟩
            refine (CallsIn.inRound yl (callsIn_wide.2 cn)).mono ?_
            rintro e we ⟨rfl, hBl, hBe, hFr⟩
            have HKOe := Lib.hid (HKO8.out.trans (HQ8.out.others hBe hFr))
            have HQe := Lib.hid (HQ8.out.wrote hBl hBe hFr)
            clear cn hBl hBe hFr
            have m1 := cell_of_row _ _ 0 _ _ _ HQe.out.r1
            have m2 := cell_of_row _ _ 0 _ _ _ HQe.out.r2
            gi_wp2
            refine ⟨HKOe.out, ?_⟩
            show TSt w b p we _ _ wd m (textN bs cs m wd _)
            rw [HLN.out, textN, lineF, ← HCC.out, ← HLO.out, ← HHI.out, HBL.out]
            simpa using HQe.out
      case done =>
        rintro D xs W rfl hQ hD hDn
        have hbb := bld_text w.heap.size b _ W hQ.bl hQ.L.size
        have HQ := Lib.hid hQ
        have HD := Lib.hid hD
        have HDN := Lib.hid hDn
        clear hQ hD hDn
        gi_wp2_with (fail)
        refine ⟨trivial, ?_⟩
        refine (callsIn_wide.2 hbb).mono ?_
        rintro e w2 ⟨rfl, hB2, hF2⟩
        have HB2 := Lib.hid hB2
        have HF2 := Lib.hid hF2
        clear hbb hB2 hF2
        gi_wp2
        have hdn : w.heap.size ≤ D := by have h := HDN.out; have := HS.out.L.size; simp at h; omega
        have hnb : D ≠ b := by
          have h := HDN.out; have := HPW.out; simp at h; omega
        have hD2 := HF2.out D _ HD.out hnb (fun cs fr e => by cases e)
        refine marks_ret1 rfl hD2 (results_tmp rfl _ _ _) ⟨?_, (HQ.out.L.trans HB2.out).grown (grownBy_putObj' _ D _) (HQ.out.L.trans HB2.out).size (fun k e => by cases e; omega)⟩
        unfold textF
        rw [← HMM.out, ← HW.out]
        rfl
      case stop => exact fun _ _ _ _ _ h => h.elim

end Go.Proofs.YtghgnalbahneoaaDoor
