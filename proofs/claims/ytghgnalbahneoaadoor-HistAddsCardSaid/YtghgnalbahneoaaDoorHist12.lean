/- Histograms: Merge (by program: wip/tools/gen_hist12.py). -/
import Derived.Test.YtghgnalbahneoaaDoorHist11
namespace Go.Proofs.YtghgnalbahneoaaDoor
open Go.RowKit

/-- the counts of two together, up to place k -/
def mrgF (ca cb : List Int) (k : Nat) : List Int := (List.range ca.length).map fun j => if j < k then ca.getD j 0 + cb.getD j 0 else ca.getD j 0
theorem mrgF_length (ca cb : List Int) (k : Nat) : (mrgF ca cb k).length = ca.length := by unfold mrgF; simp
theorem mrgF_getD (ca cb : List Int) (k j : Nat) (hj : j < ca.length) : (mrgF ca cb k).getD j 0 = if j < k then ca.getD j 0 + cb.getD j 0 else ca.getD j 0 := by
  unfold mrgF
  rw [List.getD_eq_getElem?_getD, List.getElem?_map, List.getElem?_range hj]
  rfl
theorem mrgF_zero (ca cb : List Int) : mrgF ca cb 0 = ca := by
  refine List.ext_getElem (by rw [mrgF_length]) fun j h1 h2 => ?_
  have := mrgF_getD ca cb 0 j h2
  rw [if_neg (by omega)] at this
  simpa [List.getD, h1, h2] using this
theorem mrgF_step (ca cb : List Int) (k : Nat) (hk : k < ca.length) : (mrgF ca cb k).set k ((mrgF ca cb k).getD k 0 + cb.getD k 0) = mrgF ca cb (k + 1) := by
  refine List.ext_getElem (by rw [List.length_set, mrgF_length, mrgF_length]) fun j h1 h2 => ?_
  rw [mrgF_length] at h2
  have e1 := mrgF_getD ca cb (k + 1) j h2
  have e2 := mrgF_getD ca cb k j h2
  have e3 := mrgF_getD ca cb k k hk
  rw [if_neg (by omega)] at e3
  have e4 : (mrgF ca cb (k + 1)).getD j 0 = (mrgF ca cb (k + 1))[j]'(by rw [mrgF_length]; exact h2) := by simp [List.getD, mrgF_length, h2]
  have e5 : (mrgF ca cb k).getD j 0 = (mrgF ca cb k)[j]'(by rw [mrgF_length]; exact h2) := by simp [List.getD, mrgF_length, h2]
  rw [List.getElem_set, ← e4, ← e5, e1, e2, e3]
  by_cases hjk : k = j
  · subst hjk; rw [if_pos rfl, if_pos (by omega)]
  · rw [if_neg hjk]
    by_cases h : j < k
    · rw [if_pos h, if_pos (by omega)]
    · rw [if_neg h, if_neg (by omega)]
/-- in the rounds that put into a histogram of the call's own: r the result's block, B the base, g the histogram's box -/
structure RunSt (w W : World) (r B g : Nat) (vb vc : Value) (bs cs : List Int) : Prop where
  low : Below w.heap.size w W
  box : W.heap[g]? = some (hiO vb vc)
  res : W.heap[r]? = some (hiO (.slice none 0 0) (.slice none 0 0))
  own : HOwn W B vb vc bs cs
  siz : B ≤ W.heap.size
  ne : vc.ownBlock ≠ some g
  rB : r < B
  wB : w.heap.size ≤ B
theorem RunSt.put {w W W' : World} {r B g : Nat} {vb vc : Value} {bs cs cs' : List Int} (h : RunSt w W r B g vb vc bs cs) (hb : Below B W W') (hf : ∀ j, j < W.heap.size → vc.ownBlock ≠ some j → W'.heap[j]? = W.heap[j]?) (ho : HOwn W' B vb vc bs cs') : RunSt w W' r B g vb vc bs cs' :=
  ⟨h.low.trans (hb.mono h.wB), (hf g (Array.getElem?_eq_some_iff.1 h.box).1 h.ne).trans h.box, (hb.block _ h.rB).trans h.res, ho, Nat.le_trans h.siz hb.size, h.ne, h.rB, h.wB⟩
theorem RunSt.below {w W W' : World} {r B g : Nat} {vb vc : Value} {bs cs : List Int} (h : RunSt w W r B g vb vc bs cs) (hb : Below W.heap.size W W') : RunSt w W' r B g vb vc bs cs :=
  ⟨h.low.trans (hb.mono h.low.size), stays h.box hb, stays h.res hb, h.own.below hb, Nat.le_trans h.siz hb.size, h.ne, h.rB, h.wB⟩
/-- what Merge answers -/
def MergeR (ba ca bb cb : List Int) (B : Nat) (e : Ending) (w' : World) : Prop :=
  (ba ≠ bb ∧ e = .returned (.tuple #[hiV (.slice none 0 0) (.slice none 0 0), .int .i64 20])) ∨
  (ba = bb ∧ (∃ j, j < ca.length ∧ 1099511627776 < ca.getD j 0 + cb.getD j 0) ∧ e = .returned (.tuple #[hiV (.slice none 0 0) (.slice none 0 0), .int .i64 10])) ∨
  (ba = bb ∧ (∀ j, j < ca.length → ca.getD j 0 + cb.getD j 0 ≤ 1099511627776) ∧ ∃ vb vc, e = .returned (.tuple #[hiV vb vc, .int .i64 0]) ∧ HOwn w' B vb vc ba (mrgF ca cb ca.length))

set_option maxRecDepth 100000 in
set_option maxHeartbeats 1000000 in
theorem merge_any (v1 v2 v3 v4 : Value) (ba ca bb cb : List Int) (w : World) (h1 : Its w w.heap.size v1 ba) (h2 : Its w w.heap.size v2 ca) (h3 : Its w w.heap.size v3 bb) (h4 : Its w w.heap.size v4 cb) (hfa : FitH ba ca) (hfb : FitH bb cb) : Calls Tryd.prog 28 #[hiV v1 v2, hiV v3 v4] w fun e w' => MergeR ba ca bb cb w.heap.size e w' ∧ Below w.heap.size w w' := by
  obtain ⟨g0, k0⟩ := hist_new w v1 v2
  obtain ⟨g1, k1⟩ := hist_new (w.alloc (.cells #[v1, v2] 24)) v3 v4
  obtain ⟨g2, k2⟩ := hist_new ((w.alloc (.cells #[v1, v2] 24)).alloc (.cells #[v3, v4] 24)) (.slice none 0 0) (.slice none 0 0)
  have G01 := g0.trans (g1.mono g0.size)
  have L := Lib.hid (G01.trans (g2.mono G01.size))
  have K1 := Lib.hid (stays (stays k0 g1) g2)
  have K2 := stays k1 g2
  have K3 := k2
  simp only [World.size_alloc] at K2 K3
  have H1 := Lib.hid (((h1.kept g0).kept g1).kept g2)
  have H2 := Lib.hid (((h2.kept g0).kept g1).kept g2)
  have H3 := Lib.hid (((h3.kept g0).kept g1).kept g2)
  have H4 := Lib.hid (((h4.kept g0).kept g1).kept g2)
  have HJ := Lib.hid h4
  replace K2 := Lib.hid K2
  replace K3 := Lib.hid K3
  clear g0 g1 g2 k0 k1 k2 G01
  obtain ⟨a1, c1, hv1, -⟩ := h1.slice
  obtain ⟨a2, c2, hv2, -⟩ := h2.slice
  obtain ⟨a3, c3, hv3, -⟩ := h3.slice
  obtain ⟨a4, c4, hv4, -⟩ := h4.slice
  subst hv1 hv2 hv3 hv4
  have PB := Lib.hid hfa.1.1
  have PC : Hid (0 < ca.length) := by show _ < _; have := hfa.2.1; omega
  have HFA := Lib.hid hfa
  have HFB := Lib.hid hfb
  obtain ⟨nb, hnb⟩ : ∃ n, n = ba.length := ⟨_, rfl⟩
  obtain ⟨nc, hnc⟩ : ∃ n, n = ca.length := ⟨_, rfl⟩
  obtain ⟨nb3, hnb3⟩ : ∃ n, n = bb.length := ⟨_, rfl⟩
  obtain ⟨nc4, hnc4⟩ : ∃ n, n = cb.length := ⟨_, rfl⟩
  rw [← hnb, ← hnc, ← hnb3, ← hnc4] at K1 K2 K3 L H1 H2 H3 H4 ⊢
  rw [← hnc4] at HJ
  have NB := Lib.hid hnb
  have NC := Lib.hid hnc
  have NC4 := Lib.hid hnc4
  have HBND : Hid (nb ≤ 64 ∧ nc = nb + 1 ∧ nb3 ≤ 64 ∧ nc4 = nb3 + 1) := by
    have e1 := hfa.1.2.1; have e2 := hfa.2.1; have e3 := hfb.1.2.1; have e4 := hfb.2.1
    show _ ∧ _
    omega
  have NB3 := Lib.hid hnb3
  clear h1 h2 h3 h4 hfa hfb hnb hnc hnb3 hnc4
  have x0 := hiO_0 K1.out
  have x1 := hiO_1 K1.out
  have y0 := hiO_0 K2.out
  have y1 := hiO_1 K2.out
  have r0 := hiO_0 K3.out
  have r1 := hiO_1 K3.out
  have z0 := hiF_0 K3.out
  have z1 := hiF_1 K3.out
  have ce := equal_any _ _ ba bb _ H1.out H3.out
  go_enter Tryd.func28, Tryd.ntmps28
  by_cases hab : ba = bb
  · rw [decide_eq_true hab] at ce
    go_wp2_with (fail)
    refine ce.mono ?_
    rintro e w1 ⟨rfl, n, rfl⟩
    clear ce
    replace L := Lib.hid (bel_drew (k := n) L.out)
    replace K1 := Lib.hid (stays K1.out (bdN _ _ n))
    replace K2 := Lib.hid (stays K2.out (bdN _ _ n))
    replace K3 := Lib.hid (stays K3.out (bdN _ _ n))
    replace H1 := Lib.hid (H1.out.kept (bdN _ _ n))
    replace H2 := Lib.hid (H2.out.kept (bdN _ _ n))
    clear x0 x1 y0 y1 r0 r1 z0 z1 H3 H4
    generalize (((w.alloc (.cells #[(.slice a1 nb c1), (.slice a2 nc c2)] 24)).alloc (.cells #[(.slice a3 nb3 c3), (.slice a4 nc4 c4)] 24)).alloc (.cells #[(.slice none 0 0), (.slice none 0 0)] 24)).drewN n = W0 at *
    have x0 := hiO_0 K1.out
    have x1 := hiO_1 K1.out
    go_wp2_with (fail)
    refine (own_any _ _ ba ca _ H1.out H2.out PB.out (by have := NB.out; have := HBND.out; omega) PC.out (by have := NC.out; have := HBND.out; omega)).mono ?_
    rintro e w1 ⟨⟨ub, uc, rfl, ho⟩, hB1⟩
    obtain ⟨gb, cpb, hvb, -, -, -⟩ := ho.b.blk PB.out
    obtain ⟨gc, cpc, hvc, -, hgc, -⟩ := ho.c.blk PC.out
    rw [← NB.out] at hvb
    rw [← NC.out] at hvc
    subst hvb hvc
    obtain ⟨g2, k2⟩ := hist_new w1 (.slice (some ⟨gb, 0, none⟩) nb cpb) (.slice (some ⟨gc, 0, none⟩) nc cpc)
    have hst : RunSt w (w1.alloc (.cells #[(.slice (some ⟨gb, 0, none⟩) nb cpb), (.slice (some ⟨gc, 0, none⟩) nc cpc)] 24)) (w.heap.size + 1 + 1) W0.heap.size w1.heap.size (.slice (some ⟨gb, 0, none⟩) nb cpb) (.slice (some ⟨gc, 0, none⟩) nc cpc) ba (mrgF ca cb 0) := by
      refine ⟨(L.out.trans (hB1.mono L.out.size)).trans (g2.mono (Nat.le_trans L.out.size hB1.size)), k2, stays (stays K3.out hB1) g2, by rw [mrgF_zero]; exact ho.below g2, Nat.le_trans hB1.size g2.size, ?_, (Array.getElem?_eq_some_iff.1 K3.out).1, L.out.size⟩
      intro he
      simp only [Value.ownBlock, Option.some.injEq] at he
      omega
    have HS := Lib.hid hst
    replace K2 := Lib.hid (stays (stays K2.out hB1) g2)
    clear x0 x1 K1 K3 H1 H2 ho hB1 hgc k2 g2 hst L
    have y1 := hiO_1 K2.out
    go_wp2
    clear y1 K2
    have hn4 : nc4 ≤ 65 := by have := HBND.out; omega
    generalize (w1.alloc (.cells #[(.slice (some ⟨gb, 0, none⟩) nb cpb), (.slice (some ⟨gc, 0, none⟩) nc cpc)] 24)) = W1 at *
    generalize w1.heap.size = g at *
    generalize W0.heap.size = B at *
    go_loopw [21] (fun i wr => ∃ k : Nat, k ≤ nc4 ∧ i = .int .i64 (k : Int) ∧ Hid (RunSt w wr (w.heap.size + 1 + 1) B g (.slice (some ⟨gb, 0, none⟩) nb cpb) (.slice (some ⟨gc, 0, none⟩) nc cpc) ba (mrgF ca cb k)) ∧ Hid (∀ j, j < k → ca.getD j 0 + cb.getD j 0 ≤ 1099511627776)) (fun i _ => nc4 - (intOf i).toNat)
    case atStart => exact ⟨0, Nat.zero_le _, rfl, HS, fun j hj => absurd hj (by omega)⟩
    case round =>
      obtain ⟨k, hk, rfl, HS, HK⟩ := hrel
      have HCC : Hid (nc = nc4 ∧ nc ≤ 65) := by
        have := HBND.out; have e := congrArg List.length hab; rw [← NB.out, ← NB3.out] at e
        show _ ∧ _
        omega
      by_cases hlt : k < nc4
      · obtain ⟨x, hx⟩ : ∃ x, x = cb.getD k 0 := ⟨_, rfl⟩
        obtain ⟨ba4, o4, hao, hbl, hcell⟩ : ∃ b off, a4 = some ⟨b, off, none⟩ ∧ b < w.heap.size ∧ w.cell? ⟨b, off + k, none⟩ = some (.int .i64 x) := by
          rcases HJ.out.form with ⟨h0, -⟩ | ⟨hpos, b, off, cap', he, -, -, hb, hcc⟩
          · exfalso; rw [h0] at NC4; have := NC4.out; simp at this; omega
          · exact ⟨b, off, (Value.slice.inj he).1, hb, by rw [hx]; exact hcc k (by have := NC4.out; omega)⟩
        subst hao
        have e1 := (HS.out.low.cell (p := ⟨ba4, o4 + k, none⟩) hbl).trans hcell
        have hxin := HFB.out.cnt k
        rw [← hx] at hxin
        have hcin := HFA.out.cnt k
        have hgd := mrgF_getD ca cb k k (by rw [← NC.out]; have := HCC.out; omega)
        rw [if_neg (by omega)] at hgd
        have HPU := Lib.hid (put_any (.slice (some ⟨gb, 0, none⟩) nb cpb) (.slice (some ⟨gc, 0, none⟩) nc cpc) ba (mrgF ca cb k) k x wr B HS.out.own HS.out.siz (by rw [mrgF_length, ← NC.out]; have := HCC.out; omega) (by rw [hgd]; exact hcin.1) (by rw [hgd]; exact hcin.2) hxin.1 (by omega))
        have HX := Lib.hid hx
        have HGD := Lib.hid hgd
        have b0 := hiO_0 HS.out.box
        have b1 := hiO_1 HS.out.box
        have hki : 0 ≤ (k : Int) ∧ (k : Int) < (nc4 : Int) := by omega
        clear hx hcell hxin hcin hgd hbl
        go_wp2_with (fail)
        refine HPU.out.mono ?_
        rintro e W5 ⟨hP, hBe, hF⟩
        rcases hP with ⟨hbad, rfl, hO⟩ | ⟨hgood, rfl, hO⟩
        · have HBAD : Hid (1099511627776 < ca.getD k 0 + cb.getD k 0) := by show _ < _; rw [← HX.out, ← HGD.out]; exact hbad
          have HS5 := Lib.hid (HS.out.put hBe hF hO)
          clear hBe hF hO hbad HPU b0 b1
          have r0 := hiO_0 HS5.out.res
          have r1 := hiO_1 HS5.out.res
          have z0 := hiF_0 HS5.out.res
          have z1 := hiF_1 HS5.out.res
          go_wp2
          exact bodyPost_ret (v := .tuple #[hiV (.slice none 0 0) (.slice none 0 0), .int .i64 10]) (by simp [results, Tryd.results28, go_sem, *]) rfl ⟨.inr (.inl ⟨hab, ⟨k, by rw [← NC.out]; have := HCC.out; omega, HBAD.out⟩, rfl⟩), bel_set (by omega) (bel_set (by omega) HS5.out.low)⟩
        · have HS5 : Hid (RunSt w W5 (w.heap.size + 1 + 1) B g (.slice (some ⟨gb, 0, none⟩) nb cpb) (.slice (some ⟨gc, 0, none⟩) nc cpc) ba (mrgF ca cb (k + 1))) := by
            have := HS.out.put hBe hF hO
            rw [HX.out, mrgF_step ca cb k (by rw [← NC.out]; have := HCC.out; omega)] at this
            exact this
          have HK2 : Hid (∀ j, j < k + 1 → ca.getD j 0 + cb.getD j 0 ≤ 1099511627776) := fun j hj => by
            rcases Nat.lt_or_ge j k with h | h
            · exact HK.out j h
            · obtain rfl : j = k := by omega
              rw [← HX.out, ← HGD.out]; exact hgood
          clear hBe hF hO hgood HPU b0 b1
          go_wp2
          go_roundw
          case rel => exact ⟨k + 1, by omega, by go_num, HS5, HK2⟩
          case measure => simp [intOf]; omega
      · have hkn : k = nc4 := by omega
        subst hkn
        have r0 := hiO_0 HS.out.res
        have r1 := hiO_1 HS.out.res
        have z0 := hiF_0 HS.out.res
        have z1 := hiF_1 HS.out.res
        have b0 := hiO_0 HS.out.box
        have b1 := hiO_1 HS.out.box
        have hrB := HS.out.rB
        have hkc : k = ca.length := by rw [← NC.out]; exact HCC.out.1.symm
        go_wp2
        refine bodyPost_ret (v := .tuple #[hiV (.slice (some ⟨gb, 0, none⟩) nb cpb) (.slice (some ⟨gc, 0, none⟩) nc cpc), .int .i64 0]) (by simp [results, Tryd.results28, go_sem, *]) rfl ⟨.inr (.inr ⟨hab, by rw [← hkc]; exact HK.out, _, _, rfl, ?_⟩), bel_set (by omega) (bel_set (by omega) HS.out.low)⟩
        rw [← hkc]
        exact HOwn.mono (HOwn.set (HOwn.set HS.out.own hrB) hrB) HS.out.wB
  · rw [decide_eq_false hab] at ce
    have HAB := Lib.hid hab
    clear hab
    go_wp2_with (fail)
    refine ce.mono ?_
    rintro e w1 ⟨rfl, n, rfl⟩
    go_wp2
    exact bodyPost_ret (v := .tuple #[hiV (.slice none 0 0) (.slice none 0 0), .int .i64 20]) (by simp [results, Tryd.results28, go_sem, *]) rfl ⟨.inl ⟨HAB.out, rfl⟩, by first | exact bel_drew L.out | exact bel_set (by omega) (bel_set (by omega) (bel_drew L.out))⟩


end Go.Proofs.YtghgnalbahneoaaDoor
