/- Cuts: slices.Index over numbers, Ways: walked. -/
import Derived.Test.YtenilbofncfbdaaCG
import Derived.Test.YtenilbofncfbdaaCD
import Derived.Deep.LoopGhost
set_option linter.unusedSimpArgs false
set_option linter.unusedVariables false
namespace Go.Proofs.Ytenilbofncfbdaa
open Go.RowKit

def idxV (xs : List Nat) (u : Nat) : Int := if u ∈ xs then (xs.idxOf u : Int) else -1
set_option maxRecDepth 100000 in
set_option maxHeartbeats 2000000 in
theorem index_any (W : World) (sv : Value) (xs : List Nat) (u : Nat) (h : Its W W.heap.size sv (nI xs)) (hl : xs.length ≤ 1000) :
    Calls Try.prog 36 #[sv, .int .i64 (u : Int)] W fun e w' => e = .returned (.int .i64 (idxV xs u)) ∧ Below W.heap.size W w' := by
  obtain ⟨ao, cap, rfl, hcap, -⟩ := h.slice
  obtain ⟨R, hR⟩ : ∃ R, R = idxV xs u := ⟨_, rfl⟩
  rw [← hR]
  have HR := Lib.hid hR
  have HI := Lib.hid h
  obtain ⟨m, hm⟩ : ∃ m, m = (nI xs).length := ⟨_, rfl⟩
  have hml : m = xs.length := by rw [hm]; simp
  have HM := Lib.hid hml
  have hm1 : m ≤ 1000 := by omega
  rw [← hm] at HI hcap ⊢
  clear hR h hm hml hl
  go_enter Try.func36, Try.ntmps36
  go_wp2_with (fail)
  go_loopw [8] (fun iv wx => ∃ i : Nat, iv = .int .i64 (i : Int) ∧ i ≤ m ∧ Hid (u ∉ xs.take i) ∧ Hid (Below W.heap.size W wx)) (fun iv _ => m - (intOf iv).toNat)
  case atStart => exact ⟨0, rfl, Nat.zero_le _, by show _ ∉ _; simp, Below.refl _ _⟩
  case round =>
    obtain ⟨i, rfl, hi, HN, HB⟩ := hrel
    by_cases hlt : i < m
    · have hix : i < xs.length := by have := HM.out; omega
      obtain ⟨b, off, hb, hbl, ci⟩ := Its.at (HI.out.below HB.out (Nat.le_refl _)) i (by simpa using hix)
      subst hb
      have hg : (nI xs).getD i 0 = ((xs[i]'hix : Nat) : Int) := by simp [nI, List.getD, hix]
      rw [hg] at ci
      obtain ⟨y, hy⟩ : ∃ y, y = xs[i]'hix := ⟨_, rfl⟩
      rw [← hy] at ci
      have HY := Lib.hid hy
      have hbw : b < wr.heap.size := by have := HB.out.size; omega
      clear hg
      by_cases hyu : u = y
      · subst hyu
        have HE : Hid (R = (i : Int)) := by
          show _ = _
          rw [HR.out]
          unfold idxV
          have hmem : u ∈ xs := by rw [HY.out]; exact List.getElem_mem _
          rw [if_pos hmem]
          obtain ⟨p, q, e1, e2, e3⟩ := idx_mem hmem
          have hge : p.length ≥ i := by
            refine Classical.byContradiction fun hc => HN.out ?_
            rw [e1]
            rw [show i = p.length + ((i - p.length - 1) + 1) by omega, List.take_length_add_append]
            simp
          have hle : p.length ≤ i := by
            refine Classical.byContradiction fun hc => e3 ?_
            have : xs[i]? = p[i]? := by rw [e1, List.getElem?_append_left (by omega)]
            rw [List.getElem?_eq_getElem hix, List.getElem?_eq_getElem (by omega)] at this
            injection this with this
            rw [HY.out, this]
            exact List.getElem_mem _
          rw [e2]
          omega
        clear hy
        go_wp2_with (fail)
        go_ret
        rw [HE.out]
        exact ⟨rfl, HB.out⟩
      · have hub : ((u : Int) == (y : Int)) = false := by rw [beq_eq_false_iff_ne]; omega
        have HN2 : Hid (u ∉ xs.take (i + 1)) := by
          show _ ∉ _
          rw [List.take_add_one, List.getElem?_eq_getElem hix]
          simp only [Option.toList_some, List.mem_append, List.mem_singleton]
          rintro (h | h)
          · exact HN.out h
          · exact hyu (h.trans HY.out.symm)
        clear hyu hy
        go_wp2_with (fail)
        go_roundw
        case rel => exact ⟨i + 1, by go_num, by omega, HN2.out, HB.out⟩
        case measure => simp [intOf] <;> omega
    · obtain rfl : i = m := by omega
      have HE : Hid (R = -1) := by
        show _ = _
        rw [HR.out]
        unfold idxV
        rw [if_neg]
        have := HN.out
        rw [HM.out, List.take_length] at this
        exact this
      clear HI hcap
      go_wp2_with (fail)
      go_ret
      rw [HE.out]
      exact ⟨rfl, HB.out⟩

theorem FlowW.low {W W' : World} {B B2 fb gb : Nat} {lv : Value} {n : Nat} {L : Prs} {g : List Int} (h : FlowW W B fb gb lv n L g) (hb : Below B2 W W') (hB : B ≤ B2) (h1 : fb < B2) (h2 : gb < B2) : FlowW W' B fb gb lv n L g :=
  ⟨(hb.block _ h1).trans h.f, h.row.of (hb.block _ h2), h.gl, h.l.below (hb.mono hB) (Nat.le_refl _), h.bf, h.bg⟩
theorem OwnN.lit {W : World} {B g : Nat} {z : Int} (h : W.heap[g]? = some (.cells #[.int .i64 z] 3 (0, 0))) (hB : B ≤ g) : OwnN W B (.slice (some ⟨g, 0, none⟩) 1 1) [z] :=
  ⟨rfl, .inr ⟨g, 1, _, rfl, hB, h, Nat.le_refl _, by unfold maxLen; omega, rfl, rfl⟩⟩
theorem OwnN.form {W : World} {B : Nat} {v : Value} {xs : List Int} (h : OwnN W B v xs) (hx : xs ≠ []) : ∃ g cap, v = .slice (some ⟨g, 0, none⟩) xs.length cap ∧ xs.length ≤ cap ∧ ∀ i, i ≤ xs.length → OwnN W B (.slice (some ⟨g, 0, none⟩) i cap) (xs.take i) := by
  rcases h.2 with ⟨rfl, h0⟩ | ⟨g, cap, cur, rfl, hb, hg, hn, hcm, hcs, htake⟩
  · exact absurd (List.eq_nil_of_length_eq_zero h0) hx
  · refine ⟨g, cap, rfl, hn, fun i hi => ?_⟩
    have e : (xs.take i).length = i := by simp; omega
    refine ⟨by simp, .inr ⟨g, cap, cur, by rw [e], hb, hg, by rw [e]; omega, hcm, hcs, ?_⟩⟩
    rw [e, Nat.mul_one]
    rw [Nat.mul_one] at htake
    have := congrArg (List.take i) htake
    rw [List.take_take, Nat.min_eq_left hi] at this
    rw [this, List.map_take]

theorem OwnN.takes {W : World} {B g m cap i : Nat} {xs : List Int} (h : OwnN W B (.slice (some ⟨g, 0, none⟩) m cap) xs) (hi : i ≤ xs.length) : OwnN W B (.slice (some ⟨g, 0, none⟩) i cap) (xs.take i) := by
  rcases h.2 with ⟨h0, -⟩ | ⟨g', cap', cur, h0, hb, hg, hn, hcm, hcs, htake⟩
  · cases h0
  · injection h0 with e1 e2 e3
    injection e1 with e1
    injection e1 with e1
    subst e1
    subst e3
    have e : (xs.take i).length = i := by simp; omega
    refine ⟨by simp, .inr ⟨g, cap, cur, by rw [e], hb, hg, by rw [e]; omega, hcm, hcs, ?_⟩⟩
    rw [e, Nat.mul_one]
    rw [Nat.mul_one] at htake
    have := congrArg (List.take i) htake
    rw [List.take_take, Nat.min_eq_left hi] at this
    rw [this, List.map_take]
/-- rows of nodes -/
abbrev nII (o : List (List Nat)) : List (List Int) := o.map nI
/-- in the outer loop -/
def OM (w : World) (B2 : Nat) (lv : Value) (L : Prs) (n a b T : Nat) (R : List (List Nat)) (fb gb t : Nat) (ov : Value) (W : World) : Prop :=
  ∃ g outs, FlowW W w.heap.size fb gb lv n L g ∧ OwnG W B2 ov (nII outs) ∧ FlowI (endA L) (endB L) L.length a b ((T - t : Nat) : Int) (gF g) ∧ R = waysR L a b (T - t) g outs ∧ outs.length = t ∧ Below w.heap.size w W ∧ B2 ≤ W.heap.size
/-- in the inner loop -/
def WM (w W0 : World) (lv : Value) (L : Prs) (n a b T : Nat) (g0 : List Int) (G : List Int × List Nat) (fb gb f : Nat) (v : Nat) (wv : Value) (W : World) : Prop :=
  ∃ g way, FlowW W w.heap.size fb gb lv n L g ∧ (∀ c, c ≠ gb → c < W0.heap.size → W.heap[c]? = W0.heap[c]?) ∧ OwnN W W0.heap.size wv (nI way) ∧ WI L n a b T g0 g v way ∧ nzL g < f ∧ G = wayR L b f g v way ∧ Below w.heap.size w W ∧ W0.heap.size ≤ W.heap.size
theorem WI.small {L : Prs} {n a b T : Nat} {g0 g : List Int} {v : Nat} {way : List Nat} (h : WI L n a b T g0 g v way) : way.length ≤ n := nodup_bound h.nod h.lt

set_option maxRecDepth 100000 in
set_option maxHeartbeats 8000000 in
theorem ways_any (w : World) (lv : Value) (n : Nat) (L : Prs) (a b : Int) (hl : Lis w w.heap.size lv L) (hf : FitL n L) (hL : L.length ≤ 1000) (hn : n ≤ 16) :
    Calls Try.prog 18 #[.int .i64 (n : Int), lv, .int .i64 a, .int .i64 b] w fun e w' => (∃ v, e = .returned v ∧ OwnG w' w.heap.size v (nII (waysI L n a b))) ∧ Below w.heap.size w w' := by
  have HC := Lib.hid (most_any w lv n L a b hl hf hL hn)
  obtain ⟨R, hR⟩ : ∃ R, R = waysI L n a b := ⟨_, rfl⟩
  obtain ⟨ao, cap, rfl, hcap, hcl⟩ := hl.slice
  have HF := Lib.hid hf
  have HL1 := Lib.hid hL
  obtain ⟨m, hm⟩ : ∃ m, m = L.length := ⟨_, rfl⟩
  have HMM : Hid (m = L.length) := hm
  rw [← hm] at HC hcap hcl hL ⊢
  rw [← hR]
  by_cases hp : Pair n a b
  · obtain ⟨p1, p2, p3, p4, p5⟩ := hp
    obtain ⟨x, rfl⟩ : ∃ x : Nat, a = (x : Int) := ⟨a.toNat, by omega⟩
    obtain ⟨y, rfl⟩ : ∃ x : Nat, b = (x : Int) := ⟨b.toNat, by omega⟩
    have hx : x < n := by omega
    have hy : y < n := by omega
    have hxy : x ≠ y := by omega
    have hmo := most_ok hf hx hy hxy
    have e0 := mostI_pair (L := L) hxy hx hy
    have hR2 : R = waysR L x y (mostF L n x y).2 (mostF L n x y).1 [] := by rw [hR]; unfold waysI; rw [e0]; simp
    rw [e0] at HC
    obtain ⟨T, hT⟩ : ∃ T, T = (mostF L n x y).2 := ⟨_, rfl⟩
    obtain ⟨g, hg⟩ : ∃ g, g = (mostF L n x y).1 := ⟨_, rfl⟩
    have hTL : T ≤ 1000 := by rw [hT]; have := flow_small hxy hmo.flow; omega
    rw [← hT, ← hg] at hmo HC hR2
    have HMO := Lib.hid hmo
    have HR2 := Lib.hid hR2
    clear hR hl hm hf e0 hT hg hmo hR2 p1 p2 p3 p4 p5
    go_enter Try.func18, Try.ntmps18
    go_wp2_with (fail)
    refine HC.out.mono ?_
    rintro e W1 ⟨⟨fb, gb, rfl, hfw⟩, hb⟩
    obtain ⟨B2, hB2⟩ : ∃ B2, B2 = W1.heap.size := ⟨_, rfl⟩
    have HFB : Hid (fb < B2 ∧ gb < B2 ∧ w.heap.size ≤ B2) := by have h1 := hfw.lt; have h2 := hb.size; exact ⟨by omega, by omega, by omega⟩
    have HOM : Hid (OM w B2 (.slice ao m cap) L n x y T R fb gb 0 (.slice none 0 0) W1) := ⟨g, [], hfw, OwnG.nil _ _, HMO.out.flow, HR2.out, rfl, hb, by omega⟩
    clear hfw hb HC HMO HR2 hB2
    go_wp2_with (fail)
    go_loopw [11, 24] (fun ov tv wx => ∃ (t no co : Nat) (ao' : Option Addr), ov = .slice ao' no co ∧ tv = .int .i64 (t : Int) ∧ t ≤ T ∧ Hid (OM w B2 (.slice ao m cap) L n x y T R fb gb t (.slice ao' no co) wx)) (fun _ tv _ => T - (intOf tv).toNat)
    case atStart => exact ⟨0, 0, 0, none, rfl, rfl, Nat.zero_le _, HOM.out⟩
    case round =>
      clear HOM
      obtain ⟨t, no, co, ao', rfl, rfl, ht, HOM⟩ := hrel
      by_cases hlt : t < T
      · obtain ⟨g1, outs, hfw, hog, hfl, hrr, hol, hbe, hbz⟩ := HOM.out
        have m1 := new_block wr (.cells #[.int .i64 (x : Int)] 3)
        obtain ⟨G, hG⟩ : ∃ G, G = wayR L y (L.length + 1) g1 x [x] := ⟨_, rfl⟩
        have hTt : T - t = (T - (t + 1)) + 1 := by omega
        have HRR : Hid (R = waysR L x y (T - (t + 1)) G.1 (outs ++ [G.2])) := by show _ = _; rw [hrr, hTt, hG]; rfl
        have hws := WI.start (n := n) hx hfw.gl hfl
        have hnz := nz_len g1
        have hgl := hfw.gl
        obtain ⟨W0, hW0⟩ : ∃ W0, W0 = wr := ⟨_, rfl⟩
        have HWM : Hid (WM w W0 (.slice ao m cap) L n x y (T - t) g1 G fb gb (L.length + 1) x (.slice (some ⟨wr.heap.size, 0, none⟩) 1 1) (wr.alloc (.cells #[.int .i64 (x : Int)] 3))) := by
          rw [hW0]
          exact ⟨g1, [x], hfw.below m1.1, fun c _ hc => m1.1.block c hc, OwnN.lit m1.2 (Nat.le_refl _), hws, by omega, hG, hbe.trans (m1.1.mono hbe.size), m1.1.size⟩
        have HOG0 : Hid (OwnG W0 B2 (.slice ao' no co) (nII outs)) := by rw [hW0]; exact hog
        have HBZ0 : Hid (B2 ≤ W0.heap.size) := by rw [hW0]; exact hbz
        clear hW0
        have HWR := Lib.hid (wayR_ok HF.out hxy (show 0 < T - t by omega) (L.length + 1) g1 x [x] hws (by omega))
        rw [← hG] at HWR
        have HOL := Lib.hid hol
        clear HOM hfw hog hfl hrr hol hbe hbz m1 hG hTt hws hnz hgl
        go_wp2_with (fail)
        go_loopg [12, 13] (L.length + 1) (fun k wv vv wx => ∃ (v nw cw : Nat) (aw : Option Addr), wv = .slice aw nw cw ∧ vv = .int .i64 (v : Int) ∧ Hid (WM w W0 (.slice ao m cap) L n x y (T - t) g1 G fb gb k v (.slice aw nw cw) wx))
        case atStart => exact ⟨x, 1, 1, _, rfl, rfl, HWM.out⟩
        case round =>
          clear HWM
          obtain ⟨v, nw, cw, aw, rfl, rfl, HWM⟩ := hrel
          obtain ⟨g, way, hfw, hkx, how, hwi, hnz, hG, hbe, hbz⟩ := HWM.out
          by_cases hvy : v = y
          · subst hvy
            have hGG : G = (g, way) := by
              obtain ⟨q, rfl⟩ : ∃ q, gk = q + 1 := ⟨gk - 1, by omega⟩
              rw [hG]
              show (if _ then _ else _) = _
              rw [if_pos rfl]
            have m2 := new_block wr (.cells #[.slice aw nw cw] 35)
            have HFW3 := Lib.hid (hfw.below m2.1)
            have hog : OwnG wr B2 (.slice ao' no co) (nII outs) := HOG0.out.of fun c cs ty hc _ hB => hkx c (by have := HFB.out.2.1; omega) (Array.getElem?_eq_some_iff.1 hc).1
            have HOG3 := Lib.hid (hog.below m2.1)
            have HOW3 : Hid (OwnN (wr.alloc (.cells #[.slice aw nw cw] 35)) B2 (.slice aw nw cw) (nI way)) := owns_mono (owns_below how m2.1) HBZ0.out
            have HM2 := Lib.hid m2.2
            have HBE3 := Lib.hid (hbe.trans (m2.1.mono hbe.size))
            have HBZ3 := Lib.hid (Nat.le_trans HBZ0.out (Nat.le_trans hbz m2.1.size))
            have HSM : Hid ((nII outs).length ≤ 1000000) := by show _ ≤ _; rw [List.length_map, HOL.out]; omega
            have HGG := Lib.hid hGG
            clear HWM hfw hog hkx how hwi hnz hG hbe hbz hGG m2
            go_wp2_with (at_builtin; refine wpList_append_g rfl _ _ rfl B2 _ _ rfl HOG3.out wr.heap.size (nI way) (.slice aw nw cw) rfl HM2.out HOW3.out HSM.out HBZ3.out ?_)
            intro v5 W5 hog5 hb5 hk5
            have HOM5 : Hid (OM w B2 (.slice ao m cap) L n x v T R fb gb (t + 1) v5 W5) := by
              have h1 := HWR.out.2.2
              have h2 := HRR.out
              rw [HGG.out] at h1 h2
              refine ⟨g, outs ++ [way], HFW3.out.low hb5 HFB.out.2.2 HFB.out.1 HFB.out.2.1, by rw [show nII (outs ++ [way]) = nII outs ++ [nI way] by simp [nII]]; exact hog5, ?_, h2, by simp [HOL.out], HBE3.out.trans (hb5.mono HFB.out.2.2), Nat.le_trans HBZ3.out hb5.size⟩
              rw [show T - (t + 1) = T - t - 1 by omega]
              exact h1
            obtain ⟨av5, cv5, hv5⟩ := hog5.form
            clear hog5 hb5 hk5
            subst hv5
            go_wp2_with (fail)
            go_roundw
            case rel => exact ⟨t + 1, _, cv5, av5, rfl, by go_num, by omega, HOM5.out⟩
            case measure => simp [intOf] <;> omega
          · have hvb : ((v : Int) == (y : Int)) = false := by rw [beq_eq_false_iff_ne]; omega
            obtain ⟨⟨u, k⟩, hfd, hed, hfp⟩ := hwi.next HF.out hxy (show 0 < T - t by omega) hvy
            replace hed : Edge L k u v := hed
            have hff : folF L g v = (u, g.set k 0) := by unfold folF; rw [hfd]
            have HFO := Lib.hid (follow_any wr w.heap.size fb gb (.slice ao m cap) n L g v hfw HF.out (Nat.le_trans HFB.out.2.2 (Nat.le_trans HBZ0.out hbz)))
            rw [hff] at HFO
            obtain ⟨q, rfl⟩ : ∃ q, gk = q + 1 := ⟨gk - 1, by omega⟩
            obtain ⟨hwi2, hnz2⟩ := hwi.step HF.out hed hfp
            have HG2 : Hid (G = wayR L y q (g.set k 0) u (wayN way u)) := by show _ = _; rw [hG]; show (if _ then _ else _) = _; rw [if_neg hvy, hff]
            have hwne : nI way ≠ [] := by
              have := hwi.hd
              intro e
              have e2 : way = [] := by simpa using e
              rw [e2] at this
              cases this
            obtain ⟨gw, cw2, hwf, hwc, htk⟩ := how.form hwne
            have hwl : way.length ≤ 1000 := by have := hwi.small; omega
            rw [List.length_map] at hwf hwc htk
            have HKX := Lib.hid hkx
            have HOW := Lib.hid how
            have HWI2 := Lib.hid hwi2
            have HNZ2 : Hid (nzL (g.set k 0) < q) := by show _ < _; omega
            have HBE := Lib.hid hbe
            have HBZ := Lib.hid hbz
            clear HWM hfw hkx how hwi hnz hG hbe hbz hff hfd hed hfp hwi2 hnz2 hwne htk
            injection hwf with e1 e2 e3
            subst e1 e2 e3
            go_wp2_with (fail)
            refine HFO.out.mono ?_
            rintro e W2 ⟨rfl, hfw2, hb2, ho2⟩
            have hkx2 : ∀ c, c ≠ gb → c < W0.heap.size → W2.heap[c]? = W0.heap[c]? := fun c h1 h2 => (ho2 c h1 (by have := HBZ.out; omega)).trans (HKX.out c h1 h2)
            have how2 : OwnN W2 W0.heap.size (.slice (some ⟨gw, 0, none⟩) way.length cw) (nI way) := owns_same HOW.out fun c cur _ hc hB => ho2 c (by have h1 := HFB.out.2.1; have h2 := HBZ0.out; omega) (Array.getElem?_eq_some_iff.1 hc).1
            have HIX := Lib.hid (index_any W2 _ way u how2.cel hwl)
            have HFW2 := Lib.hid hfw2
            have HKX2 := Lib.hid hkx2
            have HOW2 := Lib.hid how2
            have HBE2 : Hid (Below w.heap.size w W2) := HBE.out.trans hb2
            have HBZ2 : Hid (W0.heap.size ≤ W2.heap.size) := Nat.le_trans HBZ.out hb2.size
            clear hfw2 hb2 ho2 hkx2 how2 HKX HOW HBE HBZ HFO
            go_wp2_with (fail)
            refine HIX.out.mono ?_
            rintro e W3 ⟨rfl, hb3⟩
            have HFW3 := Lib.hid (HFW2.out.below hb3)
            have HKX3 : Hid (∀ c, c ≠ gb → c < W0.heap.size → W3.heap[c]? = W0.heap[c]?) := fun c h1 h2 => (hb3.block c (by have := HBZ2.out; omega)).trans (HKX2.out c h1 h2)
            have HOW3 : Hid (OwnN W3 W0.heap.size (.slice (some ⟨gw, 0, none⟩) way.length cw) (nI way)) := owns_below HOW2.out hb3
            have HBE3 := Lib.hid (HBE2.out.trans (hb3.mono HBE2.out.size))
            have HBZ3 := Lib.hid (Nat.le_trans HBZ2.out hb3.size)
            clear hb3 HIX HFW2 HKX2 HOW2 HBE2 HBZ2
            have m3 := new_block W3 (.cells #[.int .i64 (u : Int)] 3)
            have HM3 := Lib.hid m3.2
            have HFW4 := Lib.hid (HFW3.out.below m3.1)
            have HKX4 : Hid (∀ c, c ≠ gb → c < W0.heap.size → (W3.alloc (.cells #[.int .i64 (u : Int)] 3)).heap[c]? = W0.heap[c]?) := fun c h1 h2 => (m3.1.block c (by have := HBZ3.out; omega)).trans (HKX3.out c h1 h2)
            have HBE4 := Lib.hid (HBE3.out.trans (m3.1.mono HBE3.out.size))
            have HBZ4 := Lib.hid (Nat.le_trans HBZ3.out m3.1.size)
            obtain ⟨i, hi⟩ : ∃ i, i = way.idxOf u := ⟨_, rfl⟩
            have hil : i ≤ way.length := by rw [hi]; exact List.idxOf_le_length
            obtain ⟨xs, hxs⟩ : ∃ xs, xs = nI (way.take i) := ⟨_, rfl⟩
            have HOW4 : Hid (OwnN (W3.alloc (.cells #[.int .i64 (u : Int)] 3)) W0.heap.size (.slice (some ⟨gw, 0, none⟩) i cw) xs) := by
              have h00 : OwnN (W3.alloc (.cells #[.int .i64 (u : Int)] 3)) W0.heap.size (.slice (some ⟨gw, 0, none⟩) way.length cw) (nI way) := owns_below HOW3.out m3.1
              have h0 := OwnN.takes (i := i) h00 (by simpa using hil)
              rw [hxs]
              show OwnN _ _ _ _
              rw [show nI (way.take i) = (nI way).take i by simp [nI, List.map_take]]
              exact h0
            have HWN : Hid (nI (wayN way u) = xs ++ [(u : Int)]) := by show _ = _; rw [hxs, hi]; simp [wayN, nI]
            have HIV : Hid (idxV way u = if u ∈ way then (i : Int) else -1) := by show _ = _; rw [hi]; rfl
            have HIL : Hid (u ∉ way → i = way.length) := by intro h; rw [hi]; exact idx_not h
            have HSM : Hid (xs.length ≤ 1000000) := by show _ ≤ _; rw [hxs]; simp; omega
            clear hi hxs m3 HOW3
            have HEND : Hid (∀ v5 W5, OwnN W5 W0.heap.size v5 (xs ++ [(u : Int)]) → (W3.alloc (.cells #[.int .i64 (u : Int)] 3)).grownBy W5 (Value.slice (some ⟨gw, 0, none⟩) i cw).ownBlock → WM w W0 (.slice ao m cap) L n x y (T - t) g1 G fb gb q u v5 W5) := by
              intro v5 W5 ho5 hg5
              have hb5 := grown_low HOW4.out hg5 (Below.refl W0.heap.size _) (Nat.le_refl _) HBZ4.out
              have z1 := HFB.out
              have z2 := HBZ0.out
              exact ⟨g.set k 0, wayN way u, HFW4.out.low hb5 (by omega) (by omega) (by omega), fun c h1 h2 => (hb5.block c h2).trans (HKX4.out c h1 h2), by rw [HWN.out]; exact ho5, HWI2.out, HNZ2.out, HG2.out, HBE4.out.trans (hb5.mono (by omega)), Nat.le_trans HBZ4.out hb5.size⟩
            by_cases hm : u ∈ way
            · have HI2 : Hid (idxV way u = (i : Int)) := by show _ = _; rw [HIV.out, if_pos hm]
              rw [HI2.out]
              have hicw : i ≤ cw := by omega
              go_wp2_with (at_builtin; refine wpList_append_n rfl _ _ rfl W0.heap.size _ _ rfl HOW4.out W3.heap.size (u : Int) rfl HM3.out HSM.out HBZ4.out ?_)
              intro v5 W5 ho5 hg5
              have HWM5 := Lib.hid (HEND.out v5 W5 ho5 hg5)
              obtain ⟨av5, cv5, hv5⟩ := owns_form ho5
              clear ho5 hg5
              subst hv5
              go_wp2_with (fail)
              go_roundg q
              case rel => exact ⟨u, _, cv5, av5, rfl, rfl, HWM5.out⟩
              all_goals omega
            · have HI2 : Hid (idxV way u = -1) := by show _ = _; rw [HIV.out, if_neg hm]
              rw [HI2.out]
              have hiw := HIL.out hm
              rw [hiw] at HOW4 HEND
              go_wp2_with (at_builtin; refine wpList_append_n rfl _ _ rfl W0.heap.size _ _ rfl HOW4.out W3.heap.size (u : Int) rfl HM3.out HSM.out HBZ4.out ?_)
              intro v5 W5 ho5 hg5
              have HWM5 := Lib.hid (HEND.out v5 W5 ho5 hg5)
              obtain ⟨av5, cv5, hv5⟩ := owns_form ho5
              clear ho5 hg5
              subst hv5
              go_wp2_with (fail)
              go_roundg q
              case rel => exact ⟨u, _, cv5, av5, rfl, rfl, HWM5.out⟩
              all_goals omega
      · obtain rfl : t = T := by omega
        obtain ⟨g1, outs, hfw, hog, hfl, hrr, hol, hbe, hbz⟩ := HOM.out
        have hR3 : R = outs := by rw [hrr, Nat.sub_self]; rfl
        have HFIN : Hid (OwnG wr w.heap.size (.slice ao' no co) (nII R) ∧ Below w.heap.size w wr) := by
          refine ⟨?_, hbe⟩
          rw [hR3]
          obtain ⟨vs, h1, h2, h3⟩ := hog
          exact ⟨vs, h1, owns_mono h2 HFB.out.2.2, fun i hi => owns_mono (h3 i hi) HFB.out.2.2⟩
        clear HOM hfw hog hfl hrr hol hbe hbz hR3
        go_wp2_with (fail)
        go_ret
        exact ⟨⟨_, rfl, HFIN.out.1⟩, HFIN.out.2⟩
  · have e0 : mostI L n a b = (List.replicate L.length 0, 0) := by unfold mostI; rw [if_neg hp]
    have hR2 : R = [] := by rw [hR]; unfold waysI; rw [e0]; rfl
    rw [hR2]
    rw [e0] at HC
    clear hR hR2 hl hm hf e0 hp
    go_enter Try.func18, Try.ntmps18
    go_wp2_with (fail)
    refine HC.out.mono ?_
    rintro e W1 ⟨⟨fb, gb, rfl, hfw⟩, hb⟩
    have HB := Lib.hid hb
    clear hfw hb HC
    go_wp2_with (fail)
    go_loopw [11, 24] (fun ov tv wx => ov = .slice none 0 0 ∧ tv = .int .i64 0 ∧ Hid (wx = W1)) (fun _ _ _ => 0)
    case atStart => exact ⟨rfl, rfl, rfl⟩
    case round =>
      obtain ⟨rfl, rfl, HW⟩ := hrel
      have hW := HW.out
      subst hW
      clear HW
      go_wp2_with (fail)
      go_ret
      exact ⟨⟨_, rfl, OwnG.nil _ _⟩, HB.out⟩

end Go.Proofs.Ytenilbofncfbdaa

