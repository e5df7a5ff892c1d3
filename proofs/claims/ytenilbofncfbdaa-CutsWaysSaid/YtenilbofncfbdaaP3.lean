/- Cuts: the law CutsWays, walked (by program: wip/tools/gen_cg3.py). -/
import Derived.Test.YtenilbofncfbdaaP2
import Derived.Test.YtenilbofncfbdaaCN
set_option linter.unusedSimpArgs false
set_option linter.unusedVariables false
namespace Go.Proofs.Ytenilbofncfbdaa
open Go.RowKit

/-- what holds in the law's loops -/
def WU (W3 : World) (kss : List (List Nat)) (ub m j i : Nat) (wx : World) : Prop := ∃ us, UO kss us j i ∧ us.length = m ∧ RowB wx ub us ∧ Below W3.heap.size W3 wx
theorem WU.below {W3 wx wy : World} {kss : List (List Nat)} {ub m j i : Nat} (h : WU W3 kss ub m j i wx) (hb : Below wx.heap.size wx wy) : WU W3 kss ub m j i wy := by
 obtain ⟨us, h1, h2, h3, h4⟩ := h
 exact ⟨us, h1, h2, h3.keep hb, h4.trans (hb.mono h4.size)⟩
theorem WU.next {W3 wx : World} {kss : List (List Nat)} {ub m j i : Nat} (h : WU W3 kss ub m j i wx) (hj : j < kss.length) : WU W3 kss ub m (j + 1) 0 wx := by
 obtain ⟨us, h1, h2, h3, h4⟩ := h
 exact ⟨us, h1.next hj, h2, h3, h4⟩
theorem WayD.two {L : Prs} {n a b : Nat} {w ks : List Nat} (h : WayD L n a b w ks) (hab : a ≠ b) : 2 ≤ w.length ∧ w.getD 0 0 = a ∧ w.getD (w.length - 1) 0 = b := by
 have h1 := h.hd
 have h2 := h.last
 cases w with
 | nil => cases h1
 | cons x r =>
  obtain rfl : x = a := by simpa using h1
  cases r with
  | nil =>
   obtain rfl : x = b := by simpa using h2
   exact absurd rfl hab
  | cons y r =>
   refine ⟨by simp, rfl, ?_⟩
   rw [List.getLast?_eq_getElem?] at h2
   rw [List.getD_eq_getElem?_getD, h2]
   rfl
theorem WayD.diff {L : Prs} {n a b : Nat} {w ks : List Nat} (h : WayD L n a b w ks) {k i : Nat} (hk : k < i) (hi : i < w.length) : w.getD k 0 ≠ w.getD i 0 := by
 have e1 : w.getD k 0 = w[k] := by simp [List.getD, show k < w.length by omega]
 have e2 : w.getD i 0 = w[i] := by simp [List.getD, hi]
 rw [e1, e2]
 exact List.pairwise_iff_getElem.1 h.nod k i (by omega) hi hk

set_option maxRecDepth 100000 in
set_option maxHeartbeats 2000000 in
theorem law_CutsWays (W : World) (n : Int) (v : Value) (a b : Int) (xs : Ipr) (hx : Lks W W.heap.size v xs) :
  Calls Try.prog 4 #[.int .i64 n, v, .int .i64 a, .int .i64 b] W fun e w' => e = .returned (.bool true) ∧ Below W.heap.size W w' := by
 have HC := Lib.hid (rfit_any W n v xs hx)
 by_cases hf : FitX n xs
 ·rw [fitB_true hf] at HC
  obtain ⟨m, L, rfl, rfl, hfl, hm1, hm16⟩ := hf.nodes
  have hL : L.length ≤ 1000 := Nat.le_trans (fit_len hfl hm16) (by decide)
  have HLI : Hid (∀ w, Below W.heap.size W w → Lis w w.heap.size v L) := fun w hw => hx.below hw hw.size
  have HF := Lib.hid hfl
  have HL := Lib.hid hL
  obtain ⟨t, ht⟩ : ∃ t, t = (mostI L m a b).2 := ⟨_, rfl⟩
  have htl : t ≤ 1000 := by rw [ht]; exact Nat.le_trans (mostI_le hfl) hL
  obtain ⟨ws, hws⟩ : ∃ ws, ws = waysI L m a b := ⟨_, rfl⟩
  obtain ⟨hwl, hwp, kss, hkk⟩ := waysI_ok (a := a) (b := b) hfl
  rw [← hws] at hwl hwp hkk
  rw [← ht] at hwl
  have HWL := Lib.hid hwl
  have HWP := Lib.hid hwp
  have HWD := Lib.hid hkk
  have HWY : Hid (∀ w, Below W.heap.size W w → Calls Try.prog 18 #[.int .i64 (m : Int), v, .int .i64 a, .int .i64 b] w fun e w' => (∃ v, e = .returned v ∧ OwnG w' w.heap.size v (nII ws)) ∧ Below w.heap.size w w') := fun w hw => by rw [hws]; exact ways_any w v m L a b (HLI.out w hw) HF.out HL.out hm16
  have HFL : Hid (∀ w, Below W.heap.size W w → Calls Try.prog 12 #[.int .i64 (m : Int), v, .int .i64 a, .int .i64 b] w fun e w' => e = .returned (.int .i64 (t : Int)) ∧ Below w.heap.size w w') := fun w hw => by rw [ht]; exact flow_any w v m L a b (HLI.out w hw) HF.out HL.out hm16
  obtain ⟨al, ac, hv, hac, hal⟩ := (HLI.out W (Below.refl _ _)).slice
  obtain ⟨ml, hml⟩ : ∃ x, x = L.length := ⟨_, rfl⟩
  have HML := Lib.hid hml
  rw [← hml] at hv hac hal hL
  subst hv
  clear hx hf hfl ht hws hwl hwp hkk hml
  go_enter Try.func4, Try.ntmps4
  go_wp2_with (fail)
  refine HC.out.mono ?_
  rintro e W1 ⟨rfl, hb⟩
  have HB1 := Lib.hid hb
  clear hb HC
  go_wp2_with (fail)
  refine (HWY.out W1 HB1.out).mono ?_
  rintro e W2 ⟨⟨wv, rfl, hog⟩, hb⟩
  have HB2 := Lib.hid (HB1.out.trans (hb.mono HB1.out.size))
  have hg2 := hog.gis
  obtain ⟨aw, cw, rfl, hcw, -⟩ := hg2.slice
  have htw : (nII ws).length = t := by rw [List.length_map]; exact HWL.out
  rw [htw] at hg2 hcw ⊢
  have HG2 := Lib.hid hg2
  clear hb hog hg2 HWY htw
  go_wp2_with (fail)
  refine (HFL.out W2 HB2.out).mono ?_
  rintro e W3 ⟨rfl, hb⟩
  have HB3 := Lib.hid (HB2.out.trans (hb.mono HB2.out.size))
  have HG3 : Hid (Gis W3 W3.heap.size (.slice aw t cw) (nII ws)) := HG2.out.below hb hb.size
  clear hb HFL HG2
  go_wp2_with (refine wpList_make_bool rfl _ _ rfl ml rfl rfl (by omega) ?_)
  intro ub W4 hrow hge hbel
  have HU : Hid (WU W3 kss ub ml 0 0 W4) := ⟨_, UO.start kss ml, by simp, hrow, hbel⟩
  have HGE := Lib.hid hge
  clear hrow hge hbel
  go_wp2_with (fail)
  go_loopw [39] (fun jv wx => ∃ j : Nat, jv = .int .i64 (j : Int) ∧ j ≤ t ∧ Hid (WU W3 kss ub ml j 0 wx)) (fun jv _ => t - (intOf jv).toNat)
  case atStart => exact ⟨0, rfl, Nat.zero_le _, HU.out⟩
  case round =>
   clear HU
   obtain ⟨j, rfl, hj, HU⟩ := hrel
   by_cases hlt : j < t
   ·have hjw : j < ws.length := by have := HWL.out; omega
    have hjk : j < kss.length := by rw [HWD.out.len]; exact hjw
    have hpr := HWP.out (by intro e; rw [e] at hjw; cases hjw)
    have hW := HWD.out.each j hjw
    obtain ⟨hp1, hp2, hp3, hp4, hp5⟩ := hpr
    obtain ⟨w2, w0, wl⟩ := hW.two (by omega)
    obtain ⟨us, u1, u2, u3, u4⟩ := HU.out
    obtain ⟨gb, go, rv, e1, hgl, cg, hits⟩ := (HG3.out.below u4 (Nat.le_refl _)).at j (by rw [List.length_map]; exact hjw)
    subst e1
    rw [nII_get] at hits
    obtain ⟨wj, hwj⟩ : ∃ x, x = ws.getD j [] := ⟨_, rfl⟩
    rw [← hwj] at hW w2 w0 wl hits
    obtain ⟨aj, cj, rfl, hcj, hlj⟩ := hits.slice
    rw [nI_len] at hits cg hcj hlj
    obtain ⟨rb, ro, e2, hrl, cr0⟩ := hits.at 0 (by rw [nI_len]; omega)
    subst e2
    obtain ⟨rb', ro', e2, -, crl⟩ := hits.at (wj.length - 1) (by rw [nI_len]; omega)
    cases e2
    rw [nI_get, w0, Int.toNat_of_nonneg hp2, Nat.add_zero] at cr0
    rw [nI_get, wl, Int.toNat_of_nonneg hp4] at crl
    obtain ⟨lw, hlw⟩ : ∃ x, x = wj.length := ⟨_, rfl⟩
    rw [← hlw] at w2 cg hcj hlj crl
    have HIT : Hid (Its W3 W3.heap.size (.slice (some ⟨rb, ro, none⟩) lw cj) (nI wj)) := by
     obtain ⟨gb', go', rv', e1, _, cg', hits'⟩ := HG3.out.at j (by rw [List.length_map]; exact hjw)
     cases e1
     rw [u4.cell (p := ⟨gb, go + j, none⟩) hgl, cg'] at cg
     cases cg
     rw [nII_get, ← hwj] at hits'
     exact hits'
    have HLW := Lib.hid hlw
    have HW := Lib.hid hW
    have HJ := Lib.hid hjk
    have HRL := Lib.hid hrl
    have hlw2 : lw ≤ 1000000 := by
     have h1 := nodup_bound hW.nod hW.lt
     omega
    have hll : ((lw : Int) - 1) = ((lw - 1 : Nat) : Int) := by omega
    have hl0 : 0 ≤ ((lw - 1 : Nat) : Int) ∧ ((lw - 1 : Nat) : Int) < (lw : Int) := by omega
    have hgw : gb < wr.heap.size := by have := u4.size; omega
    have hrw : rb < wr.heap.size := by have := u4.size; omega
    have HU2 : Hid (WU W3 kss ub ml j (0 - 1) wr) := HU.out
    clear hjw hjk hp1 hp2 hp3 hp4 hp5 w0 wl u1 u2 u3 u4 us hwj hlw hW hits hgl hrl HU
    have hlb : decide ((lw : Int) < 2) = false := by rw [decide_eq_false_iff_not]; omega
    go_wp2_with (fail)
    clear cr0 crl cg hlb
    go_loopw [65] (fun iv wx => ∃ i : Nat, iv = .int .i64 (i : Int) ∧ i ≤ lw ∧ Hid (WU W3 kss ub ml j (i - 1) wx)) (fun iv _ => lw - (intOf iv).toNat)
    case atStart => exact ⟨0, rfl, Nat.zero_le _, HU2.out⟩
    case round =>
     clear HU2
     obtain ⟨i, rfl, hi, HU⟩ := hrel
     by_cases hilt : i < lw
     ·go_wp2_with (fail)
      go_loopw [69] (fun kv wx => ∃ k : Nat, kv = .int .i64 (k : Int) ∧ k ≤ i ∧ Hid (WU W3 kss ub ml j (i - 1) wx)) (fun kv _ => i - (intOf kv).toNat)
      case atStart => exact ⟨0, rfl, Nat.zero_le _, HU.out⟩
      case round =>
       clear HU
       obtain ⟨k, rfl, hk, HU⟩ := hrel
       by_cases hklt : k < i
       ·obtain ⟨us, u1, u2, u3, u4⟩ := HU.out
        obtain ⟨rb', ro', e2, -, ck⟩ := Its.at (HIT.out.below u4 (Nat.le_refl _)) k (by rw [nI_len, ← HLW.out]; omega)
        cases e2
        obtain ⟨rb', ro', e2, -, ci⟩ := Its.at (HIT.out.below u4 (Nat.le_refl _)) i (by rw [nI_len, ← HLW.out]; omega)
        cases e2
        rw [nI_get] at ck ci
        have hne := HW.out.diff hklt (by rw [← HLW.out]; exact hilt)
        obtain ⟨x, hx⟩ : ∃ x, x = wj.getD k 0 := ⟨_, rfl⟩
        obtain ⟨y, hy⟩ : ∃ x, x = wj.getD i 0 := ⟨_, rfl⟩
        rw [← hx] at ck hne
        rw [← hy] at ci hne
        have hnb : ((x : Int) == (y : Int)) = false := by rw [beq_eq_false_iff_ne]; omega
        have hkn : 0 ≤ (k : Int) ∧ (k : Int) < (lw : Int) := by omega
        have hin : 0 ≤ (i : Int) ∧ (i : Int) < (lw : Int) := by omega
        clear us u1 u2 u3 u4 hx hy hne
        go_wp2_with (fail)
        go_quiet (fail)
        go_wp2_with (fail)
        go_roundw
        case rel => exact ⟨k + 1, by go_num, by omega, HU.out.below (bdN _ _ _)⟩
        case measure => simp [intOf] <;> omega
       ·obtain rfl : k = i := by omega
        cases k with
        | zero =>
         go_wp2_with (fail)
         go_roundw
         case rel => exact ⟨1, by go_num, by omega, HU.out⟩
         case measure => simp [intOf] <;> omega
        | succ k =>
         obtain ⟨us, u1, u2, u3, u4⟩ := HU.out
         replace u1 : UO kss us j k := u1
         have hin0 : 0 ≤ ((k : Nat) : Int) ∧ ((k : Nat) : Int) < (lw : Int) := by omega
         have hin : 0 ≤ ((k + 1 : Nat) : Int) ∧ ((k + 1 : Nat) : Int) < (lw : Int) := by omega
         have hkk : k < (kss.getD j []).length := by have := HW.out.chn.len; rw [← HLW.out] at this; omega
         have hed := HW.out.chn.edge k hkk
         have hfree := UO.free HWD.out u1 HJ.out hkk
         obtain ⟨p, hp⟩ : ∃ p, p = (kss.getD j []).getD k 0 := ⟨_, rfl⟩
         obtain ⟨x, hx⟩ : ∃ x, x = wj.getD k 0 := ⟨_, rfl⟩
         obtain ⟨y, hy⟩ : ∃ x, x = wj.getD (k + 1) 0 := ⟨_, rfl⟩
         rw [← hx, ← hy, ← hp] at hed
         rw [← hp] at hfree
         have hpm : p < ml := by rw [HML.out]; exact hed.1
         have u5 := u1.set hkk
         rw [← hp] at u5
         have HED := Lib.hid hed
         have HXY : Hid (x = wj.getD k 0 ∧ y = wj.getD (k + 1) 0) := ⟨hx, hy⟩
         have HU5 := Lib.hid u5
         have HFR := Lib.hid hfree
         have HU3 := Lib.hid u3
         have HU4 := Lib.hid u4
         have HUL := Lib.hid u2
         have hwr2 : IntKind.i64.wrap (k : Int) = (k : Int) := by rw [IntKind.wrap_i64]; omega
         have hin2 : 0 ≤ ((k : Nat) : Int) + 1 ∧ ((k : Nat) : Int) + 1 < (lw : Int) := by omega
         have hwr : IntKind.i64.wrap (((k + 1 : Nat) : Int) - 1) = (k : Int) := by rw [IntKind.wrap_i64]; omega
         have HBW : Hid (Below W.heap.size W wr) := HB3.out.trans (u4.mono HB3.out.size)
         clear u1 u2 u3 u4 u5 hed hx hy hp hfree hkk HU
         go_wp2_with (fail)
         refine wpIn_wide (n := 5).1 (wpIn_flowM (F0 := Fence.wide) (n0 := 5) (fun _ => trivial) (fun h => by cases h) (by kernel_rfl) (by kernel_rfl) 12 12 (by kernel_rfl) (fun j => ([0, 1, 2, 3, 4, 5, 6, 7, 8, 9, 10, 11] : List Nat).getD j 0) (fun j => ([84, 85, 86, 87, 88, 89, 90, 91, 92, 93, 94, 15] : List Nat).getD j 0) (by kernel_rfl) (by kernel_rfl) (by kernel_rfl) (by kernel_rfl) (by kernel_rfl) (by kernel_rfl) (by kernel_rfl) (fun j zv => ([(fun zv => zv = (.slice al ml ac)), (fun zv => zv = (.slice (some ⟨rb, ro, none⟩) lw cj)), (fun zv => zv = (.int .i64 ((k + 1 : Nat) : Int))), (fun zv => zv = (.int .i64 (k : Int))), (fun zv => zv = (.pointer (some ⟨rb, ro + k, none⟩))), (fun zv => zv = (.int .i64 (x : Int))), (fun zv => zv = (.slice (some ⟨rb, ro, none⟩) lw cj)), (fun zv => zv = (.int .i64 ((k + 1 : Nat) : Int))), (fun zv => zv = (.pointer (some ⟨rb, ro + (k + 1), none⟩))), (fun zv => zv = (.int .i64 (y : Int))), (fun zv => zv = (.int .i64 (p : Int))), (fun zv => zv = (.int .i64 (p : Int)))] : List (Value → Prop)).getD j (fun _ => True) zv) (fun _ _ W => Below wr.heap.size wr W) ?h0c ?stepc ?finc)
         case h0c => exact fun _ => bdN _ _ 1
         case stepc =>
          intro i o a W d vs hi ho hdi hJ hf hr hF
          replace hi : i < 12 := hi
          rcases (show i = 0 ∨ i = 1 ∨ i = 2 ∨ i = 3 ∨ i = 4 ∨ i = 5 ∨ i = 6 ∨ i = 7 ∨ i = 8 ∨ i = 9 ∨ i = 10 ∨ i = 11 by omega) with rfl | rfl | rfl | rfl | rfl | rfl | rfl | rfl | rfl | rfl | rfl | rfl
          all_goals
           replace ho := op_at ho (by rfl)
           subst ho
          ·have f1 : a.tmps.getD 1 undef = (.slice al ml ac) := hf 1 (by kernel_rfl)
           exact .inl ⟨(fun k b h => by cases h), .inl ⟨0, by decide, rfl, (.slice al ml ac), W, (by simp [go_sem, Act.eval, f1]), rfl, hJ⟩⟩
          ·have f12 : a.tmps.getD 12 undef = (.slice (some ⟨rb, ro, none⟩) lw cj) := hf 12 (by kernel_rfl)
           exact .inl ⟨(fun k b h => by cases h), .inl ⟨1, by decide, rfl, (.slice (some ⟨rb, ro, none⟩) lw cj), W, (by simp [go_sem, Act.eval, f12]), rfl, hJ⟩⟩
          ·have f13 : a.tmps.getD 13 undef = (.int .i64 ((k + 1 : Nat) : Int)) := hf 13 (by kernel_rfl)
           exact .inl ⟨(fun k b h => by cases h), .inl ⟨2, by decide, rfl, (.int .i64 ((k + 1 : Nat) : Int)), W, (by simp [go_sem, Act.eval, f13]), rfl, hJ⟩⟩
          ·have d2 : a.tmps.getD 86 undef = (.int .i64 ((k + 1 : Nat) : Int)) := fdn (hF 2 (by decide) (hr 2 (by kernel_rfl)))
           exact .inl ⟨(fun k b h => by cases h), .inl ⟨3, by decide, rfl, (.int .i64 (k : Int)), W, (by simp [go_sem, Act.eval, d2, hwr, hwr2]), rfl, hJ⟩⟩
          ·have d1 : a.tmps.getD 85 undef = (.slice (some ⟨rb, ro, none⟩) lw cj) := fdn (hF 1 (by decide) (hr 1 (by kernel_rfl)))
           have d3 : a.tmps.getD 87 undef = (.int .i64 (k : Int)) := fdn (hF 3 (by decide) (hr 3 (by kernel_rfl)))
           exact .inl ⟨(fun k b h => by cases h), .inl ⟨4, by decide, rfl, (.pointer (some ⟨rb, ro + k, none⟩)), W, (by simp [go_sem, Act.eval, d1, d3, hin0]), rfl, hJ⟩⟩
          ·have d4 : a.tmps.getD 88 undef = (.pointer (some ⟨rb, ro + k, none⟩)) := fdn (hF 4 (by decide) (hr 4 (by kernel_rfl)))
           obtain ⟨rb', ro', e2, -, cx⟩ := Its.at (HIT.out.below (HU4.out.trans (Below.mono hJ HU4.out.size)) (Nat.le_refl _)) (k) (by rw [nI_len, ← HLW.out]; omega)
           cases e2
           rw [nI_get, ← HXY.out.1] at cx
           exact .inl ⟨(fun k b h => by cases h), .inl ⟨5, by decide, rfl, (.int .i64 (x : Int)), W, (by simp [go_sem, Act.eval, d4, cx]), rfl, hJ⟩⟩
          ·have f12 : a.tmps.getD 12 undef = (.slice (some ⟨rb, ro, none⟩) lw cj) := hf 12 (by kernel_rfl)
           exact .inl ⟨(fun k b h => by cases h), .inl ⟨6, by decide, rfl, (.slice (some ⟨rb, ro, none⟩) lw cj), W, (by simp [go_sem, Act.eval, f12]), rfl, hJ⟩⟩
          ·have f13 : a.tmps.getD 13 undef = (.int .i64 ((k + 1 : Nat) : Int)) := hf 13 (by kernel_rfl)
           exact .inl ⟨(fun k b h => by cases h), .inl ⟨7, by decide, rfl, (.int .i64 ((k + 1 : Nat) : Int)), W, (by simp [go_sem, Act.eval, f13]), rfl, hJ⟩⟩
          ·have d6 : a.tmps.getD 90 undef = (.slice (some ⟨rb, ro, none⟩) lw cj) := fdn (hF 6 (by decide) (hr 6 (by kernel_rfl)))
           have d7 : a.tmps.getD 91 undef = (.int .i64 ((k + 1 : Nat) : Int)) := fdn (hF 7 (by decide) (hr 7 (by kernel_rfl)))
           exact .inl ⟨(fun k b h => by cases h), .inl ⟨8, by decide, rfl, (.pointer (some ⟨rb, ro + (k + 1), none⟩)), W, (by simp [go_sem, Act.eval, d6, d7, hin, hin2]), rfl, hJ⟩⟩
          ·have d8 : a.tmps.getD 92 undef = (.pointer (some ⟨rb, ro + (k + 1), none⟩)) := fdn (hF 8 (by decide) (hr 8 (by kernel_rfl)))
           obtain ⟨rb', ro', e2, -, cx⟩ := Its.at (HIT.out.below (HU4.out.trans (Below.mono hJ HU4.out.size)) (Nat.le_refl _)) (k + 1) (by rw [nI_len, ← HLW.out]; omega)
           cases e2
           rw [nI_get, ← HXY.out.2] at cx
           exact .inl ⟨(fun k b h => by cases h), .inl ⟨9, by decide, rfl, (.int .i64 (y : Int)), W, (by simp [go_sem, Act.eval, d8, cx]), rfl, hJ⟩⟩
          ·have d0 : a.tmps.getD 84 undef = (.slice al ml ac) := fdn (hF 0 (by decide) (hr 0 (by kernel_rfl)))
           have d5 : a.tmps.getD 89 undef = (.int .i64 (x : Int)) := fdn (hF 5 (by decide) (hr 5 (by kernel_rfl)))
           have d9 : a.tmps.getD 93 undef = (.int .i64 (y : Int)) := fdn (hF 9 (by decide) (hr 9 (by kernel_rfl)))
           refine .inl ⟨(fun k b h => by cases h), .inr (.inr ⟨10, by decide, rfl, 19, #[(.slice al ml ac), .int .i64 (x : Int), .int .i64 (y : Int)], W, (by simp [go_sem, Act.eval, d0, d5, d9]), ?_⟩)⟩
           refine (callsIn_wide.2 (place_any W (.slice al ml ac) m L x y p ((HLI.out wr HBW.out).below hJ (Below.size hJ)) HF.out HL.out HED.out)).mono ?_
           rintro e W' ⟨rfl, hBe⟩
           exact ⟨_, rfl, rfl, Below.trans hJ (hBe.mono (Below.size hJ))⟩
          ·have d10 : a.tmps.getD 94 undef = (.int .i64 (p : Int)) := fdn (hF 10 (by decide) (hr 10 (by kernel_rfl)))
           exact .inl ⟨(fun k b h => by cases h), .inl ⟨11, by decide, rfl, (.int .i64 (p : Int)), W, (by simp [go_sem, Act.eval, d10]), rfl, hJ⟩⟩
         case finc =>
          intro d vs Wc hall hJ hF
          have h0 : vs 0 = (.slice al ml ac) := hF 0 (by decide)
          have h1 : vs 1 = (.slice (some ⟨rb, ro, none⟩) lw cj) := hF 1 (by decide)
          have h2 : vs 2 = (.int .i64 ((k + 1 : Nat) : Int)) := hF 2 (by decide)
          have h3 : vs 3 = (.int .i64 (k : Int)) := hF 3 (by decide)
          have h4 : vs 4 = (.pointer (some ⟨rb, ro + k, none⟩)) := hF 4 (by decide)
          have h5 : vs 5 = (.int .i64 (x : Int)) := hF 5 (by decide)
          have h6 : vs 6 = (.slice (some ⟨rb, ro, none⟩) lw cj) := hF 6 (by decide)
          have h7 : vs 7 = (.int .i64 ((k + 1 : Nat) : Int)) := hF 7 (by decide)
          have h8 : vs 8 = (.pointer (some ⟨rb, ro + (k + 1), none⟩)) := hF 8 (by decide)
          have h9 : vs 9 = (.int .i64 (y : Int)) := hF 9 (by decide)
          have h10 : vs 10 = (.int .i64 (p : Int)) := hF 10 (by decide)
          have h11 : vs 11 = (.int .i64 (p : Int)) := hF 11 (by decide)
          clear hF
          have hJc : Below wr.heap.size wr Wc := hJ
          clear hJ hall
          show (_ : Exit → Act → World → Prop) Exit.normal (puts _ vs 12 _) Wc
          simp only [puts, h0, h1, h2, h3, h4, h5, h6, h7, h8, h9, h10, h11, List.getD_cons_zero, List.getD_cons_succ]
          clear h0 h1 h2 h3 h4 h5 h6 h7 h8 h9 h10 h11
          have hpm2 : 0 ≤ (p : Int) ∧ (p : Int) < (ml : Int) := by omega
          have hb0 : decide ((p : Int) < 0) = false := by rw [decide_eq_false_iff_not]; omega
          have hub := HU3.out.lt
          have HR5 : Hid (RowB Wc ub us) := HU3.out.keep hJc
          have HB5 : Hid (Below W3.heap.size W3 Wc) := HU4.out.trans (hJc.mono HU4.out.size)
          have cup := HR5.out.cell p (by rw [HUL.out]; exact hpm)
          rw [HFR.out] at cup
          have fup := RowV.frozen HR5.out p
          clear hJc
          go_wp2_with (fail)
          go_roundw
          case rel => exact ⟨k + 1 + 1, by go_num, by omega, ⟨_, HU5.out, by simpa using HUL.out, HR5.out.set p true, bel_set HGE.out HB5.out⟩⟩
          case measure => simp [intOf] <;> omega
     ·obtain rfl : i = lw := by omega
      have HU6 := Lib.hid (HU.out.next HJ.out)
      go_wp2_with (fail)
      go_roundw
      case rel => exact ⟨j + 1, by go_num, by omega, HU6.out⟩
      case measure => simp [intOf] <;> omega
   ·obtain rfl : j = t := by omega
    have HB5 : Hid (Below W.heap.size W wr) := by
     obtain ⟨us, u1, u2, u3, u4⟩ := HU.out
     exact HB3.out.trans (u4.mono HB3.out.size)
    go_wp2_with (fail)
    refine (awake_any wr).mono ?_
    rintro e W6 ⟨rfl, hb⟩
    have HB6 := Lib.hid (HB5.out.trans (hb.mono HB5.out.size))
    clear hb
    go_wp2_with (fail)
    go_ret
    exact ⟨rfl, HB6.out⟩
 ·rw [fitB_false hf] at HC
  go_enter Try.func4, Try.ntmps4
  go_wp2_with (fail)
  refine HC.out.mono ?_
  rintro e W1 ⟨rfl, hb⟩
  have HB1 := Lib.hid hb
  clear hb HC
  go_wp2_with (fail)
  refine (awake_any W1).mono ?_
  rintro e W2 ⟨rfl, hb⟩
  have HB2 := Lib.hid (HB1.out.trans (hb.mono HB1.out.size))
  go_wp2_with (fail)
  go_ret
  exact ⟨rfl, HB2.out⟩

end Go.Proofs.Ytenilbofncfbdaa

