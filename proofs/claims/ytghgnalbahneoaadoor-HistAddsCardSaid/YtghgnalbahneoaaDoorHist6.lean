/- Histograms: slices.Clone, copied, New on both sides (by program: wip/tools/gen_hist6.py). -/
import Derived.Test.YtghgnalbahneoaaDoorHist5
import Derived.Test.YtghgnalbahneoaaDoorShelf
import Derived.Test.YtghgnalbahneoaaDoorFlowT
import Derived.Laws.OwnMore
namespace Go.Proofs.YtghgnalbahneoaaDoor
open Go.RowKit

theorem clone_any (v : Value) (l : List Int) (w : World) (hi : Its w w.heap.size v l) (hpos : 0 < l.length) (hl : l.length * 8 ≤ 140737488355328) : Calls Tryd.prog 52 #[v] w fun e w' => ∃ v', e = .returned v' ∧ OwnI w' w.heap.size v' l ∧ Below w.heap.size w w' := by
  rcases hi.form with ⟨rfl, ao, cap, rfl, -⟩ | ⟨-, b, off, cap, rfl, hcap, hm, hb, hc⟩
  · simp at hpos
  · obtain ⟨i0, hi, hz0, hz1, hz2⟩ := info_parts info_i64
    refine (Tryd.slices_Clone i0 (.int .i64 0) 1 8 hi hz0 hz1 hz2 rfl (by decide) (fun w => by kernel_rfl) b off l.length cap (l.map (Value.int .i64)) w (by simp) (by unfold maxLen; omega) hl ?_ ?_).mono ?_
    · intro j u hj
      have hjl : j < l.length := by have := (List.getElem?_eq_some_iff.1 hj).1; simpa using this
      rw [hc j hjl]
      simp [hjl] at hj
      subst hj
      simp [List.getD, hjl]
    · intro u hu
      obtain ⟨c, _, rfl⟩ := List.mem_map.1 hu
      rfl
    · rintro e w' ⟨v', rfl, hown, -, hB⟩
      exact ⟨v', rfl, hown, hB⟩
theorem copied_any (v : Value) (l : List Int) (w : World) (hi : Its w w.heap.size v l) (hl : l.length * 8 ≤ 140737488355328) : Calls Tryd.prog 53 #[v] w fun e w' => ∃ v', e = .returned v' ∧ OwnI w' w.heap.size v' l ∧ Below w.heap.size w w' := by
  go_enter Tryd.func53, Tryd.ntmps53
  go_wp2_with (at_builtin; (refine wpList_append_its rfl _ _ rfl w.heap.size _ [] rfl (OwnI.nil _ _) v l rfl hi (by simp; omega) (Nat.le_refl _) ?_))
  intro v' w' hown hg
  have HO := Lib.hid hown
  have L : Hid (Below w.heap.size w w') := (Below.refl _ _).grown hg (Nat.le_refl _) (fun k e => by cases e)
  clear hown hg
  go_wp2
  go_ret
  exact ⟨v', rfl, HO.out, L.out⟩
/-- a row of zeros -/
theorem make_any (n : Nat) (w : World) (B : Nat) (hB : B ≤ w.heap.size) (hn : n ≤ 1000) : ∃ w', (Instr.makeSlice 22 (.int .i64 (n : Int)) (.int .i64 (n : Int))).run Tryd.prog w = .ok (.slice (some ⟨w.heap.size, 0, none⟩) n n) w' ∧ OwnI w' B (.slice (some ⟨w.heap.size, 0, none⟩) n n) (List.replicate n 0) ∧ w.grownBy w' none := by
  obtain ⟨i0, hi, hz0, hz1, hz2⟩ := info_parts info_i64
  obtain ⟨w', h1, h2, h3⟩ := run_make_full (P := Tryd.prog) w B 22 2 i0 (.int .i64 0) 1 Tryd.underlying22 hi hz0 hz1 .i64 .i64 n (by rw [hz2]; omega) (by unfold maxLen; omega) hB
  refine ⟨w', h1, ?_, h3⟩
  have e : (madeCells (Value.int .i64 0).cells (n * 1)).toList = (List.replicate n 0).map (Value.int .i64) := by
    rw [Nat.mul_one, show (Value.int .i64 0).cells = #[.int .i64 0] from rfl, toList_madeCells_one, List.map_replicate]
  rw [e] at h2
  unfold OwnI
  simpa using h2

/-- a histogram of the call's own: its two rows lie in blocks of their own from B on -/
structure HOwn (w : World) (B : Nat) (vb vc : Value) (bs cs : List Int) : Prop where
  b : OwnI w B vb bs
  c : OwnI w B vc cs
  ne : vb.ownBlock ≠ vc.ownBlock
theorem HOwn.below {w w' : World} {B : Nat} {vb vc : Value} {bs cs : List Int} (h : HOwn w B vb vc bs cs) (hb : Below w.heap.size w w') : HOwn w' B vb vc bs cs := ⟨h.b.below hb, h.c.below hb, h.ne⟩
theorem HOwn.mono {w : World} {B B' : Nat} {vb vc : Value} {bs cs : List Int} (h : HOwn w B vb vc bs cs) (hB : B' ≤ B) : HOwn w B' vb vc bs cs := ⟨h.b.mono hB, h.c.mono hB, h.ne⟩
theorem OwnI.set {w : World} {B : Nat} {v : Value} {xs : List Int} (h : OwnI w B v xs) {b o : Nat} (hb : b < B) {u : Value} : OwnI (w.setCell ⟨b, o, none⟩ u) B v xs := ownsRow_setCell_below (a := ⟨b, o, none⟩) h hb u
theorem HOwn.set {w : World} {B : Nat} {vb vc : Value} {bs cs : List Int} (h : HOwn w B vb vc bs cs) {b o : Nat} (hb : b < B) {u : Value} : HOwn (w.setCell ⟨b, o, none⟩ u) B vb vc bs cs := ⟨h.b.set hb, h.c.set hb, h.ne⟩
/-- what New answers -/
def NewR (l : List Int) (B : Nat) (e : Ending) (w' : World) : Prop := (¬ Rising l ∧ e = .returned (.tuple #[hiV (.slice none 0 0) (.slice none 0 0), .int .i64 20])) ∨ (Rising l ∧ ∃ vb vc, e = .returned (.tuple #[hiV vb vc, .int .i64 0]) ∧ HOwn w' B vb vc l (List.replicate (l.length + 1) 0))
/-- two rows in a world: which blocks -/
theorem OwnI.blk {w : World} {B : Nat} {v : Value} {xs : List Int} (h : OwnI w B v xs) (hx : 0 < xs.length) : ∃ g cap, v = .slice (some ⟨g, 0, none⟩) xs.length cap ∧ B ≤ g ∧ g < w.heap.size ∧ xs.length ≤ cap := by
  rcases h.2 with ⟨_, h0⟩ | ⟨g, cap, cur, hv, hb, hg, hn, hcm, hcs, htake⟩
  · omega
  · exact ⟨g, cap, hv, hb, (Array.getElem?_eq_some_iff.1 hg).1, hn⟩

set_option maxRecDepth 100000 in
set_option maxHeartbeats 1000000 in
theorem new_any (v : Value) (l : List Int) (w : World) (hi : Its w w.heap.size v l) : Calls Tryd.prog 19 #[v] w fun e w' => NewR l w.heap.size e w' ∧ Below w.heap.size w w' := by
  obtain ⟨g0, k0⟩ := hist_new w (.slice none 0 0) (.slice none 0 0)
  have L := Lib.hid g0
  have K := Lib.hid k0
  have HI := Lib.hid (hi.kept g0)
  clear g0 k0
  have cr : ∀ W, Its W W.heap.size v l → _ := fun W h => rising_any v l W h
  obtain ⟨ao, cap, hv, hl⟩ := hi.slice
  subst hv
  cases hr : risB l
  · have HNR : Hid (¬ Rising l) := fun h => by rw [risB_t h] at hr; cases hr
    rw [hr] at cr
    clear hr
    go_enter Tryd.func19, Tryd.ntmps19
    go_wp2_with (fail)
    refine (cr _ HI.out).mono ?_
    rintro e w1 ⟨rfl, d, rfl⟩
    have a0 := hiO_0 K.out
    have a1 := hiO_1 K.out
    have f0 := hiF_0 K.out
    have f1 := hiF_1 K.out
    go_wp2
    exact bodyPost_ret (v := .tuple #[hiV (.slice none 0 0) (.slice none 0 0), .int .i64 20]) (by simp [results, Tryd.results19, go_sem, *]) rfl ⟨.inl ⟨HNR.out, rfl⟩, bel_set (Nat.le_refl _) (bel_set (Nat.le_refl _) (bel_drew L.out))⟩
  · have HR := risB_iff.1 hr
    obtain ⟨n, hn⟩ : ∃ n, n = l.length := ⟨_, rfl⟩
    have HP : Hid (0 < l.length) := HR.1
    have HR2 := Lib.hid HR
    have HL : Hid (l.length ≤ 64) := HR.2.1
    have HN := Lib.hid hn
    rw [hr] at cr
    rw [← hn] at HI cr hl ⊢
    clear hn hr HR
    have hn64 : n ≤ 64 := by have := HN.out; have := HL.out; omega
    have hw1 : IntKind.i64.wrap ((n : Int) + 1) = (n : Int) + 1 := by rw [IntKind.wrap_i64]; omega
    go_enter Tryd.func19, Tryd.ntmps19
    go_wp2_with (fail)
    refine (cr _ HI.out).mono ?_
    rintro e w1 ⟨rfl, d, rfl⟩
    replace L := Lib.hid (bel_drew (k := d) L.out)
    replace K := Lib.hid (stays K.out (bdN _ _ d))
    replace HI := Lib.hid (HI.out.kept (bdN _ _ d))
    generalize (w.alloc (.cells #[.slice none 0 0, .slice none 0 0] 24)).drewN d = W0 at *
    clear cr
    go_wp2_with (fail)
    refine wp_flow_tail (by kernel_rfl) (by kernel_rfl) 6 (by decide) (by kernel_rfl) (fun i => 8 + i) (by kernel_rfl) (by kernel_rfl) (by kernel_rfl) (fun i v W => ([(fun zv _ => zv = (.slice ao n cap)), (fun zv W => OwnI W W0.heap.size zv l), (fun zv _ => zv = (.slice ao n cap)), (fun zv _ => zv = (.int .i64 (n : Int))), (fun zv _ => zv = (.int .i64 ((n : Int) + 1))), (fun zv W => OwnI W W0.heap.size zv (List.replicate (n + 1) 0))] : List (Value → World → Prop)).getD i (fun _ _ => True) v W) ?_ (fun i => false || i == 1 || i == 5) ?_ (by kernel_rfl) ?_
    · intro i hi
      replace hi : i < 6 := hi
      rcases (show i = 0 ∨ i = 1 ∨ i = 2 ∨ i = 3 ∨ i = 4 ∨ i = 5 by omega) with rfl | rfl | rfl | rfl | rfl | rfl
      · exact Stays.eq _
      · exact (fun v W W2 h hb => OwnI.below h hb)
      · exact Stays.eq _
      · exact Stays.eq _
      · exact Stays.eq _
      · exact (fun v W W2 h hb => OwnI.below h hb)
    · intro i o a W hi ho hB hf hd hq
      replace hi : i < 6 := hi
      rcases (show i = 0 ∨ i = 1 ∨ i = 2 ∨ i = 3 ∨ i = 4 ∨ i = 5 by omega) with rfl | rfl | rfl | rfl | rfl | rfl
      · replace ho := op_at ho (by rfl)
        subst ho
        have f0 : a.tmps.getD 0 undef = (.slice ao n cap) := hf 0 (by kernel_rfl)
        refine .inl ⟨(fun j b h => by cases h), FlowOp.pure _ (by simp [go_sem, Act.eval, f0]) ⟨rfl, fun h => by cases h⟩⟩
      · replace ho := op_at ho (by rfl)
        subst ho
        have d0 : a.tmps.getD 8 undef = (.slice ao n cap) := hd 0 (by kernel_rfl)
        refine .inl ⟨(fun j b h => by cases h), FlowOp.call 52 #[(.slice ao n cap)] (by simp [go_sem, Act.eval, d0]) ?_⟩
        refine (clone_any _ l W (HI.out.below hB hB.size) HP.out (by have := HL.out; omega)).mono ?_
        rintro e W' ⟨v', rfl, hO, hBe⟩
        refine ⟨_, rfl, hBe, hO.mono hB.size, fun _ g hg => ?_⟩
        obtain ⟨g2, cap2, rfl, h1, h2, -⟩ := hO.blk HP.out
        cases hg
        exact ⟨h1, h2⟩
      · replace ho := op_at ho (by rfl)
        subst ho
        have f0 : a.tmps.getD 0 undef = (.slice ao n cap) := hf 0 (by kernel_rfl)
        refine .inl ⟨(fun j b h => by cases h), FlowOp.pure _ (by simp [go_sem, Act.eval, f0]) ⟨rfl, fun h => by cases h⟩⟩
      · replace ho := op_at ho (by rfl)
        subst ho
        have d2 : a.tmps.getD 10 undef = (.slice ao n cap) := hd 2 (by kernel_rfl)
        refine .inl ⟨(fun j b h => by cases h), FlowOp.pure _ (by simp [go_sem, Act.eval, d2]) ⟨rfl, fun h => by cases h⟩⟩
      · replace ho := op_at ho (by rfl)
        subst ho
        have d3 : a.tmps.getD 11 undef = (.int .i64 (n : Int)) := hd 3 (by kernel_rfl)
        refine .inl ⟨(fun j b h => by cases h), FlowOp.pure _ (by simp [go_sem, Act.eval, d3, hw1]) ⟨rfl, fun h => by cases h⟩⟩
      · replace ho := op_at ho (by rfl)
        subst ho
        have d4 : a.tmps.getD 12 undef = (.int .i64 ((n : Int) + 1)) := hd 4 (by kernel_rfl)
        obtain ⟨W2, hr, ho, hg⟩ := make_any (n + 1) W W0.heap.size hB.size (by omega)
        rw [show ((n + 1 : Nat) : Int) = (n : Int) + 1 by omega] at hr
        obtain ⟨g2, cap2, hv2, h1, h2, -⟩ := (ho).blk (by simp)
        refine .inl ⟨(fun j b h => by cases h), .inl ⟨_, W2, (by simp [go_sem, Act.eval, d4, hr]), (Below.refl _ _).grown hg (Nat.le_refl _) (fun k e => by cases e), ho, fun _ g hgb => ?_⟩⟩
        have e1 : W.heap.size = g2 := by have := congrArg Value.ownBlock hv2; simpa [Value.ownBlock] using this
        have e2 : W.heap.size = g := by simpa [Value.ownBlock] using hgb
        exact ⟨by omega, by omega⟩
    · intro vs4 W4 hB4 hv hSS
      have h0 : vs4 0 = (.slice ao n cap) := hv 0 (show 0 < 6 by decide)
      have h1 : (fun zv W => OwnI W W0.heap.size zv l) (vs4 1) W4 := hv 1 (show 1 < 6 by decide)
      have h2 : vs4 2 = (.slice ao n cap) := hv 2 (show 2 < 6 by decide)
      have h3 : vs4 3 = (.int .i64 (n : Int)) := hv 3 (show 3 < 6 by decide)
      have h4 : vs4 4 = (.int .i64 ((n : Int) + 1)) := hv 4 (show 4 < 6 by decide)
      have h5 : (fun zv W => OwnI W W0.heap.size zv (List.replicate (n + 1) 0)) (vs4 5) W4 := hv 5 (show 5 < 6 by decide)
      clear hv
      simp only [List.drop_succ_cons, List.drop_zero]
      simp only [puts, h0, h2, h3, h4]
      clear h0 h2 h3 h4
      obtain ⟨vb, hvb⟩ : ∃ v, v = vs4 1 := ⟨_, rfl⟩
      obtain ⟨vc, hvc⟩ : ∃ v, v = vs4 5 := ⟨_, rfl⟩
      have HH : Hid (HOwn W4 W0.heap.size vb vc l (List.replicate (n + 1) 0)) := by
        refine ⟨hvb ▸ h1, hvc ▸ h5, fun he => ?_⟩
        obtain ⟨g2, cap2, hv2, -, -, -⟩ := h1.blk HP.out
        refine hSS 1 5 (by decide) (by decide) (by decide) rfl rfl g2 (by rw [hv2]; rfl) ?_
        rw [← hvc, ← he, hvb, hv2]; rfl
      rw [← hvb, ← hvc]
      clear h1 h5 hSS hvb hvc
      have HB4 := Lib.hid hB4
      have hB4' := hB4
      clear hB4
      have K4 := Lib.hid (stays K.out HB4.out)
      have a0 := hiO_0 K4.out
      have a1 := hiO_1 K4.out
      have f0 := hiF_0 K4.out
      have f1 := hiF_1 K4.out
      obtain ⟨gb, capb, hvb, -, -, -⟩ := HH.out.b.blk HP.out
      obtain ⟨gc, capc, hvc, -, -, -⟩ := HH.out.c.blk (by simp)
      rw [List.length_replicate] at hvc
      rw [← HN.out] at hvb
      subst hvb hvc
      go_simp
      gi_wp2
      go_wp2
      refine bodyPost_ret (v := .tuple #[hiV (.slice (some ⟨gb, 0, none⟩) n capb) (.slice (some ⟨gc, 0, none⟩) (n + 1) capc), .int .i64 0]) (by simp [results, Tryd.results19, go_sem, *]) rfl ⟨.inr ⟨HR2.out, _, _, rfl, ?_⟩, ?_⟩
      · rw [← HN.out]
        exact HOwn.mono (HOwn.set (HOwn.set HH.out (Array.getElem?_eq_some_iff.1 K.out).1) (Array.getElem?_eq_some_iff.1 K.out).1) L.out.size
      · exact bel_set (Nat.le_refl _) (bel_set (Nat.le_refl _) (L.out.trans (HB4.out.mono L.out.size)))
set_option maxRecDepth 100000 in
set_option maxHeartbeats 1000000 in
theorem rnew_any (v : Value) (l : List Int) (w : World) (hi : Its w w.heap.size v l) : Calls Tryd.prog 20 #[v] w fun e w' => NewR l w.heap.size e w' ∧ Below w.heap.size w w' := by
  obtain ⟨g0, k0⟩ := hist_new w (.slice none 0 0) (.slice none 0 0)
  have L := Lib.hid g0
  have K := Lib.hid k0
  have HI := Lib.hid (hi.kept g0)
  clear g0 k0
  have cr : ∀ W, Its W W.heap.size v l → _ := fun W h => rbounds_any v l W h
  obtain ⟨ao, cap, hv, hl⟩ := hi.slice
  subst hv
  cases hr : risB l
  · have HNR : Hid (¬ Rising l) := fun h => by rw [risB_t h] at hr; cases hr
    rw [hr] at cr
    clear hr
    go_enter Tryd.func20, Tryd.ntmps20
    go_wp2_with (fail)
    refine (cr _ HI.out).mono ?_
    rintro e w1 ⟨rfl, d, rfl⟩
    have a0 := hiO_0 K.out
    have a1 := hiO_1 K.out
    have f0 := hiF_0 K.out
    have f1 := hiF_1 K.out
    go_wp2
    exact bodyPost_ret (v := .tuple #[hiV (.slice none 0 0) (.slice none 0 0), .int .i64 20]) (by simp [results, Tryd.results20, go_sem, *]) rfl ⟨.inl ⟨HNR.out, rfl⟩, bel_set (Nat.le_refl _) (bel_set (Nat.le_refl _) (bel_drew L.out))⟩
  · have HR := risB_iff.1 hr
    obtain ⟨n, hn⟩ : ∃ n, n = l.length := ⟨_, rfl⟩
    have HP : Hid (0 < l.length) := HR.1
    have HR2 := Lib.hid HR
    have HL : Hid (l.length ≤ 64) := HR.2.1
    have HN := Lib.hid hn
    rw [hr] at cr
    rw [← hn] at HI cr hl ⊢
    clear hn hr HR
    have hn64 : n ≤ 64 := by have := HN.out; have := HL.out; omega
    have hw1 : IntKind.i64.wrap ((n : Int) + 1) = (n : Int) + 1 := by rw [IntKind.wrap_i64]; omega
    go_enter Tryd.func20, Tryd.ntmps20
    go_wp2_with (fail)
    refine (cr _ HI.out).mono ?_
    rintro e w1 ⟨rfl, d, rfl⟩
    replace L := Lib.hid (bel_drew (k := d) L.out)
    replace K := Lib.hid (stays K.out (bdN _ _ d))
    replace HI := Lib.hid (HI.out.kept (bdN _ _ d))
    generalize (w.alloc (.cells #[.slice none 0 0, .slice none 0 0] 24)).drewN d = W0 at *
    clear cr
    go_wp2_with (fail)
    refine wp_flow_tail (by kernel_rfl) (by kernel_rfl) 6 (by decide) (by kernel_rfl) (fun i => 8 + i) (by kernel_rfl) (by kernel_rfl) (by kernel_rfl) (fun i v W => ([(fun zv _ => zv = (.slice ao n cap)), (fun zv W => OwnI W W0.heap.size zv l), (fun zv _ => zv = (.slice ao n cap)), (fun zv _ => zv = (.int .i64 (n : Int))), (fun zv _ => zv = (.int .i64 ((n : Int) + 1))), (fun zv W => OwnI W W0.heap.size zv (List.replicate (n + 1) 0))] : List (Value → World → Prop)).getD i (fun _ _ => True) v W) ?_ (fun i => false || i == 1 || i == 5) ?_ (by kernel_rfl) ?_
    · intro i hi
      replace hi : i < 6 := hi
      rcases (show i = 0 ∨ i = 1 ∨ i = 2 ∨ i = 3 ∨ i = 4 ∨ i = 5 by omega) with rfl | rfl | rfl | rfl | rfl | rfl
      · exact Stays.eq _
      · exact (fun v W W2 h hb => OwnI.below h hb)
      · exact Stays.eq _
      · exact Stays.eq _
      · exact Stays.eq _
      · exact (fun v W W2 h hb => OwnI.below h hb)
    · intro i o a W hi ho hB hf hd hq
      replace hi : i < 6 := hi
      rcases (show i = 0 ∨ i = 1 ∨ i = 2 ∨ i = 3 ∨ i = 4 ∨ i = 5 by omega) with rfl | rfl | rfl | rfl | rfl | rfl
      · replace ho := op_at ho (by rfl)
        subst ho
        have f0 : a.tmps.getD 0 undef = (.slice ao n cap) := hf 0 (by kernel_rfl)
        refine .inl ⟨(fun j b h => by cases h), FlowOp.pure _ (by simp [go_sem, Act.eval, f0]) ⟨rfl, fun h => by cases h⟩⟩
      · replace ho := op_at ho (by rfl)
        subst ho
        have d0 : a.tmps.getD 8 undef = (.slice ao n cap) := hd 0 (by kernel_rfl)
        refine .inl ⟨(fun j b h => by cases h), FlowOp.call 53 #[(.slice ao n cap)] (by simp [go_sem, Act.eval, d0]) ?_⟩
        refine (copied_any _ l W (HI.out.below hB hB.size) (by have := HL.out; omega)).mono ?_
        rintro e W' ⟨v', rfl, hO, hBe⟩
        refine ⟨_, rfl, hBe, hO.mono hB.size, fun _ g hg => ?_⟩
        obtain ⟨g2, cap2, rfl, h1, h2, -⟩ := hO.blk HP.out
        cases hg
        exact ⟨h1, h2⟩
      · replace ho := op_at ho (by rfl)
        subst ho
        have f0 : a.tmps.getD 0 undef = (.slice ao n cap) := hf 0 (by kernel_rfl)
        refine .inl ⟨(fun j b h => by cases h), FlowOp.pure _ (by simp [go_sem, Act.eval, f0]) ⟨rfl, fun h => by cases h⟩⟩
      · replace ho := op_at ho (by rfl)
        subst ho
        have d2 : a.tmps.getD 10 undef = (.slice ao n cap) := hd 2 (by kernel_rfl)
        refine .inl ⟨(fun j b h => by cases h), FlowOp.pure _ (by simp [go_sem, Act.eval, d2]) ⟨rfl, fun h => by cases h⟩⟩
      · replace ho := op_at ho (by rfl)
        subst ho
        have d3 : a.tmps.getD 11 undef = (.int .i64 (n : Int)) := hd 3 (by kernel_rfl)
        refine .inl ⟨(fun j b h => by cases h), FlowOp.pure _ (by simp [go_sem, Act.eval, d3, hw1]) ⟨rfl, fun h => by cases h⟩⟩
      · replace ho := op_at ho (by rfl)
        subst ho
        have d4 : a.tmps.getD 12 undef = (.int .i64 ((n : Int) + 1)) := hd 4 (by kernel_rfl)
        obtain ⟨W2, hr, ho, hg⟩ := make_any (n + 1) W W0.heap.size hB.size (by omega)
        rw [show ((n + 1 : Nat) : Int) = (n : Int) + 1 by omega] at hr
        obtain ⟨g2, cap2, hv2, h1, h2, -⟩ := (ho).blk (by simp)
        refine .inl ⟨(fun j b h => by cases h), .inl ⟨_, W2, (by simp [go_sem, Act.eval, d4, hr]), (Below.refl _ _).grown hg (Nat.le_refl _) (fun k e => by cases e), ho, fun _ g hgb => ?_⟩⟩
        have e1 : W.heap.size = g2 := by have := congrArg Value.ownBlock hv2; simpa [Value.ownBlock] using this
        have e2 : W.heap.size = g := by simpa [Value.ownBlock] using hgb
        exact ⟨by omega, by omega⟩
    · intro vs4 W4 hB4 hv hSS
      have h0 : vs4 0 = (.slice ao n cap) := hv 0 (show 0 < 6 by decide)
      have h1 : (fun zv W => OwnI W W0.heap.size zv l) (vs4 1) W4 := hv 1 (show 1 < 6 by decide)
      have h2 : vs4 2 = (.slice ao n cap) := hv 2 (show 2 < 6 by decide)
      have h3 : vs4 3 = (.int .i64 (n : Int)) := hv 3 (show 3 < 6 by decide)
      have h4 : vs4 4 = (.int .i64 ((n : Int) + 1)) := hv 4 (show 4 < 6 by decide)
      have h5 : (fun zv W => OwnI W W0.heap.size zv (List.replicate (n + 1) 0)) (vs4 5) W4 := hv 5 (show 5 < 6 by decide)
      clear hv
      simp only [List.drop_succ_cons, List.drop_zero]
      simp only [puts, h0, h2, h3, h4]
      clear h0 h2 h3 h4
      obtain ⟨vb, hvb⟩ : ∃ v, v = vs4 1 := ⟨_, rfl⟩
      obtain ⟨vc, hvc⟩ : ∃ v, v = vs4 5 := ⟨_, rfl⟩
      have HH : Hid (HOwn W4 W0.heap.size vb vc l (List.replicate (n + 1) 0)) := by
        refine ⟨hvb ▸ h1, hvc ▸ h5, fun he => ?_⟩
        obtain ⟨g2, cap2, hv2, -, -, -⟩ := h1.blk HP.out
        refine hSS 1 5 (by decide) (by decide) (by decide) rfl rfl g2 (by rw [hv2]; rfl) ?_
        rw [← hvc, ← he, hvb, hv2]; rfl
      rw [← hvb, ← hvc]
      clear h1 h5 hSS hvb hvc
      have HB4 := Lib.hid hB4
      have hB4' := hB4
      clear hB4
      have K4 := Lib.hid (stays K.out HB4.out)
      have a0 := hiO_0 K4.out
      have a1 := hiO_1 K4.out
      have f0 := hiF_0 K4.out
      have f1 := hiF_1 K4.out
      obtain ⟨gb, capb, hvb, -, -, -⟩ := HH.out.b.blk HP.out
      obtain ⟨gc, capc, hvc, -, -, -⟩ := HH.out.c.blk (by simp)
      rw [List.length_replicate] at hvc
      rw [← HN.out] at hvb
      subst hvb hvc
      go_simp
      gi_wp2
      go_wp2
      refine bodyPost_ret (v := .tuple #[hiV (.slice (some ⟨gb, 0, none⟩) n capb) (.slice (some ⟨gc, 0, none⟩) (n + 1) capc), .int .i64 0]) (by simp [results, Tryd.results20, go_sem, *]) rfl ⟨.inr ⟨HR2.out, _, _, rfl, ?_⟩, ?_⟩
      · rw [← HN.out]
        exact HOwn.mono (HOwn.set (HOwn.set HH.out (Array.getElem?_eq_some_iff.1 K.out).1) (Array.getElem?_eq_some_iff.1 K.out).1) L.out.size
      · exact bel_set (Nat.le_refl _) (bel_set (Nat.le_refl _) (L.out.trans (HB4.out.mono L.out.size)))

end Go.Proofs.YtghgnalbahneoaaDoor
