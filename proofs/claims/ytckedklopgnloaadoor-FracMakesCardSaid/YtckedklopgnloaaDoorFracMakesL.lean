/- FracMakes: the law, walked (by program: wip/tools/gen_fraclaws.py). -/
import Derived.Test.YtckedklopgnloaaDoorFracLaw
import Derived.Test.YtckedklopgnloaaDoorFlow2
namespace Go.Proofs.YtckedklopgnloaaDoor
open Go.RowKit

set_option maxRecDepth 100000 in
set_option maxHeartbeats 1000000 in

theorem law_FracMakes (fn fd n d : Int) (w : World) (hfn0 : -9223372036854775808 ≤ fn) (hfn1 : fn < 9223372036854775808) (hfd0 : -9223372036854775808 ≤ fd) (hfd1 : fd < 9223372036854775808) (hn0 : -9223372036854775808 ≤ n) (hn1 : n < 9223372036854775808) (hd0 : -9223372036854775808 ≤ d) (hd1 : d < 9223372036854775808) (ht : TabT w) :
    Calls Tryd.prog 3 #[frV fn fd, .int .i64 n, .int .i64 d] w fun e w' => e = .returned (.bool true) ∧ Below w.heap.size w w' := by
  obtain ⟨⟨⟨gn, gd⟩, cc⟩, hm⟩ : ∃ r, mkF n d = r := ⟨_, rfl⟩
  have c1 : ∀ W, _ := fun W => make_any n d W hn0 hn1 hd0 hd1
  have c2 : ∀ W, _ := fun W => rmake_any n d W hn0 hn1 hd0 hd1
  rw [hm] at c1 c2
  have HM := Lib.hid hm
  clear hm
  by_cases hc : cc = 0
  · subst hc
    have hv := (mkF_ok HM.out).2.1
    have cv : ∀ W, _ := fun W => valid_any gn gd W (by have := hv.2.2.1; omega) (by have := hv.2.2.2.1; omega) (by have := hv.1; omega) (by have := hv.2.1; omega)
    rw [(valB_iff gn gd).2 hv] at cv
    clear hv
    obtain ⟨g0, kA⟩ := enter1 w fn fd
    have L := Lib.hid g0
    replace kA := Lib.hid kA
    clear g0
    have A0 := frO_0 kA.out
    have A1 := frO_1 kA.out
    go_enter Tryd.func3, Tryd.ntmps3
    go_wp2_with (fail)
    refine (c1 _).mono ?_
    rintro e w1 ⟨rfl, hB⟩
    replace L := Lib.hid (L.out.trans (hB.mono L.out.size))
    replace kA := Lib.hid (stays kA.out hB)
    clear hB A0 A1
    simp only [mkV]
    obtain ⟨gN, kF⟩ := box_new w1 (gn) (gd)
    replace kA := Lib.hid (stays kA.out gN)
    replace kF := Lib.hid kF
    have A0 := frO_0 kA.out
    have A1 := frO_1 kA.out
    have F0 := frO_0 kF.out
    have F1 := frO_1 kF.out
    go_wp2_with (fail)
    refine (c2 _).mono ?_
    rintro e w2 ⟨rfl, hB⟩
    replace L := Lib.hid (L.out.trans ((gN.trans (hB.mono gN.size)).mono L.out.size))
    replace kA := Lib.hid (stays kA.out hB)
    replace kF := Lib.hid (stays kF.out hB)
    generalize w1.heap.size = xF at *
    clear gN
    clear hB A0 A1 F0 F1
    simp only [mkV]
    obtain ⟨gN, kG⟩ := box_new w2 (gn) (gd)
    replace kA := Lib.hid (stays kA.out gN)
    replace kF := Lib.hid (stays kF.out gN)
    replace kG := Lib.hid kG
    have A0 := frO_0 kA.out
    have A1 := frO_1 kA.out
    have F0 := frO_0 kF.out
    have F1 := frO_1 kF.out
    have G0 := frO_0 kG.out
    have G1 := frO_1 kG.out
    go_wp2_with (fail)
    replace L := Lib.hid (L.out.trans (gN.mono L.out.size))
    generalize w2.heap.size = xG at *
    clear gN A0 A1 F0 F1 G0 G1
    refine wp_flow2 (by kernel_rfl) (by kernel_rfl) (fun i => if i = 26 then 6 else 23 + i) (by kernel_rfl) (by kernel_rfl) (by kernel_rfl) (fun i v W => ([(fun zv _ => zv = (frV fn fd)), (fun zv _ => zv = (.bool (valB fn fd))), (fun zv _ => zv = (frV fn fd)), (fun zv _ => zv = (.bool (valB fn fd))), (fun zv _ => zv = (.bool true)), (fun zv _ => zv = (.bool true)), (fun zv _ => zv = (frV gn gd)), (fun zv _ => zv = (frV gn gd)), (fun zv _ => zv = (.bool true)), (fun zv _ => zv = (.bool true)), (fun zv _ => zv = (.bool true)), (fun zv _ => zv = (.int .i64 0)), (fun zv _ => zv = (.int .i64 0)), (fun zv _ => zv = (.bool true)), (fun zv _ => zv = (.bool true)), (fun zv _ => zv = (.bool true)), (fun zv _ => zv = (.int .i64 0)), (fun zv _ => zv = (.bool false)), (fun zv _ => zv = (.bool false)), (fun zv _ => zv = (frV gn gd)), (fun zv _ => zv = (.bool true)), (fun zv _ => zv = (.bool true)), (fun zv _ => zv = (.bool true)), (fun zv _ => zv = (.bool true)), (fun zv _ => zv = (.bool true)), (fun zv _ => zv = (.bool true)), (fun zv _ => zv = (.bool true))] : List (Value → World → Prop)).getD i (fun _ _ => True) v W) ?_ ?_ (by kernel_rfl) ?_
    · intro i hi
      replace hi : i < 27 := hi
      rcases (show i = 0 ∨ i = 1 ∨ i = 2 ∨ i = 3 ∨ i = 4 ∨ i = 5 ∨ i = 6 ∨ i = 7 ∨ i = 8 ∨ i = 9 ∨ i = 10 ∨ i = 11 ∨ i = 12 ∨ i = 13 ∨ i = 14 ∨ i = 15 ∨ i = 16 ∨ i = 17 ∨ i = 18 ∨ i = 19 ∨ i = 20 ∨ i = 21 ∨ i = 22 ∨ i = 23 ∨ i = 24 ∨ i = 25 ∨ i = 26 by omega) with rfl | rfl | rfl | rfl | rfl | rfl | rfl | rfl | rfl | rfl | rfl | rfl | rfl | rfl | rfl | rfl | rfl | rfl | rfl | rfl | rfl | rfl | rfl | rfl | rfl | rfl | rfl
      · exact Stays.eq _
      · exact Stays.eq _
      · exact Stays.eq _
      · exact Stays.eq _
      · exact Stays.eq _
      · exact Stays.eq _
      · exact Stays.eq _
      · exact Stays.eq _
      · exact Stays.eq _
      · exact Stays.eq _
      · exact Stays.eq _
      · exact Stays.eq _
      · exact Stays.eq _
      · exact Stays.eq _
      · exact Stays.eq _
      · exact Stays.eq _
      · exact Stays.eq _
      · exact Stays.eq _
      · exact Stays.eq _
      · exact Stays.eq _
      · exact Stays.eq _
      · exact Stays.eq _
      · exact Stays.eq _
      · exact Stays.eq _
      · exact Stays.eq _
      · exact Stays.eq _
      · exact Stays.eq _
    · intro i o a W hi ho hB hf hd
      replace hi : i < 27 := hi
      rcases (show i = 0 ∨ i = 1 ∨ i = 2 ∨ i = 3 ∨ i = 4 ∨ i = 5 ∨ i = 6 ∨ i = 7 ∨ i = 8 ∨ i = 9 ∨ i = 10 ∨ i = 11 ∨ i = 12 ∨ i = 13 ∨ i = 14 ∨ i = 15 ∨ i = 16 ∨ i = 17 ∨ i = 18 ∨ i = 19 ∨ i = 20 ∨ i = 21 ∨ i = 22 ∨ i = 23 ∨ i = 24 ∨ i = 25 ∨ i = 26 by omega) with rfl | rfl | rfl | rfl | rfl | rfl | rfl | rfl | rfl | rfl | rfl | rfl | rfl | rfl | rfl | rfl | rfl | rfl | rfl | rfl | rfl | rfl | rfl | rfl | rfl | rfl | rfl
      · replace ho := op_at ho (by rfl)
        subst ho
        have f3 : a.tmps.getD 3 undef = (.pointer (some ⟨w.heap.size, 0, none⟩)) := hf 3 (by kernel_rfl)
        have kA := stays kA.out hB
        have b0 := frO_0 kA
        have b1 := frO_1 kA
        refine .inl ⟨(fun j b h => by cases h), FlowOp.pure _ (by simp [go_sem, Act.eval, f3, b0, b1]) rfl⟩
      · replace ho := op_at ho (by rfl)
        subst ho
        have d0 : a.tmps.getD 23 undef = (frV fn fd) := hd 0 (by kernel_rfl)
        refine .inl ⟨(fun j b h => by cases h), FlowOp.call 14 #[(frV fn fd)] (by simp [go_sem, Act.eval, d0]) ?_⟩
        refine (valid_any fn fd W hfn0 hfn1 hfd0 hfd1).mono ?_
        rintro e W' ⟨rfl, hBe⟩
        exact ⟨_, rfl, hBe, rfl⟩
      · replace ho := op_at ho (by rfl)
        subst ho
        have f3 : a.tmps.getD 3 undef = (.pointer (some ⟨w.heap.size, 0, none⟩)) := hf 3 (by kernel_rfl)
        have kA := stays kA.out hB
        have b0 := frO_0 kA
        have b1 := frO_1 kA
        refine .inl ⟨(fun j b h => by cases h), FlowOp.pure _ (by simp [go_sem, Act.eval, f3, b0, b1]) rfl⟩
      · replace ho := op_at ho (by rfl)
        subst ho
        have d2 : a.tmps.getD 25 undef = (frV fn fd) := hd 2 (by kernel_rfl)
        refine .inl ⟨(fun j b h => by cases h), FlowOp.call 15 #[(frV fn fd)] (by simp [go_sem, Act.eval, d2]) ?_⟩
        refine (rvalid_any fn fd W hfn0 hfn1 hfd0 hfd1).mono ?_
        rintro e W' ⟨rfl, hBe⟩
        exact ⟨_, rfl, hBe, rfl⟩
      · replace ho := op_at ho (by rfl)
        subst ho
        have d1 : a.tmps.getD 24 undef = (.bool (valB fn fd)) := hd 1 (by kernel_rfl)
        have d3 : a.tmps.getD 26 undef = (.bool (valB fn fd)) := hd 3 (by kernel_rfl)
        refine .inl ⟨(fun j b h => by cases h), FlowOp.pure _ (by simp [go_sem, Act.eval, d1, d3]) rfl⟩
      · replace ho := op_at ho (by rfl)
        subst ho
        have d4 : a.tmps.getD 27 undef = (.bool true) := hd 4 (by kernel_rfl)
        refine .inl ⟨(fun j b h => by cases h), FlowOp.pure _ (by simp [go_sem, Act.eval, d4]) rfl⟩
      · replace ho := op_at ho (by rfl)
        subst ho
        have f7 : a.tmps.getD 7 undef = (.pointer (some ⟨xF, 0, none⟩)) := hf 7 (by kernel_rfl)
        have d5 : a.tmps.getD 28 undef = (.bool true) := hd 5 (by kernel_rfl)
        have kF := stays kF.out hB
        have b0 := frO_0 kF
        have b1 := frO_1 kF
        refine .inl ⟨(fun j b h => by cases h; exact d5), FlowOp.pure _ (by simp [go_sem, Act.eval, f7, b0, b1]) rfl⟩
      · replace ho := op_at ho (by rfl)
        subst ho
        have f9 : a.tmps.getD 9 undef = (.pointer (some ⟨xG, 0, none⟩)) := hf 9 (by kernel_rfl)
        have d5 : a.tmps.getD 28 undef = (.bool true) := hd 5 (by kernel_rfl)
        have kG := stays kG.out hB
        have b0 := frO_0 kG
        have b1 := frO_1 kG
        refine .inl ⟨(fun j b h => by cases h; exact d5), FlowOp.pure _ (by simp [go_sem, Act.eval, f9, b0, b1]) rfl⟩
      · replace ho := op_at ho (by rfl)
        subst ho
        have d6 : a.tmps.getD 29 undef = (frV gn gd) := hd 6 (by kernel_rfl)
        have d7 : a.tmps.getD 30 undef = (frV gn gd) := hd 7 (by kernel_rfl)
        have d5 : a.tmps.getD 28 undef = (.bool true) := hd 5 (by kernel_rfl)
        refine .inl ⟨(fun j b h => by cases h; exact d5), FlowOp.pure _ (by simp [go_sem, Act.eval, d6, d7]) rfl⟩
      · replace ho := op_at ho (by rfl)
        subst ho
        have d5 : a.tmps.getD 28 undef = (.bool true) := hd 5 (by kernel_rfl)
        have d8 : a.tmps.getD 31 undef = (.bool true) := hd 8 (by kernel_rfl)
        refine .inl ⟨(fun j b h => by cases h), FlowOp.pure _ (by simp [go_sem, Act.eval, d5, d8]) rfl⟩
      · replace ho := op_at ho (by rfl)
        subst ho
        have d9 : a.tmps.getD 32 undef = (.bool true) := hd 9 (by kernel_rfl)
        refine .inl ⟨(fun j b h => by cases h), FlowOp.pure _ (by simp [go_sem, Act.eval, d9]) rfl⟩
      · replace ho := op_at ho (by rfl)
        subst ho
        have f8 : a.tmps.getD 8 undef = (.int .i64 0) := hf 8 (by kernel_rfl)
        have d10 : a.tmps.getD 33 undef = (.bool true) := hd 10 (by kernel_rfl)
        refine .inl ⟨(fun j b h => by cases h; exact d10), FlowOp.pure _ (by simp [go_sem, Act.eval, f8]) rfl⟩
      · replace ho := op_at ho (by rfl)
        subst ho
        have f10 : a.tmps.getD 10 undef = (.int .i64 0) := hf 10 (by kernel_rfl)
        have d10 : a.tmps.getD 33 undef = (.bool true) := hd 10 (by kernel_rfl)
        refine .inl ⟨(fun j b h => by cases h; exact d10), FlowOp.pure _ (by simp [go_sem, Act.eval, f10]) rfl⟩
      · replace ho := op_at ho (by rfl)
        subst ho
        have d11 : a.tmps.getD 34 undef = (.int .i64 0) := hd 11 (by kernel_rfl)
        have d12 : a.tmps.getD 35 undef = (.int .i64 0) := hd 12 (by kernel_rfl)
        have d10 : a.tmps.getD 33 undef = (.bool true) := hd 10 (by kernel_rfl)
        refine .inl ⟨(fun j b h => by cases h; exact d10), FlowOp.pure _ (by simp [go_sem, Act.eval, d11, d12]) rfl⟩
      · replace ho := op_at ho (by rfl)
        subst ho
        have d10 : a.tmps.getD 33 undef = (.bool true) := hd 10 (by kernel_rfl)
        have d13 : a.tmps.getD 36 undef = (.bool true) := hd 13 (by kernel_rfl)
        refine .inl ⟨(fun j b h => by cases h), FlowOp.pure _ (by simp [go_sem, Act.eval, d10, d13]) rfl⟩
      · replace ho := op_at ho (by rfl)
        subst ho
        have d14 : a.tmps.getD 37 undef = (.bool true) := hd 14 (by kernel_rfl)
        refine .inl ⟨(fun j b h => by cases h), FlowOp.pure _ (by simp [go_sem, Act.eval, d14]) rfl⟩
      · replace ho := op_at ho (by rfl)
        subst ho
        have f8 : a.tmps.getD 8 undef = (.int .i64 0) := hf 8 (by kernel_rfl)
        have d15 : a.tmps.getD 38 undef = (.bool true) := hd 15 (by kernel_rfl)
        refine .inl ⟨(fun j b h => by cases h; exact d15), FlowOp.pure _ (by simp [go_sem, Act.eval, f8]) rfl⟩
      · replace ho := op_at ho (by rfl)
        subst ho
        have d16 : a.tmps.getD 39 undef = (.int .i64 0) := hd 16 (by kernel_rfl)
        have d15 : a.tmps.getD 38 undef = (.bool true) := hd 15 (by kernel_rfl)
        refine .inl ⟨(fun j b h => by cases h; exact d15), FlowOp.pure _ (by simp [go_sem, Act.eval, d16]) rfl⟩
      · replace ho := op_at ho (by rfl)
        subst ho
        have d17 : a.tmps.getD 40 undef = (.bool false) := hd 17 (by kernel_rfl)
        have d15 : a.tmps.getD 38 undef = (.bool true) := hd 15 (by kernel_rfl)
        refine .inl ⟨(fun j b h => by cases h; exact d15), FlowOp.pure _ (by simp [go_sem, Act.eval, d17]) rfl⟩
      · replace ho := op_at ho (by rfl)
        subst ho
        have f7 : a.tmps.getD 7 undef = (.pointer (some ⟨xF, 0, none⟩)) := hf 7 (by kernel_rfl)
        have d18 : a.tmps.getD 41 undef = (.bool false) := hd 18 (by kernel_rfl)
        have kF := stays kF.out hB
        have b0 := frO_0 kF
        have b1 := frO_1 kF
        refine .inl ⟨(fun j b h => by cases h; exact d18), FlowOp.pure _ (by simp [go_sem, Act.eval, f7, b0, b1]) rfl⟩
      · replace ho := op_at ho (by rfl)
        subst ho
        have d19 : a.tmps.getD 42 undef = (frV gn gd) := hd 19 (by kernel_rfl)
        have d18 : a.tmps.getD 41 undef = (.bool false) := hd 18 (by kernel_rfl)
        refine .inl ⟨(fun j b h => by cases h; exact d18), FlowOp.call 14 #[(frV gn gd)] (by simp [go_sem, Act.eval, d19]) ?_⟩
        refine (cv W).mono ?_
        rintro e W' ⟨rfl, hBe⟩
        exact ⟨_, rfl, hBe, rfl⟩
      · replace ho := op_at ho (by rfl)
        subst ho
        have d18 : a.tmps.getD 41 undef = (.bool false) := hd 18 (by kernel_rfl)
        have d20 : a.tmps.getD 43 undef = (.bool true) := hd 20 (by kernel_rfl)
        have d15 : a.tmps.getD 38 undef = (.bool true) := hd 15 (by kernel_rfl)
        refine .inl ⟨(fun j b h => by cases h; exact d15), FlowOp.pure _ (by simp [go_sem, Act.eval, d18, d20]) rfl⟩
      · replace ho := op_at ho (by rfl)
        subst ho
        have d15 : a.tmps.getD 38 undef = (.bool true) := hd 15 (by kernel_rfl)
        have d21 : a.tmps.getD 44 undef = (.bool true) := hd 21 (by kernel_rfl)
        refine .inl ⟨(fun j b h => by cases h), FlowOp.pure _ (by simp [go_sem, Act.eval, d15, d21]) rfl⟩
      · replace ho := op_at ho (by rfl)
        subst ho
        have d22 : a.tmps.getD 45 undef = (.bool true) := hd 22 (by kernel_rfl)
        refine .inl ⟨(fun j b h => by cases h), FlowOp.pure _ (by simp [go_sem, Act.eval, d22]) rfl⟩
      · replace ho := op_at ho (by rfl)
        subst ho
        have d23 : a.tmps.getD 46 undef = (.bool true) := hd 23 (by kernel_rfl)
        refine .inl ⟨(fun j b h => by cases h; exact d23), FlowOp.call 16 #[] (by simp [go_sem, Act.eval]) ?_⟩
        refine (awake_any W (ht.below (L.out.trans (hB.mono L.out.size)))).mono ?_
        rintro e W' ⟨rfl, hBe⟩
        exact ⟨_, rfl, hBe, rfl⟩
      · replace ho := op_at ho (by rfl)
        subst ho
        have d23 : a.tmps.getD 46 undef = (.bool true) := hd 23 (by kernel_rfl)
        have d24 : a.tmps.getD 47 undef = (.bool true) := hd 24 (by kernel_rfl)
        refine .inl ⟨(fun j b h => by cases h), FlowOp.pure _ (by simp [go_sem, Act.eval, d23, d24]) rfl⟩
      · replace ho := op_at ho (by rfl)
        subst ho
        have d25 : a.tmps.getD 48 undef = (.bool true) := hd 25 (by kernel_rfl)
        refine .inl ⟨(fun j b h => by cases h), FlowOp.pure _ (by simp [go_sem, Act.eval, d25]) rfl⟩
    · intro vs4 W4 hB4 hv
      have h0 : vs4 0 = (frV fn fd) := hv 0 (show 0 < 27 by decide)
      have h1 : vs4 1 = (.bool (valB fn fd)) := hv 1 (show 1 < 27 by decide)
      have h2 : vs4 2 = (frV fn fd) := hv 2 (show 2 < 27 by decide)
      have h3 : vs4 3 = (.bool (valB fn fd)) := hv 3 (show 3 < 27 by decide)
      have h4 : vs4 4 = (.bool true) := hv 4 (show 4 < 27 by decide)
      have h5 : vs4 5 = (.bool true) := hv 5 (show 5 < 27 by decide)
      have h6 : vs4 6 = (frV gn gd) := hv 6 (show 6 < 27 by decide)
      have h7 : vs4 7 = (frV gn gd) := hv 7 (show 7 < 27 by decide)
      have h8 : vs4 8 = (.bool true) := hv 8 (show 8 < 27 by decide)
      have h9 : vs4 9 = (.bool true) := hv 9 (show 9 < 27 by decide)
      have h10 : vs4 10 = (.bool true) := hv 10 (show 10 < 27 by decide)
      have h11 : vs4 11 = (.int .i64 0) := hv 11 (show 11 < 27 by decide)
      have h12 : vs4 12 = (.int .i64 0) := hv 12 (show 12 < 27 by decide)
      have h13 : vs4 13 = (.bool true) := hv 13 (show 13 < 27 by decide)
      have h14 : vs4 14 = (.bool true) := hv 14 (show 14 < 27 by decide)
      have h15 : vs4 15 = (.bool true) := hv 15 (show 15 < 27 by decide)
      have h16 : vs4 16 = (.int .i64 0) := hv 16 (show 16 < 27 by decide)
      have h17 : vs4 17 = (.bool false) := hv 17 (show 17 < 27 by decide)
      have h18 : vs4 18 = (.bool false) := hv 18 (show 18 < 27 by decide)
      have h19 : vs4 19 = (frV gn gd) := hv 19 (show 19 < 27 by decide)
      have h20 : vs4 20 = (.bool true) := hv 20 (show 20 < 27 by decide)
      have h21 : vs4 21 = (.bool true) := hv 21 (show 21 < 27 by decide)
      have h22 : vs4 22 = (.bool true) := hv 22 (show 22 < 27 by decide)
      have h23 : vs4 23 = (.bool true) := hv 23 (show 23 < 27 by decide)
      have h24 : vs4 24 = (.bool true) := hv 24 (show 24 < 27 by decide)
      have h25 : vs4 25 = (.bool true) := hv 25 (show 25 < 27 by decide)
      have h26 : vs4 26 = (.bool true) := hv 26 (show 26 < 27 by decide)
      clear hv
      show (_ : Exit → Act → World → Prop) Exit.normal (puts _ vs4 27 _) W4
      simp only [puts, h0, h1, h2, h3, h4, h5, h6, h7, h8, h9, h10, h11, h12, h13, h14, h15, h16, h17, h18, h19, h20, h21, h22, h23, h24, h25, h26]
      clear h0 h1 h2 h3 h4 h5 h6 h7 h8 h9 h10 h11 h12 h13 h14 h15 h16 h17 h18 h19 h20 h21 h22 h23 h24 h25 h26
      go_simp
      go_wp2
      go_ret
      exact ⟨rfl, L.out.trans (hB4.mono L.out.size)⟩
  · have hcb : (cc != 0) = true := by rw [bne_iff_ne]; exact hc
    clear hc
    obtain ⟨g0, kA⟩ := enter1 w fn fd
    have L := Lib.hid g0
    replace kA := Lib.hid kA
    clear g0
    have A0 := frO_0 kA.out
    have A1 := frO_1 kA.out
    go_enter Tryd.func3, Tryd.ntmps3
    go_wp2_with (fail)
    refine (c1 _).mono ?_
    rintro e w1 ⟨rfl, hB⟩
    replace L := Lib.hid (L.out.trans (hB.mono L.out.size))
    replace kA := Lib.hid (stays kA.out hB)
    clear hB A0 A1
    simp only [mkV]
    obtain ⟨gN, kF⟩ := box_new w1 (gn) (gd)
    replace kA := Lib.hid (stays kA.out gN)
    replace kF := Lib.hid kF
    have A0 := frO_0 kA.out
    have A1 := frO_1 kA.out
    have F0 := frO_0 kF.out
    have F1 := frO_1 kF.out
    go_wp2_with (fail)
    refine (c2 _).mono ?_
    rintro e w2 ⟨rfl, hB⟩
    replace L := Lib.hid (L.out.trans ((gN.trans (hB.mono gN.size)).mono L.out.size))
    replace kA := Lib.hid (stays kA.out hB)
    replace kF := Lib.hid (stays kF.out hB)
    generalize w1.heap.size = xF at *
    clear gN
    clear hB A0 A1 F0 F1
    simp only [mkV]
    obtain ⟨gN, kG⟩ := box_new w2 (gn) (gd)
    replace kA := Lib.hid (stays kA.out gN)
    replace kF := Lib.hid (stays kF.out gN)
    replace kG := Lib.hid kG
    have A0 := frO_0 kA.out
    have A1 := frO_1 kA.out
    have F0 := frO_0 kF.out
    have F1 := frO_1 kF.out
    have G0 := frO_0 kG.out
    have G1 := frO_1 kG.out
    go_wp2_with (fail)
    replace L := Lib.hid (L.out.trans (gN.mono L.out.size))
    generalize w2.heap.size = xG at *
    clear gN A0 A1 F0 F1 G0 G1
    refine wp_flow2 (by kernel_rfl) (by kernel_rfl) (fun i => if i = 26 then 6 else 23 + i) (by kernel_rfl) (by kernel_rfl) (by kernel_rfl) (fun i v W => ([(fun zv _ => zv = (frV fn fd)), (fun zv _ => zv = (.bool (valB fn fd))), (fun zv _ => zv = (frV fn fd)), (fun zv _ => zv = (.bool (valB fn fd))), (fun zv _ => zv = (.bool true)), (fun zv _ => zv = (.bool true)), (fun zv _ => zv = (frV gn gd)), (fun zv _ => zv = (frV gn gd)), (fun zv _ => zv = (.bool true)), (fun zv _ => zv = (.bool true)), (fun zv _ => zv = (.bool true)), (fun zv _ => zv = (.int .i64 cc)), (fun zv _ => zv = (.int .i64 cc)), (fun zv _ => zv = (.bool true)), (fun zv _ => zv = (.bool true)), (fun zv _ => zv = (.bool true)), (fun zv _ => zv = (.int .i64 cc)), (fun zv _ => zv = (.bool true)), (fun zv _ => zv = (.bool true)), (fun zv _ => zv = undef), (fun zv _ => zv = undef), (fun zv _ => zv = (.bool true)), (fun zv _ => zv = (.bool true)), (fun zv _ => zv = (.bool true)), (fun zv _ => zv = (.bool true)), (fun zv _ => zv = (.bool true)), (fun zv _ => zv = (.bool true))] : List (Value → World → Prop)).getD i (fun _ _ => True) v W) ?_ ?_ (by kernel_rfl) ?_
    · intro i hi
      replace hi : i < 27 := hi
      rcases (show i = 0 ∨ i = 1 ∨ i = 2 ∨ i = 3 ∨ i = 4 ∨ i = 5 ∨ i = 6 ∨ i = 7 ∨ i = 8 ∨ i = 9 ∨ i = 10 ∨ i = 11 ∨ i = 12 ∨ i = 13 ∨ i = 14 ∨ i = 15 ∨ i = 16 ∨ i = 17 ∨ i = 18 ∨ i = 19 ∨ i = 20 ∨ i = 21 ∨ i = 22 ∨ i = 23 ∨ i = 24 ∨ i = 25 ∨ i = 26 by omega) with rfl | rfl | rfl | rfl | rfl | rfl | rfl | rfl | rfl | rfl | rfl | rfl | rfl | rfl | rfl | rfl | rfl | rfl | rfl | rfl | rfl | rfl | rfl | rfl | rfl | rfl | rfl
      · exact Stays.eq _
      · exact Stays.eq _
      · exact Stays.eq _
      · exact Stays.eq _
      · exact Stays.eq _
      · exact Stays.eq _
      · exact Stays.eq _
      · exact Stays.eq _
      · exact Stays.eq _
      · exact Stays.eq _
      · exact Stays.eq _
      · exact Stays.eq _
      · exact Stays.eq _
      · exact Stays.eq _
      · exact Stays.eq _
      · exact Stays.eq _
      · exact Stays.eq _
      · exact Stays.eq _
      · exact Stays.eq _
      · exact Stays.eq _
      · exact Stays.eq _
      · exact Stays.eq _
      · exact Stays.eq _
      · exact Stays.eq _
      · exact Stays.eq _
      · exact Stays.eq _
      · exact Stays.eq _
    · intro i o a W hi ho hB hf hd
      replace hi : i < 27 := hi
      rcases (show i = 0 ∨ i = 1 ∨ i = 2 ∨ i = 3 ∨ i = 4 ∨ i = 5 ∨ i = 6 ∨ i = 7 ∨ i = 8 ∨ i = 9 ∨ i = 10 ∨ i = 11 ∨ i = 12 ∨ i = 13 ∨ i = 14 ∨ i = 15 ∨ i = 16 ∨ i = 17 ∨ i = 18 ∨ i = 19 ∨ i = 20 ∨ i = 21 ∨ i = 22 ∨ i = 23 ∨ i = 24 ∨ i = 25 ∨ i = 26 by omega) with rfl | rfl | rfl | rfl | rfl | rfl | rfl | rfl | rfl | rfl | rfl | rfl | rfl | rfl | rfl | rfl | rfl | rfl | rfl | rfl | rfl | rfl | rfl | rfl | rfl | rfl | rfl
      · replace ho := op_at ho (by rfl)
        subst ho
        have f3 : a.tmps.getD 3 undef = (.pointer (some ⟨w.heap.size, 0, none⟩)) := hf 3 (by kernel_rfl)
        have kA := stays kA.out hB
        have b0 := frO_0 kA
        have b1 := frO_1 kA
        refine .inl ⟨(fun j b h => by cases h), FlowOp.pure _ (by simp [go_sem, Act.eval, f3, b0, b1]) rfl⟩
      · replace ho := op_at ho (by rfl)
        subst ho
        have d0 : a.tmps.getD 23 undef = (frV fn fd) := hd 0 (by kernel_rfl)
        refine .inl ⟨(fun j b h => by cases h), FlowOp.call 14 #[(frV fn fd)] (by simp [go_sem, Act.eval, d0]) ?_⟩
        refine (valid_any fn fd W hfn0 hfn1 hfd0 hfd1).mono ?_
        rintro e W' ⟨rfl, hBe⟩
        exact ⟨_, rfl, hBe, rfl⟩
      · replace ho := op_at ho (by rfl)
        subst ho
        have f3 : a.tmps.getD 3 undef = (.pointer (some ⟨w.heap.size, 0, none⟩)) := hf 3 (by kernel_rfl)
        have kA := stays kA.out hB
        have b0 := frO_0 kA
        have b1 := frO_1 kA
        refine .inl ⟨(fun j b h => by cases h), FlowOp.pure _ (by simp [go_sem, Act.eval, f3, b0, b1]) rfl⟩
      · replace ho := op_at ho (by rfl)
        subst ho
        have d2 : a.tmps.getD 25 undef = (frV fn fd) := hd 2 (by kernel_rfl)
        refine .inl ⟨(fun j b h => by cases h), FlowOp.call 15 #[(frV fn fd)] (by simp [go_sem, Act.eval, d2]) ?_⟩
        refine (rvalid_any fn fd W hfn0 hfn1 hfd0 hfd1).mono ?_
        rintro e W' ⟨rfl, hBe⟩
        exact ⟨_, rfl, hBe, rfl⟩
      · replace ho := op_at ho (by rfl)
        subst ho
        have d1 : a.tmps.getD 24 undef = (.bool (valB fn fd)) := hd 1 (by kernel_rfl)
        have d3 : a.tmps.getD 26 undef = (.bool (valB fn fd)) := hd 3 (by kernel_rfl)
        refine .inl ⟨(fun j b h => by cases h), FlowOp.pure _ (by simp [go_sem, Act.eval, d1, d3]) rfl⟩
      · replace ho := op_at ho (by rfl)
        subst ho
        have d4 : a.tmps.getD 27 undef = (.bool true) := hd 4 (by kernel_rfl)
        refine .inl ⟨(fun j b h => by cases h), FlowOp.pure _ (by simp [go_sem, Act.eval, d4]) rfl⟩
      · replace ho := op_at ho (by rfl)
        subst ho
        have f7 : a.tmps.getD 7 undef = (.pointer (some ⟨xF, 0, none⟩)) := hf 7 (by kernel_rfl)
        have d5 : a.tmps.getD 28 undef = (.bool true) := hd 5 (by kernel_rfl)
        have kF := stays kF.out hB
        have b0 := frO_0 kF
        have b1 := frO_1 kF
        refine .inl ⟨(fun j b h => by cases h; exact d5), FlowOp.pure _ (by simp [go_sem, Act.eval, f7, b0, b1]) rfl⟩
      · replace ho := op_at ho (by rfl)
        subst ho
        have f9 : a.tmps.getD 9 undef = (.pointer (some ⟨xG, 0, none⟩)) := hf 9 (by kernel_rfl)
        have d5 : a.tmps.getD 28 undef = (.bool true) := hd 5 (by kernel_rfl)
        have kG := stays kG.out hB
        have b0 := frO_0 kG
        have b1 := frO_1 kG
        refine .inl ⟨(fun j b h => by cases h; exact d5), FlowOp.pure _ (by simp [go_sem, Act.eval, f9, b0, b1]) rfl⟩
      · replace ho := op_at ho (by rfl)
        subst ho
        have d6 : a.tmps.getD 29 undef = (frV gn gd) := hd 6 (by kernel_rfl)
        have d7 : a.tmps.getD 30 undef = (frV gn gd) := hd 7 (by kernel_rfl)
        have d5 : a.tmps.getD 28 undef = (.bool true) := hd 5 (by kernel_rfl)
        refine .inl ⟨(fun j b h => by cases h; exact d5), FlowOp.pure _ (by simp [go_sem, Act.eval, d6, d7]) rfl⟩
      · replace ho := op_at ho (by rfl)
        subst ho
        have d5 : a.tmps.getD 28 undef = (.bool true) := hd 5 (by kernel_rfl)
        have d8 : a.tmps.getD 31 undef = (.bool true) := hd 8 (by kernel_rfl)
        refine .inl ⟨(fun j b h => by cases h), FlowOp.pure _ (by simp [go_sem, Act.eval, d5, d8]) rfl⟩
      · replace ho := op_at ho (by rfl)
        subst ho
        have d9 : a.tmps.getD 32 undef = (.bool true) := hd 9 (by kernel_rfl)
        refine .inl ⟨(fun j b h => by cases h), FlowOp.pure _ (by simp [go_sem, Act.eval, d9]) rfl⟩
      · replace ho := op_at ho (by rfl)
        subst ho
        have f8 : a.tmps.getD 8 undef = (.int .i64 cc) := hf 8 (by kernel_rfl)
        have d10 : a.tmps.getD 33 undef = (.bool true) := hd 10 (by kernel_rfl)
        refine .inl ⟨(fun j b h => by cases h; exact d10), FlowOp.pure _ (by simp [go_sem, Act.eval, f8]) rfl⟩
      · replace ho := op_at ho (by rfl)
        subst ho
        have f10 : a.tmps.getD 10 undef = (.int .i64 cc) := hf 10 (by kernel_rfl)
        have d10 : a.tmps.getD 33 undef = (.bool true) := hd 10 (by kernel_rfl)
        refine .inl ⟨(fun j b h => by cases h; exact d10), FlowOp.pure _ (by simp [go_sem, Act.eval, f10]) rfl⟩
      · replace ho := op_at ho (by rfl)
        subst ho
        have d11 : a.tmps.getD 34 undef = (.int .i64 cc) := hd 11 (by kernel_rfl)
        have d12 : a.tmps.getD 35 undef = (.int .i64 cc) := hd 12 (by kernel_rfl)
        have d10 : a.tmps.getD 33 undef = (.bool true) := hd 10 (by kernel_rfl)
        refine .inl ⟨(fun j b h => by cases h; exact d10), FlowOp.pure _ (by simp [go_sem, Act.eval, d11, d12]) rfl⟩
      · replace ho := op_at ho (by rfl)
        subst ho
        have d10 : a.tmps.getD 33 undef = (.bool true) := hd 10 (by kernel_rfl)
        have d13 : a.tmps.getD 36 undef = (.bool true) := hd 13 (by kernel_rfl)
        refine .inl ⟨(fun j b h => by cases h), FlowOp.pure _ (by simp [go_sem, Act.eval, d10, d13]) rfl⟩
      · replace ho := op_at ho (by rfl)
        subst ho
        have d14 : a.tmps.getD 37 undef = (.bool true) := hd 14 (by kernel_rfl)
        refine .inl ⟨(fun j b h => by cases h), FlowOp.pure _ (by simp [go_sem, Act.eval, d14]) rfl⟩
      · replace ho := op_at ho (by rfl)
        subst ho
        have f8 : a.tmps.getD 8 undef = (.int .i64 cc) := hf 8 (by kernel_rfl)
        have d15 : a.tmps.getD 38 undef = (.bool true) := hd 15 (by kernel_rfl)
        refine .inl ⟨(fun j b h => by cases h; exact d15), FlowOp.pure _ (by simp [go_sem, Act.eval, f8]) rfl⟩
      · replace ho := op_at ho (by rfl)
        subst ho
        have d16 : a.tmps.getD 39 undef = (.int .i64 cc) := hd 16 (by kernel_rfl)
        have d15 : a.tmps.getD 38 undef = (.bool true) := hd 15 (by kernel_rfl)
        refine .inl ⟨(fun j b h => by cases h; exact d15), FlowOp.pure _ (by simp [go_sem, Act.eval, d16, hcb]) rfl⟩
      · replace ho := op_at ho (by rfl)
        subst ho
        have d17 : a.tmps.getD 40 undef = (.bool true) := hd 17 (by kernel_rfl)
        have d15 : a.tmps.getD 38 undef = (.bool true) := hd 15 (by kernel_rfl)
        refine .inl ⟨(fun j b h => by cases h; exact d15), FlowOp.pure _ (by simp [go_sem, Act.eval, d17]) rfl⟩
      · replace ho := op_at ho (by rfl)
        subst ho
        have d18 : a.tmps.getD 41 undef = (.bool true) := hd 18 (by kernel_rfl)
        exact .inr ⟨18, false, rfl, d18, rfl⟩
      · replace ho := op_at ho (by rfl)
        subst ho
        have d18 : a.tmps.getD 41 undef = (.bool true) := hd 18 (by kernel_rfl)
        exact .inr ⟨18, false, rfl, d18, rfl⟩
      · replace ho := op_at ho (by rfl)
        subst ho
        have d18 : a.tmps.getD 41 undef = (.bool true) := hd 18 (by kernel_rfl)
        have d20 : a.tmps.getD 43 undef = undef := hd 20 (by kernel_rfl)
        have d15 : a.tmps.getD 38 undef = (.bool true) := hd 15 (by kernel_rfl)
        refine .inl ⟨(fun j b h => by cases h; exact d15), FlowOp.pure _ (by simp [go_sem, Act.eval, d18, d20]) rfl⟩
      · replace ho := op_at ho (by rfl)
        subst ho
        have d15 : a.tmps.getD 38 undef = (.bool true) := hd 15 (by kernel_rfl)
        have d21 : a.tmps.getD 44 undef = (.bool true) := hd 21 (by kernel_rfl)
        refine .inl ⟨(fun j b h => by cases h), FlowOp.pure _ (by simp [go_sem, Act.eval, d15, d21]) rfl⟩
      · replace ho := op_at ho (by rfl)
        subst ho
        have d22 : a.tmps.getD 45 undef = (.bool true) := hd 22 (by kernel_rfl)
        refine .inl ⟨(fun j b h => by cases h), FlowOp.pure _ (by simp [go_sem, Act.eval, d22]) rfl⟩
      · replace ho := op_at ho (by rfl)
        subst ho
        have d23 : a.tmps.getD 46 undef = (.bool true) := hd 23 (by kernel_rfl)
        refine .inl ⟨(fun j b h => by cases h; exact d23), FlowOp.call 16 #[] (by simp [go_sem, Act.eval]) ?_⟩
        refine (awake_any W (ht.below (L.out.trans (hB.mono L.out.size)))).mono ?_
        rintro e W' ⟨rfl, hBe⟩
        exact ⟨_, rfl, hBe, rfl⟩
      · replace ho := op_at ho (by rfl)
        subst ho
        have d23 : a.tmps.getD 46 undef = (.bool true) := hd 23 (by kernel_rfl)
        have d24 : a.tmps.getD 47 undef = (.bool true) := hd 24 (by kernel_rfl)
        refine .inl ⟨(fun j b h => by cases h), FlowOp.pure _ (by simp [go_sem, Act.eval, d23, d24]) rfl⟩
      · replace ho := op_at ho (by rfl)
        subst ho
        have d25 : a.tmps.getD 48 undef = (.bool true) := hd 25 (by kernel_rfl)
        refine .inl ⟨(fun j b h => by cases h), FlowOp.pure _ (by simp [go_sem, Act.eval, d25]) rfl⟩
    · intro vs4 W4 hB4 hv
      have h0 : vs4 0 = (frV fn fd) := hv 0 (show 0 < 27 by decide)
      have h1 : vs4 1 = (.bool (valB fn fd)) := hv 1 (show 1 < 27 by decide)
      have h2 : vs4 2 = (frV fn fd) := hv 2 (show 2 < 27 by decide)
      have h3 : vs4 3 = (.bool (valB fn fd)) := hv 3 (show 3 < 27 by decide)
      have h4 : vs4 4 = (.bool true) := hv 4 (show 4 < 27 by decide)
      have h5 : vs4 5 = (.bool true) := hv 5 (show 5 < 27 by decide)
      have h6 : vs4 6 = (frV gn gd) := hv 6 (show 6 < 27 by decide)
      have h7 : vs4 7 = (frV gn gd) := hv 7 (show 7 < 27 by decide)
      have h8 : vs4 8 = (.bool true) := hv 8 (show 8 < 27 by decide)
      have h9 : vs4 9 = (.bool true) := hv 9 (show 9 < 27 by decide)
      have h10 : vs4 10 = (.bool true) := hv 10 (show 10 < 27 by decide)
      have h11 : vs4 11 = (.int .i64 cc) := hv 11 (show 11 < 27 by decide)
      have h12 : vs4 12 = (.int .i64 cc) := hv 12 (show 12 < 27 by decide)
      have h13 : vs4 13 = (.bool true) := hv 13 (show 13 < 27 by decide)
      have h14 : vs4 14 = (.bool true) := hv 14 (show 14 < 27 by decide)
      have h15 : vs4 15 = (.bool true) := hv 15 (show 15 < 27 by decide)
      have h16 : vs4 16 = (.int .i64 cc) := hv 16 (show 16 < 27 by decide)
      have h17 : vs4 17 = (.bool true) := hv 17 (show 17 < 27 by decide)
      have h18 : vs4 18 = (.bool true) := hv 18 (show 18 < 27 by decide)
      have h19 : vs4 19 = undef := hv 19 (show 19 < 27 by decide)
      have h20 : vs4 20 = undef := hv 20 (show 20 < 27 by decide)
      have h21 : vs4 21 = (.bool true) := hv 21 (show 21 < 27 by decide)
      have h22 : vs4 22 = (.bool true) := hv 22 (show 22 < 27 by decide)
      have h23 : vs4 23 = (.bool true) := hv 23 (show 23 < 27 by decide)
      have h24 : vs4 24 = (.bool true) := hv 24 (show 24 < 27 by decide)
      have h25 : vs4 25 = (.bool true) := hv 25 (show 25 < 27 by decide)
      have h26 : vs4 26 = (.bool true) := hv 26 (show 26 < 27 by decide)
      clear hv
      show (_ : Exit → Act → World → Prop) Exit.normal (puts _ vs4 27 _) W4
      simp only [puts, h0, h1, h2, h3, h4, h5, h6, h7, h8, h9, h10, h11, h12, h13, h14, h15, h16, h17, h18, h19, h20, h21, h22, h23, h24, h25, h26]
      clear h0 h1 h2 h3 h4 h5 h6 h7 h8 h9 h10 h11 h12 h13 h14 h15 h16 h17 h18 h19 h20 h21 h22 h23 h24 h25 h26
      go_simp
      go_wp2
      go_ret
      exact ⟨rfl, L.out.trans (hB4.mono L.out.size)⟩

end Go.Proofs.YtckedklopgnloaaDoor
