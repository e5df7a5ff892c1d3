/- FracWhole: the law, walked (by program: wip/tools/gen_fraclaws.py). -/
import Derived.Test.YtckedklopgnloaaDoorFracLaw
import Derived.Test.YtckedklopgnloaaDoorFracMath4
import Derived.Test.YtckedklopgnloaaDoorFlow2
namespace Go.Proofs.YtckedklopgnloaaDoor
open Go.RowKit

set_option maxRecDepth 100000 in
set_option maxHeartbeats 2000000 in

theorem law_FracWhole (n d : Int) (w : World) (hn0 : -9223372036854775808 ≤ n) (hn1 : n < 9223372036854775808) (hd0 : -9223372036854775808 ≤ d) (hd1 : d < 9223372036854775808) (ht : TabT w) :
    Calls Tryd.prog 7 #[frV n d] w fun e w' => e = .returned (.bool true) ∧ Below w.heap.size w w' := by
  have v0 : ∀ W, _ := fun W => rvalid_any n d W hn0 hn1 hd0 hd1
  by_cases q0 : Val n d
  · have e0 := (valB_iff n d).2 q0
    rw [e0] at v0
    clear e0
    obtain ⟨g0, kA⟩ := enter1 w n d
    have L := Lib.hid g0
    replace kA := Lib.hid kA
    clear g0
    have A0 := frO_0 kA.out
    have A1 := frO_1 kA.out
    go_enter Tryd.func7, Tryd.ntmps7
    go_wp2_with (fail)
    refine (v0 _).mono ?_
    rintro e w1 ⟨rfl, hB⟩
    replace L := Lib.hid (L.out.trans (hB.mono L.out.size))
    replace kA := Lib.hid (stays kA.out hB)
    clear hB A0 A1
    have A0 := frO_0 kA.out
    have A1 := frO_1 kA.out
    have p0 := q0.1
    have p1 := q0.2.1
    have p2 := q0.2.2.1
    have p3 := q0.2.2.2.1
    have cf : ∀ W, _ := fun W => floor_any n d W (by omega) (by omega) (by omega) (by omega)
    have rf : ∀ W, _ := fun W => rfloor_any n d W (by omega) (by omega) (by omega) (by omega)
    have cc : ∀ W, _ := fun W => ceil_any n d W (by omega) (by omega) (by omega) (by omega)
    have rc : ∀ W, _ := fun W => rceil_any n d W (by omega) (by omega) (by omega) (by omega)
    have cr : ∀ W, _ := fun W => round_any n d W (by omega) (by omega) (by omega) (by omega)
    have rr : ∀ W, _ := fun W => rround_any n d W (by omega) (by omega) (by omega) (by omega)
    have bf : ∀ W, _ := fun W => floor_any (-n) d W (by omega) (by omega) (by omega) (by omega)
    have br : ∀ W, _ := fun W => round_any (-n) d W (by omega) (by omega) (by omega) (by omega)
    obtain ⟨r1, r2, r3⟩ := round_facts n d (by omega)
    have r4 := floor_ceil n d (by omega)
    have b1 := ediv_bd n d (by omega)
    have b2 := ediv_bd (-n) d (by omega)
    rw [r3] at br
    unfold ceilF at cc rc
    clear r3
    generalize n / d = fl at *
    generalize (-n) / d = fb at *
    generalize roundF n d = ro at *
    have wB1 : wrap64 (-fb) = -fb := by unfold wrap64; omega
    have wB2 : IntKind.i64.wrap (-fb) = -fb := by rw [IntKind.wrap_i64]; omega
    have wR1 : wrap64 (-ro) = -ro := by unfold wrap64; omega
    have wR2 : IntKind.i64.wrap (-ro) = -ro := by rw [IntKind.wrap_i64]; omega
    have wD1 : wrap64 (-fb - fl) = -fb - fl := by unfold wrap64; omega
    have wD2 : IntKind.i64.wrap (-fb - fl) = -fb - fl := by rw [IntKind.wrap_i64]; omega
    go_wp2_with (fail)
    obtain ⟨gN, kB⟩ := box_new w1 (-n) d
    replace kA := Lib.hid (stays kA.out gN)
    replace kB := Lib.hid kB
    replace L := Lib.hid (L.out.trans (gN.mono L.out.size))
    generalize w1.heap.size = xB at *
    clear gN A0 A1
    refine wp_flow2 (by kernel_rfl) (by kernel_rfl) (fun i => 14 + i) (by kernel_rfl) (by kernel_rfl) (by kernel_rfl) (fun i v W => ([(fun zv _ => zv = (frV n d)), (fun zv _ => zv = (.int .i64 (fl))), (fun zv _ => zv = (frV n d)), (fun zv _ => zv = (.int .i64 (fl))), (fun zv _ => zv = (.bool false)), (fun zv _ => zv = (.bool false)), (fun zv _ => zv = (frV n d)), (fun zv _ => zv = (.int .i64 (-fb))), (fun zv _ => zv = (frV n d)), (fun zv _ => zv = (.int .i64 (-fb))), (fun zv _ => zv = (.bool false)), (fun zv _ => zv = (.bool false)), (fun zv _ => zv = (.bool false)), (fun zv _ => zv = (frV n d)), (fun zv _ => zv = (.int .i64 (ro))), (fun zv _ => zv = (frV n d)), (fun zv _ => zv = (.int .i64 (ro))), (fun zv _ => zv = (.bool false)), (fun zv _ => zv = (.bool false))] : List (Value → World → Prop)).getD i (fun _ _ => True) v W) ?_ ?_ (by kernel_rfl) ?_
    · intro i hi
      replace hi : i < 19 := hi
      rcases (show i = 0 ∨ i = 1 ∨ i = 2 ∨ i = 3 ∨ i = 4 ∨ i = 5 ∨ i = 6 ∨ i = 7 ∨ i = 8 ∨ i = 9 ∨ i = 10 ∨ i = 11 ∨ i = 12 ∨ i = 13 ∨ i = 14 ∨ i = 15 ∨ i = 16 ∨ i = 17 ∨ i = 18 by omega) with rfl | rfl | rfl | rfl | rfl | rfl | rfl | rfl | rfl | rfl | rfl | rfl | rfl | rfl | rfl | rfl | rfl | rfl | rfl
      · exact Stays.eq _
      · exact Stays.eq _
      · exact Stays.eq _
      · exact Stays.eq _
      · exact Stays.eq _
      · exact Stays.eq _
      · exact Stays.eq _
      · exact Stays.eq _
      · exact Stays.eq _
      · exact Stays.eq _
      · exact Stays.eq _
      · exact Stays.eq _
      · exact Stays.eq _
      · exact Stays.eq _
      · exact Stays.eq _
      · exact Stays.eq _
      · exact Stays.eq _
      · exact Stays.eq _
      · exact Stays.eq _
    · intro i o a W hi ho hB hf hd
      replace hi : i < 19 := hi
      rcases (show i = 0 ∨ i = 1 ∨ i = 2 ∨ i = 3 ∨ i = 4 ∨ i = 5 ∨ i = 6 ∨ i = 7 ∨ i = 8 ∨ i = 9 ∨ i = 10 ∨ i = 11 ∨ i = 12 ∨ i = 13 ∨ i = 14 ∨ i = 15 ∨ i = 16 ∨ i = 17 ∨ i = 18 by omega) with rfl | rfl | rfl | rfl | rfl | rfl | rfl | rfl | rfl | rfl | rfl | rfl | rfl | rfl | rfl | rfl | rfl | rfl | rfl
      · replace ho := op_at ho (by rfl)
        subst ho
        have f1 : a.tmps.getD 1 undef = (.pointer (some ⟨w.heap.size, 0, none⟩)) := hf 1 (by kernel_rfl)
        have kA := stays kA.out hB
        have c0 := frO_0 kA
        have c1 := frO_1 kA
        refine .inl ⟨(fun j b h => by cases h), FlowOp.pure _ (by simp [go_sem, Act.eval, f1, c0, c1]) rfl⟩
      · replace ho := op_at ho (by rfl)
        subst ho
        have d0 : a.tmps.getD 14 undef = (frV n d) := hd 0 (by kernel_rfl)
        refine .inl ⟨(fun j b h => by cases h), FlowOp.call 22 #[(frV n d)] (by simp [go_sem, Act.eval, d0]) ?_⟩
        refine (cf W).mono ?_
        rintro e W' ⟨rfl, hBe⟩
        exact ⟨_, rfl, hBe, rfl⟩
      · replace ho := op_at ho (by rfl)
        subst ho
        have f1 : a.tmps.getD 1 undef = (.pointer (some ⟨w.heap.size, 0, none⟩)) := hf 1 (by kernel_rfl)
        have kA := stays kA.out hB
        have c0 := frO_0 kA
        have c1 := frO_1 kA
        refine .inl ⟨(fun j b h => by cases h), FlowOp.pure _ (by simp [go_sem, Act.eval, f1, c0, c1]) rfl⟩
      · replace ho := op_at ho (by rfl)
        subst ho
        have d2 : a.tmps.getD 16 undef = (frV n d) := hd 2 (by kernel_rfl)
        refine .inl ⟨(fun j b h => by cases h), FlowOp.call 23 #[(frV n d)] (by simp [go_sem, Act.eval, d2]) ?_⟩
        refine (rf W).mono ?_
        rintro e W' ⟨rfl, hBe⟩
        exact ⟨_, rfl, hBe, rfl⟩
      · replace ho := op_at ho (by rfl)
        subst ho
        have d1 : a.tmps.getD 15 undef = (.int .i64 (fl)) := hd 1 (by kernel_rfl)
        have d3 : a.tmps.getD 17 undef = (.int .i64 (fl)) := hd 3 (by kernel_rfl)
        refine .inl ⟨(fun j b h => by cases h), FlowOp.pure _ (by simp [go_sem, Act.eval, d1, d3]) rfl⟩
      · replace ho := op_at ho (by rfl)
        subst ho
        have d4 : a.tmps.getD 18 undef = (.bool false) := hd 4 (by kernel_rfl)
        refine .inl ⟨(fun j b h => by cases h), FlowOp.pure _ (by simp [go_sem, Act.eval, d4]) rfl⟩
      · replace ho := op_at ho (by rfl)
        subst ho
        have f1 : a.tmps.getD 1 undef = (.pointer (some ⟨w.heap.size, 0, none⟩)) := hf 1 (by kernel_rfl)
        have d5 : a.tmps.getD 19 undef = (.bool false) := hd 5 (by kernel_rfl)
        have kA := stays kA.out hB
        have c0 := frO_0 kA
        have c1 := frO_1 kA
        refine .inl ⟨(fun j b h => by cases h; exact d5), FlowOp.pure _ (by simp [go_sem, Act.eval, f1, c0, c1]) rfl⟩
      · replace ho := op_at ho (by rfl)
        subst ho
        have d6 : a.tmps.getD 20 undef = (frV n d) := hd 6 (by kernel_rfl)
        have d5 : a.tmps.getD 19 undef = (.bool false) := hd 5 (by kernel_rfl)
        refine .inl ⟨(fun j b h => by cases h; exact d5), FlowOp.call 24 #[(frV n d)] (by simp [go_sem, Act.eval, d6]) ?_⟩
        refine (cc W).mono ?_
        rintro e W' ⟨rfl, hBe⟩
        exact ⟨_, rfl, hBe, rfl⟩
      · replace ho := op_at ho (by rfl)
        subst ho
        have f1 : a.tmps.getD 1 undef = (.pointer (some ⟨w.heap.size, 0, none⟩)) := hf 1 (by kernel_rfl)
        have d5 : a.tmps.getD 19 undef = (.bool false) := hd 5 (by kernel_rfl)
        have kA := stays kA.out hB
        have c0 := frO_0 kA
        have c1 := frO_1 kA
        refine .inl ⟨(fun j b h => by cases h; exact d5), FlowOp.pure _ (by simp [go_sem, Act.eval, f1, c0, c1]) rfl⟩
      · replace ho := op_at ho (by rfl)
        subst ho
        have d8 : a.tmps.getD 22 undef = (frV n d) := hd 8 (by kernel_rfl)
        have d5 : a.tmps.getD 19 undef = (.bool false) := hd 5 (by kernel_rfl)
        refine .inl ⟨(fun j b h => by cases h; exact d5), FlowOp.call 25 #[(frV n d)] (by simp [go_sem, Act.eval, d8]) ?_⟩
        refine (rc W).mono ?_
        rintro e W' ⟨rfl, hBe⟩
        exact ⟨_, rfl, hBe, rfl⟩
      · replace ho := op_at ho (by rfl)
        subst ho
        have d7 : a.tmps.getD 21 undef = (.int .i64 (-fb)) := hd 7 (by kernel_rfl)
        have d9 : a.tmps.getD 23 undef = (.int .i64 (-fb)) := hd 9 (by kernel_rfl)
        have d5 : a.tmps.getD 19 undef = (.bool false) := hd 5 (by kernel_rfl)
        refine .inl ⟨(fun j b h => by cases h; exact d5), FlowOp.pure _ (by simp [go_sem, Act.eval, d7, d9]) rfl⟩
      · replace ho := op_at ho (by rfl)
        subst ho
        have d5 : a.tmps.getD 19 undef = (.bool false) := hd 5 (by kernel_rfl)
        have d10 : a.tmps.getD 24 undef = (.bool false) := hd 10 (by kernel_rfl)
        refine .inl ⟨(fun j b h => by cases h), FlowOp.pure _ (by simp [go_sem, Act.eval, d5, d10]) rfl⟩
      · replace ho := op_at ho (by rfl)
        subst ho
        have d11 : a.tmps.getD 25 undef = (.bool false) := hd 11 (by kernel_rfl)
        refine .inl ⟨(fun j b h => by cases h), FlowOp.pure _ (by simp [go_sem, Act.eval, d11]) rfl⟩
      · replace ho := op_at ho (by rfl)
        subst ho
        have f1 : a.tmps.getD 1 undef = (.pointer (some ⟨w.heap.size, 0, none⟩)) := hf 1 (by kernel_rfl)
        have d12 : a.tmps.getD 26 undef = (.bool false) := hd 12 (by kernel_rfl)
        have kA := stays kA.out hB
        have c0 := frO_0 kA
        have c1 := frO_1 kA
        refine .inl ⟨(fun j b h => by cases h; exact d12), FlowOp.pure _ (by simp [go_sem, Act.eval, f1, c0, c1]) rfl⟩
      · replace ho := op_at ho (by rfl)
        subst ho
        have d13 : a.tmps.getD 27 undef = (frV n d) := hd 13 (by kernel_rfl)
        have d12 : a.tmps.getD 26 undef = (.bool false) := hd 12 (by kernel_rfl)
        refine .inl ⟨(fun j b h => by cases h; exact d12), FlowOp.call 26 #[(frV n d)] (by simp [go_sem, Act.eval, d13]) ?_⟩
        refine (cr W).mono ?_
        rintro e W' ⟨rfl, hBe⟩
        exact ⟨_, rfl, hBe, rfl⟩
      · replace ho := op_at ho (by rfl)
        subst ho
        have f1 : a.tmps.getD 1 undef = (.pointer (some ⟨w.heap.size, 0, none⟩)) := hf 1 (by kernel_rfl)
        have d12 : a.tmps.getD 26 undef = (.bool false) := hd 12 (by kernel_rfl)
        have kA := stays kA.out hB
        have c0 := frO_0 kA
        have c1 := frO_1 kA
        refine .inl ⟨(fun j b h => by cases h; exact d12), FlowOp.pure _ (by simp [go_sem, Act.eval, f1, c0, c1]) rfl⟩
      · replace ho := op_at ho (by rfl)
        subst ho
        have d15 : a.tmps.getD 29 undef = (frV n d) := hd 15 (by kernel_rfl)
        have d12 : a.tmps.getD 26 undef = (.bool false) := hd 12 (by kernel_rfl)
        refine .inl ⟨(fun j b h => by cases h; exact d12), FlowOp.call 27 #[(frV n d)] (by simp [go_sem, Act.eval, d15]) ?_⟩
        refine (rr W).mono ?_
        rintro e W' ⟨rfl, hBe⟩
        exact ⟨_, rfl, hBe, rfl⟩
      · replace ho := op_at ho (by rfl)
        subst ho
        have d14 : a.tmps.getD 28 undef = (.int .i64 (ro)) := hd 14 (by kernel_rfl)
        have d16 : a.tmps.getD 30 undef = (.int .i64 (ro)) := hd 16 (by kernel_rfl)
        have d12 : a.tmps.getD 26 undef = (.bool false) := hd 12 (by kernel_rfl)
        refine .inl ⟨(fun j b h => by cases h; exact d12), FlowOp.pure _ (by simp [go_sem, Act.eval, d14, d16]) rfl⟩
      · replace ho := op_at ho (by rfl)
        subst ho
        have d12 : a.tmps.getD 26 undef = (.bool false) := hd 12 (by kernel_rfl)
        have d17 : a.tmps.getD 31 undef = (.bool false) := hd 17 (by kernel_rfl)
        refine .inl ⟨(fun j b h => by cases h), FlowOp.pure _ (by simp [go_sem, Act.eval, d12, d17]) rfl⟩
    · intro vs4 W4 hB4 hv
      have h0 : vs4 0 = (frV n d) := hv 0 (show 0 < 19 by decide)
      have h1 : vs4 1 = (.int .i64 (fl)) := hv 1 (show 1 < 19 by decide)
      have h2 : vs4 2 = (frV n d) := hv 2 (show 2 < 19 by decide)
      have h3 : vs4 3 = (.int .i64 (fl)) := hv 3 (show 3 < 19 by decide)
      have h4 : vs4 4 = (.bool false) := hv 4 (show 4 < 19 by decide)
      have h5 : vs4 5 = (.bool false) := hv 5 (show 5 < 19 by decide)
      have h6 : vs4 6 = (frV n d) := hv 6 (show 6 < 19 by decide)
      have h7 : vs4 7 = (.int .i64 (-fb)) := hv 7 (show 7 < 19 by decide)
      have h8 : vs4 8 = (frV n d) := hv 8 (show 8 < 19 by decide)
      have h9 : vs4 9 = (.int .i64 (-fb)) := hv 9 (show 9 < 19 by decide)
      have h10 : vs4 10 = (.bool false) := hv 10 (show 10 < 19 by decide)
      have h11 : vs4 11 = (.bool false) := hv 11 (show 11 < 19 by decide)
      have h12 : vs4 12 = (.bool false) := hv 12 (show 12 < 19 by decide)
      have h13 : vs4 13 = (frV n d) := hv 13 (show 13 < 19 by decide)
      have h14 : vs4 14 = (.int .i64 (ro)) := hv 14 (show 14 < 19 by decide)
      have h15 : vs4 15 = (frV n d) := hv 15 (show 15 < 19 by decide)
      have h16 : vs4 16 = (.int .i64 (ro)) := hv 16 (show 16 < 19 by decide)
      have h17 : vs4 17 = (.bool false) := hv 17 (show 17 < 19 by decide)
      have h18 : vs4 18 = (.bool false) := hv 18 (show 18 < 19 by decide)
      clear hv
      show (_ : Exit → Act → World → Prop) Exit.normal (puts _ vs4 19 _) W4
      simp only [puts, h0, h1, h2, h3, h4, h5, h6, h7, h8, h9, h10, h11, h12, h13, h14, h15, h16, h17, h18]
      clear h0 h1 h2 h3 h4 h5 h6 h7 h8 h9 h10 h11 h12 h13 h14 h15 h16 h17 h18
      replace L := Lib.hid (L.out.trans (hB4.mono L.out.size))
      replace kA := Lib.hid (stays kA.out hB4)
      replace kB := Lib.hid (stays kB.out hB4)
      clear hB4
      go_simp
      go_wp2_with (fail)
      refine wp_flow2 (by kernel_rfl) (by kernel_rfl) (fun i => if i = 39 then 2 else 33 + i) (by kernel_rfl) (by kernel_rfl) (by kernel_rfl) (fun i v W => ([(fun zv _ => zv = (frV n d)), (fun zv _ => zv = (.int .i64 (-fb))), (fun zv _ => zv = (frV (-n) d)), (fun zv _ => zv = (.int .i64 (fb))), (fun zv _ => zv = (.int .i64 (-fb))), (fun zv _ => zv = (.bool true)), (fun zv _ => zv = (.bool true)), (fun zv _ => zv = (frV (-n) d)), (fun zv _ => zv = (.int .i64 (-ro))), (fun zv _ => zv = (frV n d)), (fun zv _ => zv = (.int .i64 (ro))), (fun zv _ => zv = (.int .i64 (-ro))), (fun zv _ => zv = (.bool true)), (fun zv _ => zv = (.bool true)), (fun zv _ => zv = (.bool true)), (fun zv _ => zv = (frV n d)), (fun zv _ => zv = (.int .i64 (fl))), (fun zv _ => zv = (frV n d)), (fun zv _ => zv = (.int .i64 (ro))), (fun zv _ => zv = (.bool true)), (fun zv _ => zv = (.bool true)), (fun zv _ => zv = (.bool true)), (fun zv _ => zv = (frV n d)), (fun zv _ => zv = (.int .i64 (ro))), (fun zv _ => zv = (frV n d)), (fun zv _ => zv = (.int .i64 (-fb))), (fun zv _ => zv = (.bool true)), (fun zv _ => zv = (.bool true)), (fun zv _ => zv = (.bool true)), (fun zv _ => zv = (frV n d)), (fun zv _ => zv = (.int .i64 (-fb))), (fun zv _ => zv = (frV n d)), (fun zv _ => zv = (.int .i64 (fl))), (fun zv _ => zv = (.int .i64 (-fb - fl))), (fun zv _ => zv = (.bool true)), (fun zv _ => zv = (.bool true)), (fun zv _ => zv = (.bool true)), (fun zv _ => zv = (.bool true)), (fun zv _ => zv = (.bool true)), (fun zv _ => zv = (.bool true))] : List (Value → World → Prop)).getD i (fun _ _ => True) v W) ?_ ?_ (by kernel_rfl) ?_
      · intro i hi
        replace hi : i < 40 := hi
        rcases (show i = 0 ∨ i = 1 ∨ i = 2 ∨ i = 3 ∨ i = 4 ∨ i = 5 ∨ i = 6 ∨ i = 7 ∨ i = 8 ∨ i = 9 ∨ i = 10 ∨ i = 11 ∨ i = 12 ∨ i = 13 ∨ i = 14 ∨ i = 15 ∨ i = 16 ∨ i = 17 ∨ i = 18 ∨ i = 19 ∨ i = 20 ∨ i = 21 ∨ i = 22 ∨ i = 23 ∨ i = 24 ∨ i = 25 ∨ i = 26 ∨ i = 27 ∨ i = 28 ∨ i = 29 ∨ i = 30 ∨ i = 31 ∨ i = 32 ∨ i = 33 ∨ i = 34 ∨ i = 35 ∨ i = 36 ∨ i = 37 ∨ i = 38 ∨ i = 39 by omega) with rfl | rfl | rfl | rfl | rfl | rfl | rfl | rfl | rfl | rfl | rfl | rfl | rfl | rfl | rfl | rfl | rfl | rfl | rfl | rfl | rfl | rfl | rfl | rfl | rfl | rfl | rfl | rfl | rfl | rfl | rfl | rfl | rfl | rfl | rfl | rfl | rfl | rfl | rfl | rfl
        · exact Stays.eq _
        · exact Stays.eq _
        · exact Stays.eq _
        · exact Stays.eq _
        · exact Stays.eq _
        · exact Stays.eq _
        · exact Stays.eq _
        · exact Stays.eq _
        · exact Stays.eq _
        · exact Stays.eq _
        · exact Stays.eq _
        · exact Stays.eq _
        · exact Stays.eq _
        · exact Stays.eq _
        · exact Stays.eq _
        · exact Stays.eq _
        · exact Stays.eq _
        · exact Stays.eq _
        · exact Stays.eq _
        · exact Stays.eq _
        · exact Stays.eq _
        · exact Stays.eq _
        · exact Stays.eq _
        · exact Stays.eq _
        · exact Stays.eq _
        · exact Stays.eq _
        · exact Stays.eq _
        · exact Stays.eq _
        · exact Stays.eq _
        · exact Stays.eq _
        · exact Stays.eq _
        · exact Stays.eq _
        · exact Stays.eq _
        · exact Stays.eq _
        · exact Stays.eq _
        · exact Stays.eq _
        · exact Stays.eq _
        · exact Stays.eq _
        · exact Stays.eq _
        · exact Stays.eq _
      · intro i o a W hi ho hB hf hd
        replace hi : i < 40 := hi
        rcases (show i = 0 ∨ i = 1 ∨ i = 2 ∨ i = 3 ∨ i = 4 ∨ i = 5 ∨ i = 6 ∨ i = 7 ∨ i = 8 ∨ i = 9 ∨ i = 10 ∨ i = 11 ∨ i = 12 ∨ i = 13 ∨ i = 14 ∨ i = 15 ∨ i = 16 ∨ i = 17 ∨ i = 18 ∨ i = 19 ∨ i = 20 ∨ i = 21 ∨ i = 22 ∨ i = 23 ∨ i = 24 ∨ i = 25 ∨ i = 26 ∨ i = 27 ∨ i = 28 ∨ i = 29 ∨ i = 30 ∨ i = 31 ∨ i = 32 ∨ i = 33 ∨ i = 34 ∨ i = 35 ∨ i = 36 ∨ i = 37 ∨ i = 38 ∨ i = 39 by omega) with rfl | rfl | rfl | rfl | rfl | rfl | rfl | rfl | rfl | rfl | rfl | rfl | rfl | rfl | rfl | rfl | rfl | rfl | rfl | rfl | rfl | rfl | rfl | rfl | rfl | rfl | rfl | rfl | rfl | rfl | rfl | rfl | rfl | rfl | rfl | rfl | rfl | rfl | rfl | rfl
        · replace ho := op_at ho (by rfl)
          subst ho
          have f1 : a.tmps.getD 1 undef = (.pointer (some ⟨w.heap.size, 0, none⟩)) := hf 1 (by kernel_rfl)
          have kA := stays kA.out hB
          have c0 := frO_0 kA
          have c1 := frO_1 kA
          refine .inl ⟨(fun j b h => by cases h), FlowOp.pure _ (by simp [go_sem, Act.eval, f1, c0, c1]) rfl⟩
        · replace ho := op_at ho (by rfl)
          subst ho
          have d0 : a.tmps.getD 33 undef = (frV n d) := hd 0 (by kernel_rfl)
          refine .inl ⟨(fun j b h => by cases h), FlowOp.call 24 #[(frV n d)] (by simp [go_sem, Act.eval, d0]) ?_⟩
          refine (cc W).mono ?_
          rintro e W' ⟨rfl, hBe⟩
          exact ⟨_, rfl, hBe, rfl⟩
        · replace ho := op_at ho (by rfl)
          subst ho
          have f3 : a.tmps.getD 3 undef = (.pointer (some ⟨xB, 0, none⟩)) := hf 3 (by kernel_rfl)
          have kB := stays kB.out hB
          have c0 := frO_0 kB
          have c1 := frO_1 kB
          refine .inl ⟨(fun j b h => by cases h), FlowOp.pure _ (by simp [go_sem, Act.eval, f3, c0, c1]) rfl⟩
        · replace ho := op_at ho (by rfl)
          subst ho
          have d2 : a.tmps.getD 35 undef = (frV (-n) d) := hd 2 (by kernel_rfl)
          refine .inl ⟨(fun j b h => by cases h), FlowOp.call 22 #[(frV (-n) d)] (by simp [go_sem, Act.eval, d2]) ?_⟩
          refine (bf W).mono ?_
          rintro e W' ⟨rfl, hBe⟩
          exact ⟨_, rfl, hBe, rfl⟩
        · replace ho := op_at ho (by rfl)
          subst ho
          have d3 : a.tmps.getD 36 undef = (.int .i64 (fb)) := hd 3 (by kernel_rfl)
          refine .inl ⟨(fun j b h => by cases h), FlowOp.pure _ (by simp [go_sem, Act.eval, d3, wB1, wB2]) rfl⟩
        · replace ho := op_at ho (by rfl)
          subst ho
          have d1 : a.tmps.getD 34 undef = (.int .i64 (-fb)) := hd 1 (by kernel_rfl)
          have d4 : a.tmps.getD 37 undef = (.int .i64 (-fb)) := hd 4 (by kernel_rfl)
          refine .inl ⟨(fun j b h => by cases h), FlowOp.pure _ (by simp [go_sem, Act.eval, d1, d4]) rfl⟩
        · replace ho := op_at ho (by rfl)
          subst ho
          have d5 : a.tmps.getD 38 undef = (.bool true) := hd 5 (by kernel_rfl)
          refine .inl ⟨(fun j b h => by cases h), FlowOp.pure _ (by simp [go_sem, Act.eval, d5]) rfl⟩
        · replace ho := op_at ho (by rfl)
          subst ho
          have f3 : a.tmps.getD 3 undef = (.pointer (some ⟨xB, 0, none⟩)) := hf 3 (by kernel_rfl)
          have d6 : a.tmps.getD 39 undef = (.bool true) := hd 6 (by kernel_rfl)
          have kB := stays kB.out hB
          have c0 := frO_0 kB
          have c1 := frO_1 kB
          refine .inl ⟨(fun j b h => by cases h; exact d6), FlowOp.pure _ (by simp [go_sem, Act.eval, f3, c0, c1]) rfl⟩
        · replace ho := op_at ho (by rfl)
          subst ho
          have d7 : a.tmps.getD 40 undef = (frV (-n) d) := hd 7 (by kernel_rfl)
          have d6 : a.tmps.getD 39 undef = (.bool true) := hd 6 (by kernel_rfl)
          refine .inl ⟨(fun j b h => by cases h; exact d6), FlowOp.call 26 #[(frV (-n) d)] (by simp [go_sem, Act.eval, d7]) ?_⟩
          refine (br W).mono ?_
          rintro e W' ⟨rfl, hBe⟩
          exact ⟨_, rfl, hBe, rfl⟩
        · replace ho := op_at ho (by rfl)
          subst ho
          have f1 : a.tmps.getD 1 undef = (.pointer (some ⟨w.heap.size, 0, none⟩)) := hf 1 (by kernel_rfl)
          have d6 : a.tmps.getD 39 undef = (.bool true) := hd 6 (by kernel_rfl)
          have kA := stays kA.out hB
          have c0 := frO_0 kA
          have c1 := frO_1 kA
          refine .inl ⟨(fun j b h => by cases h; exact d6), FlowOp.pure _ (by simp [go_sem, Act.eval, f1, c0, c1]) rfl⟩
        · replace ho := op_at ho (by rfl)
          subst ho
          have d9 : a.tmps.getD 42 undef = (frV n d) := hd 9 (by kernel_rfl)
          have d6 : a.tmps.getD 39 undef = (.bool true) := hd 6 (by kernel_rfl)
          refine .inl ⟨(fun j b h => by cases h; exact d6), FlowOp.call 26 #[(frV n d)] (by simp [go_sem, Act.eval, d9]) ?_⟩
          refine (cr W).mono ?_
          rintro e W' ⟨rfl, hBe⟩
          exact ⟨_, rfl, hBe, rfl⟩
        · replace ho := op_at ho (by rfl)
          subst ho
          have d10 : a.tmps.getD 43 undef = (.int .i64 (ro)) := hd 10 (by kernel_rfl)
          have d6 : a.tmps.getD 39 undef = (.bool true) := hd 6 (by kernel_rfl)
          refine .inl ⟨(fun j b h => by cases h; exact d6), FlowOp.pure _ (by simp [go_sem, Act.eval, d10, wR1, wR2]) rfl⟩
        · replace ho := op_at ho (by rfl)
          subst ho
          have d8 : a.tmps.getD 41 undef = (.int .i64 (-ro)) := hd 8 (by kernel_rfl)
          have d11 : a.tmps.getD 44 undef = (.int .i64 (-ro)) := hd 11 (by kernel_rfl)
          have d6 : a.tmps.getD 39 undef = (.bool true) := hd 6 (by kernel_rfl)
          refine .inl ⟨(fun j b h => by cases h; exact d6), FlowOp.pure _ (by simp [go_sem, Act.eval, d8, d11]) rfl⟩
        · replace ho := op_at ho (by rfl)
          subst ho
          have d6 : a.tmps.getD 39 undef = (.bool true) := hd 6 (by kernel_rfl)
          have d12 : a.tmps.getD 45 undef = (.bool true) := hd 12 (by kernel_rfl)
          refine .inl ⟨(fun j b h => by cases h), FlowOp.pure _ (by simp [go_sem, Act.eval, d6, d12]) rfl⟩
        · replace ho := op_at ho (by rfl)
          subst ho
          have d13 : a.tmps.getD 46 undef = (.bool true) := hd 13 (by kernel_rfl)
          refine .inl ⟨(fun j b h => by cases h), FlowOp.pure _ (by simp [go_sem, Act.eval, d13]) rfl⟩
        · replace ho := op_at ho (by rfl)
          subst ho
          have f1 : a.tmps.getD 1 undef = (.pointer (some ⟨w.heap.size, 0, none⟩)) := hf 1 (by kernel_rfl)
          have d14 : a.tmps.getD 47 undef = (.bool true) := hd 14 (by kernel_rfl)
          have kA := stays kA.out hB
          have c0 := frO_0 kA
          have c1 := frO_1 kA
          refine .inl ⟨(fun j b h => by cases h; exact d14), FlowOp.pure _ (by simp [go_sem, Act.eval, f1, c0, c1]) rfl⟩
        · replace ho := op_at ho (by rfl)
          subst ho
          have d15 : a.tmps.getD 48 undef = (frV n d) := hd 15 (by kernel_rfl)
          have d14 : a.tmps.getD 47 undef = (.bool true) := hd 14 (by kernel_rfl)
          refine .inl ⟨(fun j b h => by cases h; exact d14), FlowOp.call 22 #[(frV n d)] (by simp [go_sem, Act.eval, d15]) ?_⟩
          refine (cf W).mono ?_
          rintro e W' ⟨rfl, hBe⟩
          exact ⟨_, rfl, hBe, rfl⟩
        · replace ho := op_at ho (by rfl)
          subst ho
          have f1 : a.tmps.getD 1 undef = (.pointer (some ⟨w.heap.size, 0, none⟩)) := hf 1 (by kernel_rfl)
          have d14 : a.tmps.getD 47 undef = (.bool true) := hd 14 (by kernel_rfl)
          have kA := stays kA.out hB
          have c0 := frO_0 kA
          have c1 := frO_1 kA
          refine .inl ⟨(fun j b h => by cases h; exact d14), FlowOp.pure _ (by simp [go_sem, Act.eval, f1, c0, c1]) rfl⟩
        · replace ho := op_at ho (by rfl)
          subst ho
          have d17 : a.tmps.getD 50 undef = (frV n d) := hd 17 (by kernel_rfl)
          have d14 : a.tmps.getD 47 undef = (.bool true) := hd 14 (by kernel_rfl)
          refine .inl ⟨(fun j b h => by cases h; exact d14), FlowOp.call 26 #[(frV n d)] (by simp [go_sem, Act.eval, d17]) ?_⟩
          refine (cr W).mono ?_
          rintro e W' ⟨rfl, hBe⟩
          exact ⟨_, rfl, hBe, rfl⟩
        · replace ho := op_at ho (by rfl)
          subst ho
          have d16 : a.tmps.getD 49 undef = (.int .i64 (fl)) := hd 16 (by kernel_rfl)
          have d18 : a.tmps.getD 51 undef = (.int .i64 (ro)) := hd 18 (by kernel_rfl)
          have d14 : a.tmps.getD 47 undef = (.bool true) := hd 14 (by kernel_rfl)
          refine .inl ⟨(fun j b h => by cases h; exact d14), FlowOp.pure _ (by simp [go_sem, Act.eval, d16, d18, r1]) rfl⟩
        · replace ho := op_at ho (by rfl)
          subst ho
          have d14 : a.tmps.getD 47 undef = (.bool true) := hd 14 (by kernel_rfl)
          have d19 : a.tmps.getD 52 undef = (.bool true) := hd 19 (by kernel_rfl)
          refine .inl ⟨(fun j b h => by cases h), FlowOp.pure _ (by simp [go_sem, Act.eval, d14, d19]) rfl⟩
        · replace ho := op_at ho (by rfl)
          subst ho
          have d20 : a.tmps.getD 53 undef = (.bool true) := hd 20 (by kernel_rfl)
          refine .inl ⟨(fun j b h => by cases h), FlowOp.pure _ (by simp [go_sem, Act.eval, d20]) rfl⟩
        · replace ho := op_at ho (by rfl)
          subst ho
          have f1 : a.tmps.getD 1 undef = (.pointer (some ⟨w.heap.size, 0, none⟩)) := hf 1 (by kernel_rfl)
          have d21 : a.tmps.getD 54 undef = (.bool true) := hd 21 (by kernel_rfl)
          have kA := stays kA.out hB
          have c0 := frO_0 kA
          have c1 := frO_1 kA
          refine .inl ⟨(fun j b h => by cases h; exact d21), FlowOp.pure _ (by simp [go_sem, Act.eval, f1, c0, c1]) rfl⟩
        · replace ho := op_at ho (by rfl)
          subst ho
          have d22 : a.tmps.getD 55 undef = (frV n d) := hd 22 (by kernel_rfl)
          have d21 : a.tmps.getD 54 undef = (.bool true) := hd 21 (by kernel_rfl)
          refine .inl ⟨(fun j b h => by cases h; exact d21), FlowOp.call 26 #[(frV n d)] (by simp [go_sem, Act.eval, d22]) ?_⟩
          refine (cr W).mono ?_
          rintro e W' ⟨rfl, hBe⟩
          exact ⟨_, rfl, hBe, rfl⟩
        · replace ho := op_at ho (by rfl)
          subst ho
          have f1 : a.tmps.getD 1 undef = (.pointer (some ⟨w.heap.size, 0, none⟩)) := hf 1 (by kernel_rfl)
          have d21 : a.tmps.getD 54 undef = (.bool true) := hd 21 (by kernel_rfl)
          have kA := stays kA.out hB
          have c0 := frO_0 kA
          have c1 := frO_1 kA
          refine .inl ⟨(fun j b h => by cases h; exact d21), FlowOp.pure _ (by simp [go_sem, Act.eval, f1, c0, c1]) rfl⟩
        · replace ho := op_at ho (by rfl)
          subst ho
          have d24 : a.tmps.getD 57 undef = (frV n d) := hd 24 (by kernel_rfl)
          have d21 : a.tmps.getD 54 undef = (.bool true) := hd 21 (by kernel_rfl)
          refine .inl ⟨(fun j b h => by cases h; exact d21), FlowOp.call 24 #[(frV n d)] (by simp [go_sem, Act.eval, d24]) ?_⟩
          refine (cc W).mono ?_
          rintro e W' ⟨rfl, hBe⟩
          exact ⟨_, rfl, hBe, rfl⟩
        · replace ho := op_at ho (by rfl)
          subst ho
          have d23 : a.tmps.getD 56 undef = (.int .i64 (ro)) := hd 23 (by kernel_rfl)
          have d25 : a.tmps.getD 58 undef = (.int .i64 (-fb)) := hd 25 (by kernel_rfl)
          have d21 : a.tmps.getD 54 undef = (.bool true) := hd 21 (by kernel_rfl)
          refine .inl ⟨(fun j b h => by cases h; exact d21), FlowOp.pure _ (by simp [go_sem, Act.eval, d23, d25, r2]) rfl⟩
        · replace ho := op_at ho (by rfl)
          subst ho
          have d21 : a.tmps.getD 54 undef = (.bool true) := hd 21 (by kernel_rfl)
          have d26 : a.tmps.getD 59 undef = (.bool true) := hd 26 (by kernel_rfl)
          refine .inl ⟨(fun j b h => by cases h), FlowOp.pure _ (by simp [go_sem, Act.eval, d21, d26]) rfl⟩
        · replace ho := op_at ho (by rfl)
          subst ho
          have d27 : a.tmps.getD 60 undef = (.bool true) := hd 27 (by kernel_rfl)
          refine .inl ⟨(fun j b h => by cases h), FlowOp.pure _ (by simp [go_sem, Act.eval, d27]) rfl⟩
        · replace ho := op_at ho (by rfl)
          subst ho
          have f1 : a.tmps.getD 1 undef = (.pointer (some ⟨w.heap.size, 0, none⟩)) := hf 1 (by kernel_rfl)
          have d28 : a.tmps.getD 61 undef = (.bool true) := hd 28 (by kernel_rfl)
          have kA := stays kA.out hB
          have c0 := frO_0 kA
          have c1 := frO_1 kA
          refine .inl ⟨(fun j b h => by cases h; exact d28), FlowOp.pure _ (by simp [go_sem, Act.eval, f1, c0, c1]) rfl⟩
        · replace ho := op_at ho (by rfl)
          subst ho
          have d29 : a.tmps.getD 62 undef = (frV n d) := hd 29 (by kernel_rfl)
          have d28 : a.tmps.getD 61 undef = (.bool true) := hd 28 (by kernel_rfl)
          refine .inl ⟨(fun j b h => by cases h; exact d28), FlowOp.call 24 #[(frV n d)] (by simp [go_sem, Act.eval, d29]) ?_⟩
          refine (cc W).mono ?_
          rintro e W' ⟨rfl, hBe⟩
          exact ⟨_, rfl, hBe, rfl⟩
        · replace ho := op_at ho (by rfl)
          subst ho
          have f1 : a.tmps.getD 1 undef = (.pointer (some ⟨w.heap.size, 0, none⟩)) := hf 1 (by kernel_rfl)
          have d28 : a.tmps.getD 61 undef = (.bool true) := hd 28 (by kernel_rfl)
          have kA := stays kA.out hB
          have c0 := frO_0 kA
          have c1 := frO_1 kA
          refine .inl ⟨(fun j b h => by cases h; exact d28), FlowOp.pure _ (by simp [go_sem, Act.eval, f1, c0, c1]) rfl⟩
        · replace ho := op_at ho (by rfl)
          subst ho
          have d31 : a.tmps.getD 64 undef = (frV n d) := hd 31 (by kernel_rfl)
          have d28 : a.tmps.getD 61 undef = (.bool true) := hd 28 (by kernel_rfl)
          refine .inl ⟨(fun j b h => by cases h; exact d28), FlowOp.call 22 #[(frV n d)] (by simp [go_sem, Act.eval, d31]) ?_⟩
          refine (cf W).mono ?_
          rintro e W' ⟨rfl, hBe⟩
          exact ⟨_, rfl, hBe, rfl⟩
        · replace ho := op_at ho (by rfl)
          subst ho
          have d30 : a.tmps.getD 63 undef = (.int .i64 (-fb)) := hd 30 (by kernel_rfl)
          have d32 : a.tmps.getD 65 undef = (.int .i64 (fl)) := hd 32 (by kernel_rfl)
          have d28 : a.tmps.getD 61 undef = (.bool true) := hd 28 (by kernel_rfl)
          refine .inl ⟨(fun j b h => by cases h; exact d28), FlowOp.pure _ (by simp [go_sem, Act.eval, d30, d32, wD1, wD2]) rfl⟩
        · replace ho := op_at ho (by rfl)
          subst ho
          have d33 : a.tmps.getD 66 undef = (.int .i64 (-fb - fl)) := hd 33 (by kernel_rfl)
          have d28 : a.tmps.getD 61 undef = (.bool true) := hd 28 (by kernel_rfl)
          refine .inl ⟨(fun j b h => by cases h; exact d28), FlowOp.pure _ (by simp [go_sem, Act.eval, d33, r4]) rfl⟩
        · replace ho := op_at ho (by rfl)
          subst ho
          have d28 : a.tmps.getD 61 undef = (.bool true) := hd 28 (by kernel_rfl)
          have d34 : a.tmps.getD 67 undef = (.bool true) := hd 34 (by kernel_rfl)
          refine .inl ⟨(fun j b h => by cases h), FlowOp.pure _ (by simp [go_sem, Act.eval, d28, d34]) rfl⟩
        · replace ho := op_at ho (by rfl)
          subst ho
          have d35 : a.tmps.getD 68 undef = (.bool true) := hd 35 (by kernel_rfl)
          refine .inl ⟨(fun j b h => by cases h), FlowOp.pure _ (by simp [go_sem, Act.eval, d35]) rfl⟩
        · replace ho := op_at ho (by rfl)
          subst ho
          have d36 : a.tmps.getD 69 undef = (.bool true) := hd 36 (by kernel_rfl)
          refine .inl ⟨(fun j b h => by cases h; exact d36), FlowOp.call 16 #[] (by simp [go_sem, Act.eval]) ?_⟩
          refine (awake_any W (ht.below (L.out.trans (hB.mono L.out.size)))).mono ?_
          rintro e W' ⟨rfl, hBe⟩
          exact ⟨_, rfl, hBe, rfl⟩
        · replace ho := op_at ho (by rfl)
          subst ho
          have d36 : a.tmps.getD 69 undef = (.bool true) := hd 36 (by kernel_rfl)
          have d37 : a.tmps.getD 70 undef = (.bool true) := hd 37 (by kernel_rfl)
          refine .inl ⟨(fun j b h => by cases h), FlowOp.pure _ (by simp [go_sem, Act.eval, d36, d37]) rfl⟩
        · replace ho := op_at ho (by rfl)
          subst ho
          have d38 : a.tmps.getD 71 undef = (.bool true) := hd 38 (by kernel_rfl)
          refine .inl ⟨(fun j b h => by cases h), FlowOp.pure _ (by simp [go_sem, Act.eval, d38]) rfl⟩
      · intro vs6 W6 hB6 hv
        have h0 : vs6 0 = (frV n d) := hv 0 (show 0 < 40 by decide)
        have h1 : vs6 1 = (.int .i64 (-fb)) := hv 1 (show 1 < 40 by decide)
        have h2 : vs6 2 = (frV (-n) d) := hv 2 (show 2 < 40 by decide)
        have h3 : vs6 3 = (.int .i64 (fb)) := hv 3 (show 3 < 40 by decide)
        have h4 : vs6 4 = (.int .i64 (-fb)) := hv 4 (show 4 < 40 by decide)
        have h5 : vs6 5 = (.bool true) := hv 5 (show 5 < 40 by decide)
        have h6 : vs6 6 = (.bool true) := hv 6 (show 6 < 40 by decide)
        have h7 : vs6 7 = (frV (-n) d) := hv 7 (show 7 < 40 by decide)
        have h8 : vs6 8 = (.int .i64 (-ro)) := hv 8 (show 8 < 40 by decide)
        have h9 : vs6 9 = (frV n d) := hv 9 (show 9 < 40 by decide)
        have h10 : vs6 10 = (.int .i64 (ro)) := hv 10 (show 10 < 40 by decide)
        have h11 : vs6 11 = (.int .i64 (-ro)) := hv 11 (show 11 < 40 by decide)
        have h12 : vs6 12 = (.bool true) := hv 12 (show 12 < 40 by decide)
        have h13 : vs6 13 = (.bool true) := hv 13 (show 13 < 40 by decide)
        have h14 : vs6 14 = (.bool true) := hv 14 (show 14 < 40 by decide)
        have h15 : vs6 15 = (frV n d) := hv 15 (show 15 < 40 by decide)
        have h16 : vs6 16 = (.int .i64 (fl)) := hv 16 (show 16 < 40 by decide)
        have h17 : vs6 17 = (frV n d) := hv 17 (show 17 < 40 by decide)
        have h18 : vs6 18 = (.int .i64 (ro)) := hv 18 (show 18 < 40 by decide)
        have h19 : vs6 19 = (.bool true) := hv 19 (show 19 < 40 by decide)
        have h20 : vs6 20 = (.bool true) := hv 20 (show 20 < 40 by decide)
        have h21 : vs6 21 = (.bool true) := hv 21 (show 21 < 40 by decide)
        have h22 : vs6 22 = (frV n d) := hv 22 (show 22 < 40 by decide)
        have h23 : vs6 23 = (.int .i64 (ro)) := hv 23 (show 23 < 40 by decide)
        have h24 : vs6 24 = (frV n d) := hv 24 (show 24 < 40 by decide)
        have h25 : vs6 25 = (.int .i64 (-fb)) := hv 25 (show 25 < 40 by decide)
        have h26 : vs6 26 = (.bool true) := hv 26 (show 26 < 40 by decide)
        have h27 : vs6 27 = (.bool true) := hv 27 (show 27 < 40 by decide)
        have h28 : vs6 28 = (.bool true) := hv 28 (show 28 < 40 by decide)
        have h29 : vs6 29 = (frV n d) := hv 29 (show 29 < 40 by decide)
        have h30 : vs6 30 = (.int .i64 (-fb)) := hv 30 (show 30 < 40 by decide)
        have h31 : vs6 31 = (frV n d) := hv 31 (show 31 < 40 by decide)
        have h32 : vs6 32 = (.int .i64 (fl)) := hv 32 (show 32 < 40 by decide)
        have h33 : vs6 33 = (.int .i64 (-fb - fl)) := hv 33 (show 33 < 40 by decide)
        have h34 : vs6 34 = (.bool true) := hv 34 (show 34 < 40 by decide)
        have h35 : vs6 35 = (.bool true) := hv 35 (show 35 < 40 by decide)
        have h36 : vs6 36 = (.bool true) := hv 36 (show 36 < 40 by decide)
        have h37 : vs6 37 = (.bool true) := hv 37 (show 37 < 40 by decide)
        have h38 : vs6 38 = (.bool true) := hv 38 (show 38 < 40 by decide)
        have h39 : vs6 39 = (.bool true) := hv 39 (show 39 < 40 by decide)
        clear hv
        show (_ : Exit → Act → World → Prop) Exit.normal (puts _ vs6 40 _) W6
        simp only [puts, h0, h1, h2, h3, h4, h5, h6, h7, h8, h9, h10, h11, h12, h13, h14, h15, h16, h17, h18, h19, h20, h21, h22, h23, h24, h25, h26, h27, h28, h29, h30, h31, h32, h33, h34, h35, h36, h37, h38, h39]
        clear h0 h1 h2 h3 h4 h5 h6 h7 h8 h9 h10 h11 h12 h13 h14 h15 h16 h17 h18 h19 h20 h21 h22 h23 h24 h25 h26 h27 h28 h29 h30 h31 h32 h33 h34 h35 h36 h37 h38 h39
        go_simp
        go_wp2
        go_ret
        exact ⟨rfl, L.out.trans (hB6.mono L.out.size)⟩
  · have e0 : valB n d = false := by rw [valB, decide_eq_false_iff_not]; exact q0
    rw [e0] at v0
    clear e0
    obtain ⟨g0, kA⟩ := enter1 w n d
    have L := Lib.hid g0
    replace kA := Lib.hid kA
    clear g0
    have A0 := frO_0 kA.out
    have A1 := frO_1 kA.out
    go_enter Tryd.func7, Tryd.ntmps7
    go_wp2_with (fail)
    refine (v0 _).mono ?_
    rintro e w1 ⟨rfl, hB⟩
    replace L := Lib.hid (L.out.trans (hB.mono L.out.size))
    replace kA := Lib.hid (stays kA.out hB)
    clear hB A0 A1
    have A0 := frO_0 kA.out
    have A1 := frO_1 kA.out
    go_wp2_with (fail)
    refine (awake_any _ (ht.below L.out)).mono ?_
    rintro e w2 ⟨rfl, hB⟩
    replace L := Lib.hid (L.out.trans (hB.mono L.out.size))
    replace kA := Lib.hid (stays kA.out hB)
    clear hB A0 A1
    have A0 := frO_0 kA.out
    have A1 := frO_1 kA.out
    go_wp2
    go_ret
    exact ⟨rfl, L.out⟩

end Go.Proofs.YtckedklopgnloaaDoor
