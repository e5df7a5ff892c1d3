/- The law CodeWrites, walked (by program: wip/tools/gen_writes.py). -/
import Derived.Test.YtmekpmboghmfpaaCodeNumW
import Derived.Test.YtmekpmboghmfpaaCodeAwake
import Derived.Test.YtmekpmboghmfpaaFlow
namespace Go.Proofs.Ytmekpmboghmfpaa
open Go.RowKit

theorem Stays.bts (l : List UInt8) : Stays (fun v W => Bts W W.heap.size v l) := fun _ _ _ h hb => h.below hb hb.size

set_option maxRecDepth 100000 in
set_option maxHeartbeats 8000000 in
theorem law_CodeWrites (v : Value) (l : List UInt8) (x : Nat) (y : Int) (ts : List UInt8) (is_ : Bool) (w : World) (hb : Bts w w.heap.size v l) (hl : l.length ≤ 1000000000) (hx : x < 18446744073709551616) (hy0 : -9223372036854775808 ≤ y) (hy1 : y < 9223372036854775808) (ht : ts.length ≤ 1000000000) :
    Calls Try.prog 5 #[v, .int .u64 (x : Int), .int .i64 y, .string ⟨ts.toArray⟩, .bool is_] w fun e w' => e = .returned (.bool true) ∧ Below w.heap.size w w' := by
  obtain ⟨ao, cap, hv, hcapl, _⟩ := id hb
  subst hv
  have HBB := Lib.hid hb
  go_enter Try.func5, Try.ntmps5
  go_wp2_with (at_builtin; (refine wpList_append_bts rfl _ _ rfl w.heap.size _ [] rfl (Own.nil _ _) (.slice ao l.length cap) l w.heap.size rfl HBB.out (by simp; omega) (Nat.le_refl _) ?_))
  intro v1 w1 hown1 hg1 _
  have hB1 := ((Below.refl w.heap.size w).grown hg1 (Nat.le_refl _) (fun k hk => by cases hk))
  have hO1 : Own (w1.alloc (.cells #[.int .u8 77] 5)) w.heap.size v1 l := hown1.alloc _
  have hsz := hB1.size
  clear hown1 hg1
  go_wp2_with (at_builtin; (refine wpList_append_bts rfl _ _ rfl w.heap.size _ l rfl hO1 _ [77] (w1.heap.size + 1) rfl ((Bts.lit _ w1.heap.size _ 5 (0, 0) [77] 1 1 (heap_alloc_new w1 _) rfl (by omega) (by decide) (lit1 77)).mono (by simp)) (by simp; omega) (by simp; omega) ?_))
  intro v2 w2 hown2 hg2 _
  have hB2 : Below w.heap.size w w2 := (hB1.alloc (by omega) _).grown hg2 (by simp; omega) (fun j hj => (hO1.lt j hj).1)
  obtain ⟨ao2, cap2, hv2, hcap2, _, _, hx2⟩ := id hown2.bts
  obtain ⟨g, off, rfl, hg, hcell⟩ := hx2 (by simp)
  rw [show (l ++ [(77 : UInt8)]).length = l.length + 1 from by simp] at hv2 hcap2
  subst hv2
  have hc77' := hcell l.length (by simp)
  rw [show (l ++ [(77 : UInt8)]).getD l.length 0 = 77 from by simp [List.getD]] at hc77'
  clear hO1 hg2 hsz hB1 hcell hx2
  obtain ⟨vc, hcb0, hcut0⟩ := (hown2.bts).toB l.length (by simp)
  rw [List.take_left] at hcb0
  have hcut : ∀ W, (Instr.slice 22 (.slice (some ⟨g, off, none⟩) (l.length + 1) cap2) none (some (.int .i64 (l.length : Int))) none).run Try.prog W = .ok vc W := fun W => hcut0 W .i64
  have hcb2 : ∀ W, Below w2.heap.size w2 W → Bts W W.heap.size vc l := fun W h => hcb0.below h h.size
  have hvb2 : ∀ W, Below w2.heap.size w2 W → Bts W W.heap.size (.slice ao l.length cap) l := fun W h => (HBB.out.below hB2 hB2.size).below h h.size
  have hc77 : ∀ W, Below w2.heap.size w2 W → W.cell? ⟨g, off + l.length, none⟩ = some (.int .u8 77) := fun W h => (h.cell hg).trans hc77'
  have HR := Lib.hid (And.intro hcut (And.intro hcb2 (And.intro hvb2 hc77)))
  clear hcb0 hcut0 hcut hcb2 hvb2 hc77 hc77'
  go_wp2_with fail
  obtain ⟨hcut, hcb0, hvb0, hc770⟩ := HR.out
  have hcb : ∀ W, Below w2.heap.size w2 W → Bts W W.heap.size vc l := fun W h => hcb0 W h
  have hvb : ∀ W, Below w2.heap.size w2 W → Bts W W.heap.size (.slice ao l.length cap) l := fun W h => hvb0 W h
  have hc77 : ∀ W, Below w2.heap.size w2 W → W.cell? ⟨g, off + l.length, none⟩ = some (.int .u8 77) := fun W h => hc770 W h
  clear hcb0 hvb0 hc770
  refine wp_flow (by kernel_rfl) (by kernel_rfl) (fun i => 18 + i) (by kernel_rfl) (by kernel_rfl) (by kernel_rfl) (fun i v W => ([(fun zv _ => zv = (.slice (some ⟨g, off, none⟩) (l.length + 1) cap2)), (fun zv _ => zv = (.slice ao l.length cap)), (fun zv _ => zv = (.int .i64 (l.length : Int))), (fun zv _ => zv = vc), (fun zv _ => zv = (.int .u64 (x : Int))), (fun zv zw => Bts zw zw.heap.size zv (l ++ vint x)), (fun zv _ => zv = (.string ⟨(l ++ vint x).toArray⟩)), (fun zv _ => zv = (.slice ao l.length cap)), (fun zv _ => zv = (.int .u64 (x : Int))), (fun zv zw => Bts zw zw.heap.size zv (l ++ vint x)), (fun zv _ => zv = (.string ⟨(l ++ vint x).toArray⟩)), (fun zv _ => zv = (.bool false)), (fun zv _ => zv = (.bool false)), (fun zv _ => zv = (.slice (some ⟨g, off, none⟩) (l.length + 1) cap2)), (fun zv _ => zv = (.slice ao l.length cap)), (fun zv _ => zv = (.int .i64 (l.length : Int))), (fun zv _ => zv = vc), (fun zv _ => zv = (.int .i64 y)), (fun zv zw => Bts zw zw.heap.size zv (l ++ vint (zig y))), (fun zv _ => zv = (.string ⟨(l ++ vint (zig y)).toArray⟩)), (fun zv _ => zv = (.slice ao l.length cap)), (fun zv _ => zv = (.int .i64 y)), (fun zv zw => Bts zw zw.heap.size zv (l ++ vint (zig y))), (fun zv _ => zv = (.string ⟨(l ++ vint (zig y)).toArray⟩)), (fun zv _ => zv = (.bool false)), (fun zv _ => zv = (.bool false))] : List (Value → World → Prop)).getD i (fun _ _ => True) v W) ?_ ?_ (by kernel_rfl) ?_
  · intro i hi
    replace hi : i < 26 := hi
    rcases (show i = 0 ∨ i = 1 ∨ i = 2 ∨ i = 3 ∨ i = 4 ∨ i = 5 ∨ i = 6 ∨ i = 7 ∨ i = 8 ∨ i = 9 ∨ i = 10 ∨ i = 11 ∨ i = 12 ∨ i = 13 ∨ i = 14 ∨ i = 15 ∨ i = 16 ∨ i = 17 ∨ i = 18 ∨ i = 19 ∨ i = 20 ∨ i = 21 ∨ i = 22 ∨ i = 23 ∨ i = 24 ∨ i = 25 by omega) with rfl | rfl | rfl | rfl | rfl | rfl | rfl | rfl | rfl | rfl | rfl | rfl | rfl | rfl | rfl | rfl | rfl | rfl | rfl | rfl | rfl | rfl | rfl | rfl | rfl | rfl
    · exact Stays.eq _
    · exact Stays.eq _
    · exact Stays.eq _
    · exact Stays.eq _
    · exact Stays.eq _
    · exact Stays.bts _
    · exact Stays.eq _
    · exact Stays.eq _
    · exact Stays.eq _
    · exact Stays.bts _
    · exact Stays.eq _
    · exact Stays.eq _
    · exact Stays.eq _
    · exact Stays.eq _
    · exact Stays.eq _
    · exact Stays.eq _
    · exact Stays.eq _
    · exact Stays.eq _
    · exact Stays.bts _
    · exact Stays.eq _
    · exact Stays.eq _
    · exact Stays.eq _
    · exact Stays.bts _
    · exact Stays.eq _
    · exact Stays.eq _
    · exact Stays.eq _
  · intro i o a W hi ho hB hf hd
    replace hi : i < 26 := hi
    rcases (show i = 0 ∨ i = 1 ∨ i = 2 ∨ i = 3 ∨ i = 4 ∨ i = 5 ∨ i = 6 ∨ i = 7 ∨ i = 8 ∨ i = 9 ∨ i = 10 ∨ i = 11 ∨ i = 12 ∨ i = 13 ∨ i = 14 ∨ i = 15 ∨ i = 16 ∨ i = 17 ∨ i = 18 ∨ i = 19 ∨ i = 20 ∨ i = 21 ∨ i = 22 ∨ i = 23 ∨ i = 24 ∨ i = 25 by omega) with rfl | rfl | rfl | rfl | rfl | rfl | rfl | rfl | rfl | rfl | rfl | rfl | rfl | rfl | rfl | rfl | rfl | rfl | rfl | rfl | rfl | rfl | rfl | rfl | rfl | rfl
    · replace ho := op_at ho (by rfl)
      subst ho
      have f11 : a.tmps.getD 11 undef = (.slice (some ⟨g, off, none⟩) (l.length + 1) cap2) := hf 11 (by kernel_rfl)
      refine ⟨(fun j b h => by cases h), FlowOp.pure _ (by simp [go_sem, Act.eval, f11]) rfl⟩
    · replace ho := op_at ho (by rfl)
      subst ho
      have f0 : a.tmps.getD 0 undef = (.slice ao l.length cap) := hf 0 (by kernel_rfl)
      refine ⟨(fun j b h => by cases h), FlowOp.pure _ (by simp [go_sem, Act.eval, f0]) rfl⟩
    · replace ho := op_at ho (by rfl)
      subst ho
      have d1 : a.tmps.getD 19 undef = (.slice ao l.length cap) := hd 1 (by kernel_rfl)
      refine ⟨(fun j b h => by cases h), FlowOp.pure _ (by simp [go_sem, Act.eval, d1]) rfl⟩
    · replace ho := op_at ho (by rfl)
      subst ho
      have d0 : a.tmps.getD 18 undef = (.slice (some ⟨g, off, none⟩) (l.length + 1) cap2) := hd 0 (by kernel_rfl)
      have d2 : a.tmps.getD 20 undef = (.int .i64 (l.length : Int)) := hd 2 (by kernel_rfl)
      refine ⟨(fun j b h => by cases h), FlowOp.pure _ (by simp [go_sem, Act.eval, d0, d2, hcut]) rfl⟩
    · replace ho := op_at ho (by rfl)
      subst ho
      have f1 : a.tmps.getD 1 undef = (.int .u64 (x : Int)) := hf 1 (by kernel_rfl)
      refine ⟨(fun j b h => by cases h), FlowOp.pure _ (by simp [go_sem, Act.eval, f1]) rfl⟩
    · replace ho := op_at ho (by rfl)
      subst ho
      have d3 : a.tmps.getD 21 undef = vc := hd 3 (by kernel_rfl)
      have d4 : a.tmps.getD 22 undef = (.int .u64 (x : Int)) := hd 4 (by kernel_rfl)
      refine ⟨(fun j b h => by cases h), FlowOp.call 11 #[vc, (.int .u64 (x : Int))] (by simp [go_sem, Act.eval, d3, d4]) ?_⟩
      refine (code_Number vc l x W hx (hcb W hB) (by omega)).mono ?_
      rintro e W' ⟨u, rfl, hO, hBe⟩
      exact ⟨u, rfl, hBe, hO.bts⟩
    · replace ho := op_at ho (by rfl)
      subst ho
      have d5 : (fun zv zw => Bts zw zw.heap.size zv (l ++ vint x)) (a.tmps.getD 23 undef) W := hd 5 (by kernel_rfl)
      obtain ⟨x5, e5⟩ : ∃ x, a.tmps.getD 23 undef = x := ⟨_, rfl⟩
      rw [e5] at d5
      refine ⟨(fun j b h => by cases h), FlowOp.pure _ (by have h := d5.strB; simp [go_sem, Act.eval, h, e5]) rfl⟩
    · replace ho := op_at ho (by rfl)
      subst ho
      have f0 : a.tmps.getD 0 undef = (.slice ao l.length cap) := hf 0 (by kernel_rfl)
      refine ⟨(fun j b h => by cases h), FlowOp.pure _ (by simp [go_sem, Act.eval, f0]) rfl⟩
    · replace ho := op_at ho (by rfl)
      subst ho
      have f1 : a.tmps.getD 1 undef = (.int .u64 (x : Int)) := hf 1 (by kernel_rfl)
      refine ⟨(fun j b h => by cases h), FlowOp.pure _ (by simp [go_sem, Act.eval, f1]) rfl⟩
    · replace ho := op_at ho (by rfl)
      subst ho
      have d7 : a.tmps.getD 25 undef = (.slice ao l.length cap) := hd 7 (by kernel_rfl)
      have d8 : a.tmps.getD 26 undef = (.int .u64 (x : Int)) := hd 8 (by kernel_rfl)
      refine ⟨(fun j b h => by cases h), FlowOp.call 12 #[(.slice ao l.length cap), (.int .u64 (x : Int))] (by simp [go_sem, Act.eval, d7, d8]) ?_⟩
      refine (ref_Number (.slice ao l.length cap) l x W hx (hvb W hB) (by omega)).mono ?_
      rintro e W' ⟨u, rfl, hO, hBe⟩
      exact ⟨u, rfl, hBe, hO.bts⟩
    · replace ho := op_at ho (by rfl)
      subst ho
      have d9 : (fun zv zw => Bts zw zw.heap.size zv (l ++ vint x)) (a.tmps.getD 27 undef) W := hd 9 (by kernel_rfl)
      obtain ⟨x9, e9⟩ : ∃ x, a.tmps.getD 27 undef = x := ⟨_, rfl⟩
      rw [e9] at d9
      refine ⟨(fun j b h => by cases h), FlowOp.pure _ (by have h := d9.strB; simp [go_sem, Act.eval, h, e9]) rfl⟩
    · replace ho := op_at ho (by rfl)
      subst ho
      have d6 : a.tmps.getD 24 undef = (.string ⟨(l ++ vint x).toArray⟩) := hd 6 (by kernel_rfl)
      have d10 : a.tmps.getD 28 undef = (.string ⟨(l ++ vint x).toArray⟩) := hd 10 (by kernel_rfl)
      refine ⟨(fun j b h => by cases h), FlowOp.pure _ (by simp [go_sem, Act.eval, d6, d10]) rfl⟩
    · replace ho := op_at ho (by rfl)
      subst ho
      have d11 : a.tmps.getD 29 undef = (.bool false) := hd 11 (by kernel_rfl)
      refine ⟨(fun j b h => by cases h), FlowOp.pure _ (by simp [go_sem, Act.eval, d11]) rfl⟩
    · replace ho := op_at ho (by rfl)
      subst ho
      have f11 : a.tmps.getD 11 undef = (.slice (some ⟨g, off, none⟩) (l.length + 1) cap2) := hf 11 (by kernel_rfl)
      have d12 : a.tmps.getD 30 undef = (.bool false) := hd 12 (by kernel_rfl)
      refine ⟨(fun j b h => by cases h; exact d12), FlowOp.pure _ (by simp [go_sem, Act.eval, f11]) rfl⟩
    · replace ho := op_at ho (by rfl)
      subst ho
      have f0 : a.tmps.getD 0 undef = (.slice ao l.length cap) := hf 0 (by kernel_rfl)
      have d12 : a.tmps.getD 30 undef = (.bool false) := hd 12 (by kernel_rfl)
      refine ⟨(fun j b h => by cases h; exact d12), FlowOp.pure _ (by simp [go_sem, Act.eval, f0]) rfl⟩
    · replace ho := op_at ho (by rfl)
      subst ho
      have d14 : a.tmps.getD 32 undef = (.slice ao l.length cap) := hd 14 (by kernel_rfl)
      have d12 : a.tmps.getD 30 undef = (.bool false) := hd 12 (by kernel_rfl)
      refine ⟨(fun j b h => by cases h; exact d12), FlowOp.pure _ (by simp [go_sem, Act.eval, d14]) rfl⟩
    · replace ho := op_at ho (by rfl)
      subst ho
      have d13 : a.tmps.getD 31 undef = (.slice (some ⟨g, off, none⟩) (l.length + 1) cap2) := hd 13 (by kernel_rfl)
      have d15 : a.tmps.getD 33 undef = (.int .i64 (l.length : Int)) := hd 15 (by kernel_rfl)
      have d12 : a.tmps.getD 30 undef = (.bool false) := hd 12 (by kernel_rfl)
      refine ⟨(fun j b h => by cases h; exact d12), FlowOp.pure _ (by simp [go_sem, Act.eval, d13, d15, hcut]) rfl⟩
    · replace ho := op_at ho (by rfl)
      subst ho
      have f2 : a.tmps.getD 2 undef = (.int .i64 y) := hf 2 (by kernel_rfl)
      have d12 : a.tmps.getD 30 undef = (.bool false) := hd 12 (by kernel_rfl)
      refine ⟨(fun j b h => by cases h; exact d12), FlowOp.pure _ (by simp [go_sem, Act.eval, f2]) rfl⟩
    · replace ho := op_at ho (by rfl)
      subst ho
      have d16 : a.tmps.getD 34 undef = vc := hd 16 (by kernel_rfl)
      have d17 : a.tmps.getD 35 undef = (.int .i64 y) := hd 17 (by kernel_rfl)
      have d12 : a.tmps.getD 30 undef = (.bool false) := hd 12 (by kernel_rfl)
      refine ⟨(fun j b h => by cases h; exact d12), FlowOp.call 13 #[vc, (.int .i64 y)] (by simp [go_sem, Act.eval, d16, d17]) ?_⟩
      refine (code_Signed vc l y W hy0 hy1 (hcb W hB) (by omega)).mono ?_
      rintro e W' ⟨u, rfl, hO, hBe⟩
      exact ⟨u, rfl, hBe, hO.bts⟩
    · replace ho := op_at ho (by rfl)
      subst ho
      have d18 : (fun zv zw => Bts zw zw.heap.size zv (l ++ vint (zig y))) (a.tmps.getD 36 undef) W := hd 18 (by kernel_rfl)
      obtain ⟨x18, e18⟩ : ∃ x, a.tmps.getD 36 undef = x := ⟨_, rfl⟩
      rw [e18] at d18
      have d12 : a.tmps.getD 30 undef = (.bool false) := hd 12 (by kernel_rfl)
      refine ⟨(fun j b h => by cases h; exact d12), FlowOp.pure _ (by have h := d18.strB; simp [go_sem, Act.eval, h, e18]) rfl⟩
    · replace ho := op_at ho (by rfl)
      subst ho
      have f0 : a.tmps.getD 0 undef = (.slice ao l.length cap) := hf 0 (by kernel_rfl)
      have d12 : a.tmps.getD 30 undef = (.bool false) := hd 12 (by kernel_rfl)
      refine ⟨(fun j b h => by cases h; exact d12), FlowOp.pure _ (by simp [go_sem, Act.eval, f0]) rfl⟩
    · replace ho := op_at ho (by rfl)
      subst ho
      have f2 : a.tmps.getD 2 undef = (.int .i64 y) := hf 2 (by kernel_rfl)
      have d12 : a.tmps.getD 30 undef = (.bool false) := hd 12 (by kernel_rfl)
      refine ⟨(fun j b h => by cases h; exact d12), FlowOp.pure _ (by simp [go_sem, Act.eval, f2]) rfl⟩
    · replace ho := op_at ho (by rfl)
      subst ho
      have d20 : a.tmps.getD 38 undef = (.slice ao l.length cap) := hd 20 (by kernel_rfl)
      have d21 : a.tmps.getD 39 undef = (.int .i64 y) := hd 21 (by kernel_rfl)
      have d12 : a.tmps.getD 30 undef = (.bool false) := hd 12 (by kernel_rfl)
      refine ⟨(fun j b h => by cases h; exact d12), FlowOp.call 14 #[(.slice ao l.length cap), (.int .i64 y)] (by simp [go_sem, Act.eval, d20, d21]) ?_⟩
      refine (ref_Signed (.slice ao l.length cap) l y W hy0 hy1 (hvb W hB) (by omega)).mono ?_
      rintro e W' ⟨u, rfl, hO, hBe⟩
      exact ⟨u, rfl, hBe, hO.bts⟩
    · replace ho := op_at ho (by rfl)
      subst ho
      have d22 : (fun zv zw => Bts zw zw.heap.size zv (l ++ vint (zig y))) (a.tmps.getD 40 undef) W := hd 22 (by kernel_rfl)
      obtain ⟨x22, e22⟩ : ∃ x, a.tmps.getD 40 undef = x := ⟨_, rfl⟩
      rw [e22] at d22
      have d12 : a.tmps.getD 30 undef = (.bool false) := hd 12 (by kernel_rfl)
      refine ⟨(fun j b h => by cases h; exact d12), FlowOp.pure _ (by have h := d22.strB; simp [go_sem, Act.eval, h, e22]) rfl⟩
    · replace ho := op_at ho (by rfl)
      subst ho
      have d19 : a.tmps.getD 37 undef = (.string ⟨(l ++ vint (zig y)).toArray⟩) := hd 19 (by kernel_rfl)
      have d23 : a.tmps.getD 41 undef = (.string ⟨(l ++ vint (zig y)).toArray⟩) := hd 23 (by kernel_rfl)
      have d12 : a.tmps.getD 30 undef = (.bool false) := hd 12 (by kernel_rfl)
      refine ⟨(fun j b h => by cases h; exact d12), FlowOp.pure _ (by simp [go_sem, Act.eval, d19, d23]) rfl⟩
    · replace ho := op_at ho (by rfl)
      subst ho
      have d12 : a.tmps.getD 30 undef = (.bool false) := hd 12 (by kernel_rfl)
      have d24 : a.tmps.getD 42 undef = (.bool false) := hd 24 (by kernel_rfl)
      refine ⟨(fun j b h => by cases h), FlowOp.pure _ (by simp [go_sem, Act.eval, d12, d24]) rfl⟩
  · intro vs4 W4 hB4 hv
    have h0 : vs4 0 = (.slice (some ⟨g, off, none⟩) (l.length + 1) cap2) := hv 0 (show 0 < 26 by decide)
    have h1 : vs4 1 = (.slice ao l.length cap) := hv 1 (show 1 < 26 by decide)
    have h2 : vs4 2 = (.int .i64 (l.length : Int)) := hv 2 (show 2 < 26 by decide)
    have h3 : vs4 3 = vc := hv 3 (show 3 < 26 by decide)
    have h4 : vs4 4 = (.int .u64 (x : Int)) := hv 4 (show 4 < 26 by decide)
    have h5 : (fun zv zw => Bts zw zw.heap.size zv (l ++ vint x)) (vs4 5) W4 := hv 5 (show 5 < 26 by decide)
    have h6 : vs4 6 = (.string ⟨(l ++ vint x).toArray⟩) := hv 6 (show 6 < 26 by decide)
    have h7 : vs4 7 = (.slice ao l.length cap) := hv 7 (show 7 < 26 by decide)
    have h8 : vs4 8 = (.int .u64 (x : Int)) := hv 8 (show 8 < 26 by decide)
    have h9 : (fun zv zw => Bts zw zw.heap.size zv (l ++ vint x)) (vs4 9) W4 := hv 9 (show 9 < 26 by decide)
    have h10 : vs4 10 = (.string ⟨(l ++ vint x).toArray⟩) := hv 10 (show 10 < 26 by decide)
    have h11 : vs4 11 = (.bool false) := hv 11 (show 11 < 26 by decide)
    have h12 : vs4 12 = (.bool false) := hv 12 (show 12 < 26 by decide)
    have h13 : vs4 13 = (.slice (some ⟨g, off, none⟩) (l.length + 1) cap2) := hv 13 (show 13 < 26 by decide)
    have h14 : vs4 14 = (.slice ao l.length cap) := hv 14 (show 14 < 26 by decide)
    have h15 : vs4 15 = (.int .i64 (l.length : Int)) := hv 15 (show 15 < 26 by decide)
    have h16 : vs4 16 = vc := hv 16 (show 16 < 26 by decide)
    have h17 : vs4 17 = (.int .i64 y) := hv 17 (show 17 < 26 by decide)
    have h18 : (fun zv zw => Bts zw zw.heap.size zv (l ++ vint (zig y))) (vs4 18) W4 := hv 18 (show 18 < 26 by decide)
    have h19 : vs4 19 = (.string ⟨(l ++ vint (zig y)).toArray⟩) := hv 19 (show 19 < 26 by decide)
    have h20 : vs4 20 = (.slice ao l.length cap) := hv 20 (show 20 < 26 by decide)
    have h21 : vs4 21 = (.int .i64 y) := hv 21 (show 21 < 26 by decide)
    have h22 : (fun zv zw => Bts zw zw.heap.size zv (l ++ vint (zig y))) (vs4 22) W4 := hv 22 (show 22 < 26 by decide)
    have h23 : vs4 23 = (.string ⟨(l ++ vint (zig y)).toArray⟩) := hv 23 (show 23 < 26 by decide)
    have h24 : vs4 24 = (.bool false) := hv 24 (show 24 < 26 by decide)
    have h25 : vs4 25 = (.bool false) := hv 25 (show 25 < 26 by decide)
    clear hv
    show Exit.then _ _ Exit.normal (puts _ vs4 26 _) W4
    simp only [puts, h0, h1, h2, h3, h4, h6, h7, h8, h10, h11, h12, h13, h14, h15, h16, h17, h19, h20, h21, h23, h24, h25]
    clear h0 h1 h2 h3 h4 h6 h7 h8 h10 h11 h12 h13 h14 h15 h16 h17 h19 h20 h21 h23 h24 h25
    clear hcut hcb hvb hc77
    go_simp
    go_wp2
    obtain ⟨hcut, hcb0, hvb0, hc770⟩ := HR.out
    have hcb : ∀ W, Below W4.heap.size W4 W → Bts W W.heap.size vc l := fun W h => hcb0 W (hB4.trans (h.mono hB4.size))
    have hvb : ∀ W, Below W4.heap.size W4 W → Bts W W.heap.size (.slice ao l.length cap) l := fun W h => hvb0 W (hB4.trans (h.mono hB4.size))
    have hc77 : ∀ W, Below W4.heap.size W4 W → W.cell? ⟨g, off + l.length, none⟩ = some (.int .u8 77) := fun W h => hc770 W (hB4.trans (h.mono hB4.size))
    clear hcb0 hvb0 hc770
    refine wp_flow (by kernel_rfl) (by kernel_rfl) (fun i => 44 + i) (by kernel_rfl) (by kernel_rfl) (by kernel_rfl) (fun i v W => ([(fun zv _ => zv = (.slice (some ⟨g, off, none⟩) (l.length + 1) cap2)), (fun zv _ => zv = (.slice ao l.length cap)), (fun zv _ => zv = (.int .i64 (l.length : Int))), (fun zv _ => zv = vc), (fun zv _ => zv = (.string ⟨ts.toArray⟩)), (fun zv zw => Bts zw zw.heap.size zv (l ++ (vint ts.length ++ ts))), (fun zv _ => zv = (.string ⟨(l ++ (vint ts.length ++ ts)).toArray⟩)), (fun zv _ => zv = (.slice ao l.length cap)), (fun zv _ => zv = (.string ⟨ts.toArray⟩)), (fun zv zw => Bts zw zw.heap.size zv (l ++ (vint ts.length ++ ts))), (fun zv _ => zv = (.string ⟨(l ++ (vint ts.length ++ ts)).toArray⟩)), (fun zv _ => zv = (.bool false)), (fun zv _ => zv = (.bool false)), (fun zv _ => zv = (.slice (some ⟨g, off, none⟩) (l.length + 1) cap2)), (fun zv _ => zv = (.slice ao l.length cap)), (fun zv _ => zv = (.int .i64 (l.length : Int))), (fun zv _ => zv = vc), (fun zv _ => zv = (.bool is_)), (fun zv zw => Bts zw zw.heap.size zv (l ++ vint (flagN is_))), (fun zv _ => zv = (.string ⟨(l ++ vint (flagN is_)).toArray⟩)), (fun zv _ => zv = (.slice ao l.length cap)), (fun zv _ => zv = (.bool is_)), (fun zv zw => Bts zw zw.heap.size zv (l ++ vint (flagN is_))), (fun zv _ => zv = (.string ⟨(l ++ vint (flagN is_)).toArray⟩)), (fun zv _ => zv = (.bool false)), (fun zv _ => zv = (.bool false))] : List (Value → World → Prop)).getD i (fun _ _ => True) v W) ?_ ?_ (by kernel_rfl) ?_
    · intro i hi
      replace hi : i < 26 := hi
      rcases (show i = 0 ∨ i = 1 ∨ i = 2 ∨ i = 3 ∨ i = 4 ∨ i = 5 ∨ i = 6 ∨ i = 7 ∨ i = 8 ∨ i = 9 ∨ i = 10 ∨ i = 11 ∨ i = 12 ∨ i = 13 ∨ i = 14 ∨ i = 15 ∨ i = 16 ∨ i = 17 ∨ i = 18 ∨ i = 19 ∨ i = 20 ∨ i = 21 ∨ i = 22 ∨ i = 23 ∨ i = 24 ∨ i = 25 by omega) with rfl | rfl | rfl | rfl | rfl | rfl | rfl | rfl | rfl | rfl | rfl | rfl | rfl | rfl | rfl | rfl | rfl | rfl | rfl | rfl | rfl | rfl | rfl | rfl | rfl | rfl
      · exact Stays.eq _
      · exact Stays.eq _
      · exact Stays.eq _
      · exact Stays.eq _
      · exact Stays.eq _
      · exact Stays.bts _
      · exact Stays.eq _
      · exact Stays.eq _
      · exact Stays.eq _
      · exact Stays.bts _
      · exact Stays.eq _
      · exact Stays.eq _
      · exact Stays.eq _
      · exact Stays.eq _
      · exact Stays.eq _
      · exact Stays.eq _
      · exact Stays.eq _
      · exact Stays.eq _
      · exact Stays.bts _
      · exact Stays.eq _
      · exact Stays.eq _
      · exact Stays.eq _
      · exact Stays.bts _
      · exact Stays.eq _
      · exact Stays.eq _
      · exact Stays.eq _
    · intro i o a W hi ho hB hf hd
      replace hi : i < 26 := hi
      rcases (show i = 0 ∨ i = 1 ∨ i = 2 ∨ i = 3 ∨ i = 4 ∨ i = 5 ∨ i = 6 ∨ i = 7 ∨ i = 8 ∨ i = 9 ∨ i = 10 ∨ i = 11 ∨ i = 12 ∨ i = 13 ∨ i = 14 ∨ i = 15 ∨ i = 16 ∨ i = 17 ∨ i = 18 ∨ i = 19 ∨ i = 20 ∨ i = 21 ∨ i = 22 ∨ i = 23 ∨ i = 24 ∨ i = 25 by omega) with rfl | rfl | rfl | rfl | rfl | rfl | rfl | rfl | rfl | rfl | rfl | rfl | rfl | rfl | rfl | rfl | rfl | rfl | rfl | rfl | rfl | rfl | rfl | rfl | rfl | rfl
      · replace ho := op_at ho (by rfl)
        subst ho
        have f11 : a.tmps.getD 11 undef = (.slice (some ⟨g, off, none⟩) (l.length + 1) cap2) := hf 11 (by kernel_rfl)
        refine ⟨(fun j b h => by cases h), FlowOp.pure _ (by simp [go_sem, Act.eval, f11]) rfl⟩
      · replace ho := op_at ho (by rfl)
        subst ho
        have f0 : a.tmps.getD 0 undef = (.slice ao l.length cap) := hf 0 (by kernel_rfl)
        refine ⟨(fun j b h => by cases h), FlowOp.pure _ (by simp [go_sem, Act.eval, f0]) rfl⟩
      · replace ho := op_at ho (by rfl)
        subst ho
        have d1 : a.tmps.getD 45 undef = (.slice ao l.length cap) := hd 1 (by kernel_rfl)
        refine ⟨(fun j b h => by cases h), FlowOp.pure _ (by simp [go_sem, Act.eval, d1]) rfl⟩
      · replace ho := op_at ho (by rfl)
        subst ho
        have d0 : a.tmps.getD 44 undef = (.slice (some ⟨g, off, none⟩) (l.length + 1) cap2) := hd 0 (by kernel_rfl)
        have d2 : a.tmps.getD 46 undef = (.int .i64 (l.length : Int)) := hd 2 (by kernel_rfl)
        refine ⟨(fun j b h => by cases h), FlowOp.pure _ (by simp [go_sem, Act.eval, d0, d2, hcut]) rfl⟩
      · replace ho := op_at ho (by rfl)
        subst ho
        have f3 : a.tmps.getD 3 undef = (.string ⟨ts.toArray⟩) := hf 3 (by kernel_rfl)
        refine ⟨(fun j b h => by cases h), FlowOp.pure _ (by simp [go_sem, Act.eval, f3]) rfl⟩
      · replace ho := op_at ho (by rfl)
        subst ho
        have d3 : a.tmps.getD 47 undef = vc := hd 3 (by kernel_rfl)
        have d4 : a.tmps.getD 48 undef = (.string ⟨ts.toArray⟩) := hd 4 (by kernel_rfl)
        refine ⟨(fun j b h => by cases h), FlowOp.call 15 #[vc, (.string ⟨ts.toArray⟩)] (by simp [go_sem, Act.eval, d3, d4]) ?_⟩
        refine (code_Text vc l ts W  (hcb W hB) (by omega) ht).mono ?_
        rintro e W' ⟨u, rfl, hO, hBe⟩
        exact ⟨u, rfl, hBe, hO.bts⟩
      · replace ho := op_at ho (by rfl)
        subst ho
        have d5 : (fun zv zw => Bts zw zw.heap.size zv (l ++ (vint ts.length ++ ts))) (a.tmps.getD 49 undef) W := hd 5 (by kernel_rfl)
        obtain ⟨x5, e5⟩ : ∃ x, a.tmps.getD 49 undef = x := ⟨_, rfl⟩
        rw [e5] at d5
        refine ⟨(fun j b h => by cases h), FlowOp.pure _ (by have h := d5.strB; simp [go_sem, Act.eval, h, e5]) rfl⟩
      · replace ho := op_at ho (by rfl)
        subst ho
        have f0 : a.tmps.getD 0 undef = (.slice ao l.length cap) := hf 0 (by kernel_rfl)
        refine ⟨(fun j b h => by cases h), FlowOp.pure _ (by simp [go_sem, Act.eval, f0]) rfl⟩
      · replace ho := op_at ho (by rfl)
        subst ho
        have f3 : a.tmps.getD 3 undef = (.string ⟨ts.toArray⟩) := hf 3 (by kernel_rfl)
        refine ⟨(fun j b h => by cases h), FlowOp.pure _ (by simp [go_sem, Act.eval, f3]) rfl⟩
      · replace ho := op_at ho (by rfl)
        subst ho
        have d7 : a.tmps.getD 51 undef = (.slice ao l.length cap) := hd 7 (by kernel_rfl)
        have d8 : a.tmps.getD 52 undef = (.string ⟨ts.toArray⟩) := hd 8 (by kernel_rfl)
        refine ⟨(fun j b h => by cases h), FlowOp.call 16 #[(.slice ao l.length cap), (.string ⟨ts.toArray⟩)] (by simp [go_sem, Act.eval, d7, d8]) ?_⟩
        refine (ref_Text (.slice ao l.length cap) l ts W  (hvb W hB) (by omega) ht).mono ?_
        rintro e W' ⟨u, rfl, hO, hBe⟩
        exact ⟨u, rfl, hBe, hO.bts⟩
      · replace ho := op_at ho (by rfl)
        subst ho
        have d9 : (fun zv zw => Bts zw zw.heap.size zv (l ++ (vint ts.length ++ ts))) (a.tmps.getD 53 undef) W := hd 9 (by kernel_rfl)
        obtain ⟨x9, e9⟩ : ∃ x, a.tmps.getD 53 undef = x := ⟨_, rfl⟩
        rw [e9] at d9
        refine ⟨(fun j b h => by cases h), FlowOp.pure _ (by have h := d9.strB; simp [go_sem, Act.eval, h, e9]) rfl⟩
      · replace ho := op_at ho (by rfl)
        subst ho
        have d6 : a.tmps.getD 50 undef = (.string ⟨(l ++ (vint ts.length ++ ts)).toArray⟩) := hd 6 (by kernel_rfl)
        have d10 : a.tmps.getD 54 undef = (.string ⟨(l ++ (vint ts.length ++ ts)).toArray⟩) := hd 10 (by kernel_rfl)
        refine ⟨(fun j b h => by cases h), FlowOp.pure _ (by simp [go_sem, Act.eval, d6, d10]) rfl⟩
      · replace ho := op_at ho (by rfl)
        subst ho
        have d11 : a.tmps.getD 55 undef = (.bool false) := hd 11 (by kernel_rfl)
        refine ⟨(fun j b h => by cases h), FlowOp.pure _ (by simp [go_sem, Act.eval, d11]) rfl⟩
      · replace ho := op_at ho (by rfl)
        subst ho
        have f11 : a.tmps.getD 11 undef = (.slice (some ⟨g, off, none⟩) (l.length + 1) cap2) := hf 11 (by kernel_rfl)
        have d12 : a.tmps.getD 56 undef = (.bool false) := hd 12 (by kernel_rfl)
        refine ⟨(fun j b h => by cases h; exact d12), FlowOp.pure _ (by simp [go_sem, Act.eval, f11]) rfl⟩
      · replace ho := op_at ho (by rfl)
        subst ho
        have f0 : a.tmps.getD 0 undef = (.slice ao l.length cap) := hf 0 (by kernel_rfl)
        have d12 : a.tmps.getD 56 undef = (.bool false) := hd 12 (by kernel_rfl)
        refine ⟨(fun j b h => by cases h; exact d12), FlowOp.pure _ (by simp [go_sem, Act.eval, f0]) rfl⟩
      · replace ho := op_at ho (by rfl)
        subst ho
        have d14 : a.tmps.getD 58 undef = (.slice ao l.length cap) := hd 14 (by kernel_rfl)
        have d12 : a.tmps.getD 56 undef = (.bool false) := hd 12 (by kernel_rfl)
        refine ⟨(fun j b h => by cases h; exact d12), FlowOp.pure _ (by simp [go_sem, Act.eval, d14]) rfl⟩
      · replace ho := op_at ho (by rfl)
        subst ho
        have d13 : a.tmps.getD 57 undef = (.slice (some ⟨g, off, none⟩) (l.length + 1) cap2) := hd 13 (by kernel_rfl)
        have d15 : a.tmps.getD 59 undef = (.int .i64 (l.length : Int)) := hd 15 (by kernel_rfl)
        have d12 : a.tmps.getD 56 undef = (.bool false) := hd 12 (by kernel_rfl)
        refine ⟨(fun j b h => by cases h; exact d12), FlowOp.pure _ (by simp [go_sem, Act.eval, d13, d15, hcut]) rfl⟩
      · replace ho := op_at ho (by rfl)
        subst ho
        have f4 : a.tmps.getD 4 undef = (.bool is_) := hf 4 (by kernel_rfl)
        have d12 : a.tmps.getD 56 undef = (.bool false) := hd 12 (by kernel_rfl)
        refine ⟨(fun j b h => by cases h; exact d12), FlowOp.pure _ (by simp [go_sem, Act.eval, f4]) rfl⟩
      · replace ho := op_at ho (by rfl)
        subst ho
        have d16 : a.tmps.getD 60 undef = vc := hd 16 (by kernel_rfl)
        have d17 : a.tmps.getD 61 undef = (.bool is_) := hd 17 (by kernel_rfl)
        have d12 : a.tmps.getD 56 undef = (.bool false) := hd 12 (by kernel_rfl)
        refine ⟨(fun j b h => by cases h; exact d12), FlowOp.call 17 #[vc, (.bool is_)] (by simp [go_sem, Act.eval, d16, d17]) ?_⟩
        refine (code_Flag vc l is_ W  (hcb W hB) (by omega)).mono ?_
        rintro e W' ⟨u, rfl, hO, hBe⟩
        exact ⟨u, rfl, hBe, hO.bts⟩
      · replace ho := op_at ho (by rfl)
        subst ho
        have d18 : (fun zv zw => Bts zw zw.heap.size zv (l ++ vint (flagN is_))) (a.tmps.getD 62 undef) W := hd 18 (by kernel_rfl)
        obtain ⟨x18, e18⟩ : ∃ x, a.tmps.getD 62 undef = x := ⟨_, rfl⟩
        rw [e18] at d18
        have d12 : a.tmps.getD 56 undef = (.bool false) := hd 12 (by kernel_rfl)
        refine ⟨(fun j b h => by cases h; exact d12), FlowOp.pure _ (by have h := d18.strB; simp [go_sem, Act.eval, h, e18]) rfl⟩
      · replace ho := op_at ho (by rfl)
        subst ho
        have f0 : a.tmps.getD 0 undef = (.slice ao l.length cap) := hf 0 (by kernel_rfl)
        have d12 : a.tmps.getD 56 undef = (.bool false) := hd 12 (by kernel_rfl)
        refine ⟨(fun j b h => by cases h; exact d12), FlowOp.pure _ (by simp [go_sem, Act.eval, f0]) rfl⟩
      · replace ho := op_at ho (by rfl)
        subst ho
        have f4 : a.tmps.getD 4 undef = (.bool is_) := hf 4 (by kernel_rfl)
        have d12 : a.tmps.getD 56 undef = (.bool false) := hd 12 (by kernel_rfl)
        refine ⟨(fun j b h => by cases h; exact d12), FlowOp.pure _ (by simp [go_sem, Act.eval, f4]) rfl⟩
      · replace ho := op_at ho (by rfl)
        subst ho
        have d20 : a.tmps.getD 64 undef = (.slice ao l.length cap) := hd 20 (by kernel_rfl)
        have d21 : a.tmps.getD 65 undef = (.bool is_) := hd 21 (by kernel_rfl)
        have d12 : a.tmps.getD 56 undef = (.bool false) := hd 12 (by kernel_rfl)
        refine ⟨(fun j b h => by cases h; exact d12), FlowOp.call 18 #[(.slice ao l.length cap), (.bool is_)] (by simp [go_sem, Act.eval, d20, d21]) ?_⟩
        refine (ref_Flag (.slice ao l.length cap) l is_ W  (hvb W hB) (by omega)).mono ?_
        rintro e W' ⟨u, rfl, hO, hBe⟩
        exact ⟨u, rfl, hBe, hO.bts⟩
      · replace ho := op_at ho (by rfl)
        subst ho
        have d22 : (fun zv zw => Bts zw zw.heap.size zv (l ++ vint (flagN is_))) (a.tmps.getD 66 undef) W := hd 22 (by kernel_rfl)
        obtain ⟨x22, e22⟩ : ∃ x, a.tmps.getD 66 undef = x := ⟨_, rfl⟩
        rw [e22] at d22
        have d12 : a.tmps.getD 56 undef = (.bool false) := hd 12 (by kernel_rfl)
        refine ⟨(fun j b h => by cases h; exact d12), FlowOp.pure _ (by have h := d22.strB; simp [go_sem, Act.eval, h, e22]) rfl⟩
      · replace ho := op_at ho (by rfl)
        subst ho
        have d19 : a.tmps.getD 63 undef = (.string ⟨(l ++ vint (flagN is_)).toArray⟩) := hd 19 (by kernel_rfl)
        have d23 : a.tmps.getD 67 undef = (.string ⟨(l ++ vint (flagN is_)).toArray⟩) := hd 23 (by kernel_rfl)
        have d12 : a.tmps.getD 56 undef = (.bool false) := hd 12 (by kernel_rfl)
        refine ⟨(fun j b h => by cases h; exact d12), FlowOp.pure _ (by simp [go_sem, Act.eval, d19, d23]) rfl⟩
      · replace ho := op_at ho (by rfl)
        subst ho
        have d12 : a.tmps.getD 56 undef = (.bool false) := hd 12 (by kernel_rfl)
        have d24 : a.tmps.getD 68 undef = (.bool false) := hd 24 (by kernel_rfl)
        refine ⟨(fun j b h => by cases h), FlowOp.pure _ (by simp [go_sem, Act.eval, d12, d24]) rfl⟩
    · intro vs6 W6 hB6 hv
      have h0 : vs6 0 = (.slice (some ⟨g, off, none⟩) (l.length + 1) cap2) := hv 0 (show 0 < 26 by decide)
      have h1 : vs6 1 = (.slice ao l.length cap) := hv 1 (show 1 < 26 by decide)
      have h2 : vs6 2 = (.int .i64 (l.length : Int)) := hv 2 (show 2 < 26 by decide)
      have h3 : vs6 3 = vc := hv 3 (show 3 < 26 by decide)
      have h4 : vs6 4 = (.string ⟨ts.toArray⟩) := hv 4 (show 4 < 26 by decide)
      have h5 : (fun zv zw => Bts zw zw.heap.size zv (l ++ (vint ts.length ++ ts))) (vs6 5) W6 := hv 5 (show 5 < 26 by decide)
      have h6 : vs6 6 = (.string ⟨(l ++ (vint ts.length ++ ts)).toArray⟩) := hv 6 (show 6 < 26 by decide)
      have h7 : vs6 7 = (.slice ao l.length cap) := hv 7 (show 7 < 26 by decide)
      have h8 : vs6 8 = (.string ⟨ts.toArray⟩) := hv 8 (show 8 < 26 by decide)
      have h9 : (fun zv zw => Bts zw zw.heap.size zv (l ++ (vint ts.length ++ ts))) (vs6 9) W6 := hv 9 (show 9 < 26 by decide)
      have h10 : vs6 10 = (.string ⟨(l ++ (vint ts.length ++ ts)).toArray⟩) := hv 10 (show 10 < 26 by decide)
      have h11 : vs6 11 = (.bool false) := hv 11 (show 11 < 26 by decide)
      have h12 : vs6 12 = (.bool false) := hv 12 (show 12 < 26 by decide)
      have h13 : vs6 13 = (.slice (some ⟨g, off, none⟩) (l.length + 1) cap2) := hv 13 (show 13 < 26 by decide)
      have h14 : vs6 14 = (.slice ao l.length cap) := hv 14 (show 14 < 26 by decide)
      have h15 : vs6 15 = (.int .i64 (l.length : Int)) := hv 15 (show 15 < 26 by decide)
      have h16 : vs6 16 = vc := hv 16 (show 16 < 26 by decide)
      have h17 : vs6 17 = (.bool is_) := hv 17 (show 17 < 26 by decide)
      have h18 : (fun zv zw => Bts zw zw.heap.size zv (l ++ vint (flagN is_))) (vs6 18) W6 := hv 18 (show 18 < 26 by decide)
      have h19 : vs6 19 = (.string ⟨(l ++ vint (flagN is_)).toArray⟩) := hv 19 (show 19 < 26 by decide)
      have h20 : vs6 20 = (.slice ao l.length cap) := hv 20 (show 20 < 26 by decide)
      have h21 : vs6 21 = (.bool is_) := hv 21 (show 21 < 26 by decide)
      have h22 : (fun zv zw => Bts zw zw.heap.size zv (l ++ vint (flagN is_))) (vs6 22) W6 := hv 22 (show 22 < 26 by decide)
      have h23 : vs6 23 = (.string ⟨(l ++ vint (flagN is_)).toArray⟩) := hv 23 (show 23 < 26 by decide)
      have h24 : vs6 24 = (.bool false) := hv 24 (show 24 < 26 by decide)
      have h25 : vs6 25 = (.bool false) := hv 25 (show 25 < 26 by decide)
      clear hv
      show Exit.then _ _ Exit.normal (puts _ vs6 26 _) W6
      simp only [puts, h0, h1, h2, h3, h4, h6, h7, h8, h10, h11, h12, h13, h14, h15, h16, h17, h19, h20, h21, h23, h24, h25]
      clear h0 h1 h2 h3 h4 h6 h7 h8 h10 h11 h12 h13 h14 h15 h16 h17 h19 h20 h21 h23 h24 h25
      clear hcut hcb hvb hc77
      go_simp
      go_wp2
      obtain ⟨hcut, hcb0, hvb0, hc770⟩ := HR.out
      have hcb : ∀ W, Below W6.heap.size W6 W → Bts W W.heap.size vc l := fun W h => hcb0 W (hB4.trans ((hB6.trans (h.mono hB6.size)).mono hB4.size))
      have hvb : ∀ W, Below W6.heap.size W6 W → Bts W W.heap.size (.slice ao l.length cap) l := fun W h => hvb0 W (hB4.trans ((hB6.trans (h.mono hB6.size)).mono hB4.size))
      have hc77 : ∀ W, Below W6.heap.size W6 W → W.cell? ⟨g, off + l.length, none⟩ = some (.int .u8 77) := fun W h => hc770 W (hB4.trans ((hB6.trans (h.mono hB6.size)).mono hB4.size))
      clear hcb0 hvb0 hc770
      refine wp_flow (by kernel_rfl) (by kernel_rfl) (fun i => if i = 26 then 10 else 70 + i) (by kernel_rfl) (by kernel_rfl) (by kernel_rfl) (fun i v W => ([(fun zv _ => zv = (.int .u64 (x : Int))), (fun zv _ => zv = (.int .i64 ((vint x).length : Nat))), (fun zv _ => zv = (.int .u64 (x : Int))), (fun zv _ => zv = (.int .i64 ((vint x).length : Nat))), (fun zv _ => zv = (.bool true)), (fun zv _ => zv = (.bool true)), (fun zv _ => zv = (.slice (some ⟨g, off, none⟩) (l.length + 1) cap2)), (fun zv _ => zv = (.slice ao l.length cap)), (fun zv _ => zv = (.int .i64 (l.length : Int))), (fun zv _ => zv = (.pointer (some ⟨g, off + l.length, none⟩))), (fun zv _ => zv = (.int .u8 77)), (fun zv _ => zv = (.bool true)), (fun zv _ => zv = (.bool true)), (fun zv _ => zv = (.bool true)), (fun zv _ => zv = (.slice (some ⟨g, off, none⟩) (l.length + 1) cap2)), (fun zv _ => zv = (.slice ao l.length cap)), (fun zv _ => zv = (.int .i64 (l.length : Int))), (fun zv _ => zv = vc), (fun zv _ => zv = (.string ⟨l.toArray⟩)), (fun zv _ => zv = (.slice ao l.length cap)), (fun zv _ => zv = (.string ⟨l.toArray⟩)), (fun zv _ => zv = (.bool true)), (fun zv _ => zv = (.bool true)), (fun zv _ => zv = (.bool true)), (fun zv _ => zv = (.bool true)), (fun zv _ => zv = (.bool true)), (fun zv _ => zv = (.bool true))] : List (Value → World → Prop)).getD i (fun _ _ => True) v W) ?_ ?_ (by kernel_rfl) ?_
      · intro i hi
        replace hi : i < 27 := hi
        rcases (show i = 0 ∨ i = 1 ∨ i = 2 ∨ i = 3 ∨ i = 4 ∨ i = 5 ∨ i = 6 ∨ i = 7 ∨ i = 8 ∨ i = 9 ∨ i = 10 ∨ i = 11 ∨ i = 12 ∨ i = 13 ∨ i = 14 ∨ i = 15 ∨ i = 16 ∨ i = 17 ∨ i = 18 ∨ i = 19 ∨ i = 20 ∨ i = 21 ∨ i = 22 ∨ i = 23 ∨ i = 24 ∨ i = 25 ∨ i = 26 by omega) with rfl | rfl | rfl | rfl | rfl | rfl | rfl | rfl | rfl | rfl | rfl | rfl | rfl | rfl | rfl | rfl | rfl | rfl | rfl | rfl | rfl | rfl | rfl | rfl | rfl | rfl | rfl
        · exact Stays.eq _
        · exact Stays.eq _
        · exact Stays.eq _
        · exact Stays.eq _
        · exact Stays.eq _
        · exact Stays.eq _
        · exact Stays.eq _
        · exact Stays.eq _
        · exact Stays.eq _
        · exact Stays.eq _
        · exact Stays.eq _
        · exact Stays.eq _
        · exact Stays.eq _
        · exact Stays.eq _
        · exact Stays.eq _
        · exact Stays.eq _
        · exact Stays.eq _
        · exact Stays.eq _
        · exact Stays.eq _
        · exact Stays.eq _
        · exact Stays.eq _
        · exact Stays.eq _
        · exact Stays.eq _
        · exact Stays.eq _
        · exact Stays.eq _
        · exact Stays.eq _
        · exact Stays.eq _
      · intro i o a W hi ho hB hf hd
        replace hi : i < 27 := hi
        rcases (show i = 0 ∨ i = 1 ∨ i = 2 ∨ i = 3 ∨ i = 4 ∨ i = 5 ∨ i = 6 ∨ i = 7 ∨ i = 8 ∨ i = 9 ∨ i = 10 ∨ i = 11 ∨ i = 12 ∨ i = 13 ∨ i = 14 ∨ i = 15 ∨ i = 16 ∨ i = 17 ∨ i = 18 ∨ i = 19 ∨ i = 20 ∨ i = 21 ∨ i = 22 ∨ i = 23 ∨ i = 24 ∨ i = 25 ∨ i = 26 by omega) with rfl | rfl | rfl | rfl | rfl | rfl | rfl | rfl | rfl | rfl | rfl | rfl | rfl | rfl | rfl | rfl | rfl | rfl | rfl | rfl | rfl | rfl | rfl | rfl | rfl | rfl | rfl
        · replace ho := op_at ho (by rfl)
          subst ho
          have f1 : a.tmps.getD 1 undef = (.int .u64 (x : Int)) := hf 1 (by kernel_rfl)
          refine ⟨(fun j b h => by cases h), FlowOp.pure _ (by simp [go_sem, Act.eval, f1]) rfl⟩
        · replace ho := op_at ho (by rfl)
          subst ho
          have d0 : a.tmps.getD 70 undef = (.int .u64 (x : Int)) := hd 0 (by kernel_rfl)
          refine ⟨(fun j b h => by cases h), FlowOp.call 10 #[(.int .u64 (x : Int))] (by simp [go_sem, Act.eval, d0]) ?_⟩
          refine (code_Size x W hx).mono ?_
          rintro e W' ⟨rfl, rfl⟩
          exact ⟨_, rfl, Below.refl _ _, rfl⟩
        · replace ho := op_at ho (by rfl)
          subst ho
          have f1 : a.tmps.getD 1 undef = (.int .u64 (x : Int)) := hf 1 (by kernel_rfl)
          refine ⟨(fun j b h => by cases h), FlowOp.pure _ (by simp [go_sem, Act.eval, f1]) rfl⟩
        · replace ho := op_at ho (by rfl)
          subst ho
          have d2 : a.tmps.getD 72 undef = (.int .u64 (x : Int)) := hd 2 (by kernel_rfl)
          refine ⟨(fun j b h => by cases h), FlowOp.call 19 #[(.int .u64 (x : Int))] (by simp [go_sem, Act.eval, d2]) ?_⟩
          refine (ref_Size x W hx).mono ?_
          rintro e W' ⟨rfl, hBe⟩
          exact ⟨_, rfl, hBe, rfl⟩
        · replace ho := op_at ho (by rfl)
          subst ho
          have d1 : a.tmps.getD 71 undef = (.int .i64 ((vint x).length : Nat)) := hd 1 (by kernel_rfl)
          have d3 : a.tmps.getD 73 undef = (.int .i64 ((vint x).length : Nat)) := hd 3 (by kernel_rfl)
          refine ⟨(fun j b h => by cases h), FlowOp.pure _ (by simp [go_sem, Act.eval, d1, d3]) rfl⟩
        · replace ho := op_at ho (by rfl)
          subst ho
          have d4 : a.tmps.getD 74 undef = (.bool true) := hd 4 (by kernel_rfl)
          refine ⟨(fun j b h => by cases h), FlowOp.pure _ (by simp [go_sem, Act.eval, d4]) rfl⟩
        · replace ho := op_at ho (by rfl)
          subst ho
          have f11 : a.tmps.getD 11 undef = (.slice (some ⟨g, off, none⟩) (l.length + 1) cap2) := hf 11 (by kernel_rfl)
          have d5 : a.tmps.getD 75 undef = (.bool true) := hd 5 (by kernel_rfl)
          refine ⟨(fun j b h => by cases h; exact d5), FlowOp.pure _ (by simp [go_sem, Act.eval, f11]) rfl⟩
        · replace ho := op_at ho (by rfl)
          subst ho
          have f0 : a.tmps.getD 0 undef = (.slice ao l.length cap) := hf 0 (by kernel_rfl)
          have d5 : a.tmps.getD 75 undef = (.bool true) := hd 5 (by kernel_rfl)
          refine ⟨(fun j b h => by cases h; exact d5), FlowOp.pure _ (by simp [go_sem, Act.eval, f0]) rfl⟩
        · replace ho := op_at ho (by rfl)
          subst ho
          have d7 : a.tmps.getD 77 undef = (.slice ao l.length cap) := hd 7 (by kernel_rfl)
          have d5 : a.tmps.getD 75 undef = (.bool true) := hd 5 (by kernel_rfl)
          refine ⟨(fun j b h => by cases h; exact d5), FlowOp.pure _ (by simp [go_sem, Act.eval, d7]) rfl⟩
        · replace ho := op_at ho (by rfl)
          subst ho
          have d6 : a.tmps.getD 76 undef = (.slice (some ⟨g, off, none⟩) (l.length + 1) cap2) := hd 6 (by kernel_rfl)
          have d8 : a.tmps.getD 78 undef = (.int .i64 (l.length : Int)) := hd 8 (by kernel_rfl)
          have d5 : a.tmps.getD 75 undef = (.bool true) := hd 5 (by kernel_rfl)
          have hlt79 : ¬ ((l.length : Int) + 1 ≤ (l.length : Int)) := by omega
          refine ⟨(fun j b h => by cases h; exact d5), FlowOp.pure _ (by simp [go_sem, Act.eval, d6, d8, hlt79]) rfl⟩
        · replace ho := op_at ho (by rfl)
          subst ho
          have d9 : a.tmps.getD 79 undef = (.pointer (some ⟨g, off + l.length, none⟩)) := hd 9 (by kernel_rfl)
          have d5 : a.tmps.getD 75 undef = (.bool true) := hd 5 (by kernel_rfl)
          have k77 := hc77 W hB
          refine ⟨(fun j b h => by cases h; exact d5), FlowOp.pure _ (by simp [go_sem, Act.eval, d9, k77]) rfl⟩
        · replace ho := op_at ho (by rfl)
          subst ho
          have d10 : a.tmps.getD 80 undef = (.int .u8 77) := hd 10 (by kernel_rfl)
          have d5 : a.tmps.getD 75 undef = (.bool true) := hd 5 (by kernel_rfl)
          refine ⟨(fun j b h => by cases h; exact d5), FlowOp.pure _ (by simp [go_sem, Act.eval, d10]) rfl⟩
        · replace ho := op_at ho (by rfl)
          subst ho
          have d5 : a.tmps.getD 75 undef = (.bool true) := hd 5 (by kernel_rfl)
          have d11 : a.tmps.getD 81 undef = (.bool true) := hd 11 (by kernel_rfl)
          refine ⟨(fun j b h => by cases h), FlowOp.pure _ (by simp [go_sem, Act.eval, d5, d11]) rfl⟩
        · replace ho := op_at ho (by rfl)
          subst ho
          have d12 : a.tmps.getD 82 undef = (.bool true) := hd 12 (by kernel_rfl)
          refine ⟨(fun j b h => by cases h), FlowOp.pure _ (by simp [go_sem, Act.eval, d12]) rfl⟩
        · replace ho := op_at ho (by rfl)
          subst ho
          have f11 : a.tmps.getD 11 undef = (.slice (some ⟨g, off, none⟩) (l.length + 1) cap2) := hf 11 (by kernel_rfl)
          have d13 : a.tmps.getD 83 undef = (.bool true) := hd 13 (by kernel_rfl)
          refine ⟨(fun j b h => by cases h; exact d13), FlowOp.pure _ (by simp [go_sem, Act.eval, f11]) rfl⟩
        · replace ho := op_at ho (by rfl)
          subst ho
          have f0 : a.tmps.getD 0 undef = (.slice ao l.length cap) := hf 0 (by kernel_rfl)
          have d13 : a.tmps.getD 83 undef = (.bool true) := hd 13 (by kernel_rfl)
          refine ⟨(fun j b h => by cases h; exact d13), FlowOp.pure _ (by simp [go_sem, Act.eval, f0]) rfl⟩
        · replace ho := op_at ho (by rfl)
          subst ho
          have d15 : a.tmps.getD 85 undef = (.slice ao l.length cap) := hd 15 (by kernel_rfl)
          have d13 : a.tmps.getD 83 undef = (.bool true) := hd 13 (by kernel_rfl)
          refine ⟨(fun j b h => by cases h; exact d13), FlowOp.pure _ (by simp [go_sem, Act.eval, d15]) rfl⟩
        · replace ho := op_at ho (by rfl)
          subst ho
          have d14 : a.tmps.getD 84 undef = (.slice (some ⟨g, off, none⟩) (l.length + 1) cap2) := hd 14 (by kernel_rfl)
          have d16 : a.tmps.getD 86 undef = (.int .i64 (l.length : Int)) := hd 16 (by kernel_rfl)
          have d13 : a.tmps.getD 83 undef = (.bool true) := hd 13 (by kernel_rfl)
          refine ⟨(fun j b h => by cases h; exact d13), FlowOp.pure _ (by simp [go_sem, Act.eval, d14, d16, hcut]) rfl⟩
        · replace ho := op_at ho (by rfl)
          subst ho
          have d17 : a.tmps.getD 87 undef = vc := hd 17 (by kernel_rfl)
          have d13 : a.tmps.getD 83 undef = (.bool true) := hd 13 (by kernel_rfl)
          have kh := (hcb W hB).strB
          refine ⟨(fun j b h => by cases h; exact d13), FlowOp.pure _ (by simp [go_sem, Act.eval, d17, kh]) rfl⟩
        · replace ho := op_at ho (by rfl)
          subst ho
          have f0 : a.tmps.getD 0 undef = (.slice ao l.length cap) := hf 0 (by kernel_rfl)
          have d13 : a.tmps.getD 83 undef = (.bool true) := hd 13 (by kernel_rfl)
          refine ⟨(fun j b h => by cases h; exact d13), FlowOp.pure _ (by simp [go_sem, Act.eval, f0]) rfl⟩
        · replace ho := op_at ho (by rfl)
          subst ho
          have d19 : a.tmps.getD 89 undef = (.slice ao l.length cap) := hd 19 (by kernel_rfl)
          have d13 : a.tmps.getD 83 undef = (.bool true) := hd 13 (by kernel_rfl)
          have kh := (hvb W hB).strB
          refine ⟨(fun j b h => by cases h; exact d13), FlowOp.pure _ (by simp [go_sem, Act.eval, d19, kh]) rfl⟩
        · replace ho := op_at ho (by rfl)
          subst ho
          have d18 : a.tmps.getD 88 undef = (.string ⟨l.toArray⟩) := hd 18 (by kernel_rfl)
          have d20 : a.tmps.getD 90 undef = (.string ⟨l.toArray⟩) := hd 20 (by kernel_rfl)
          have d13 : a.tmps.getD 83 undef = (.bool true) := hd 13 (by kernel_rfl)
          refine ⟨(fun j b h => by cases h; exact d13), FlowOp.pure _ (by simp [go_sem, Act.eval, d18, d20]) rfl⟩
        · replace ho := op_at ho (by rfl)
          subst ho
          have d13 : a.tmps.getD 83 undef = (.bool true) := hd 13 (by kernel_rfl)
          have d21 : a.tmps.getD 91 undef = (.bool true) := hd 21 (by kernel_rfl)
          refine ⟨(fun j b h => by cases h), FlowOp.pure _ (by simp [go_sem, Act.eval, d13, d21]) rfl⟩
        · replace ho := op_at ho (by rfl)
          subst ho
          have d22 : a.tmps.getD 92 undef = (.bool true) := hd 22 (by kernel_rfl)
          refine ⟨(fun j b h => by cases h), FlowOp.pure _ (by simp [go_sem, Act.eval, d22]) rfl⟩
        · replace ho := op_at ho (by rfl)
          subst ho
          have d23 : a.tmps.getD 93 undef = (.bool true) := hd 23 (by kernel_rfl)
          refine ⟨(fun j b h => by cases h; exact d23), FlowOp.call 9 #[] (by simp [go_sem, Act.eval]) ?_⟩
          refine (awake_true W).mono ?_
          rintro e W' ⟨rfl, hBe⟩
          exact ⟨_, rfl, hBe, rfl⟩
        · replace ho := op_at ho (by rfl)
          subst ho
          have d23 : a.tmps.getD 93 undef = (.bool true) := hd 23 (by kernel_rfl)
          have d24 : a.tmps.getD 94 undef = (.bool true) := hd 24 (by kernel_rfl)
          refine ⟨(fun j b h => by cases h), FlowOp.pure _ (by simp [go_sem, Act.eval, d23, d24]) rfl⟩
        · replace ho := op_at ho (by rfl)
          subst ho
          have d25 : a.tmps.getD 95 undef = (.bool true) := hd 25 (by kernel_rfl)
          refine ⟨(fun j b h => by cases h), FlowOp.pure _ (by simp [go_sem, Act.eval, d25]) rfl⟩
      · intro vs8 W8 hB8 hv
        have h0 : vs8 0 = (.int .u64 (x : Int)) := hv 0 (show 0 < 27 by decide)
        have h1 : vs8 1 = (.int .i64 ((vint x).length : Nat)) := hv 1 (show 1 < 27 by decide)
        have h2 : vs8 2 = (.int .u64 (x : Int)) := hv 2 (show 2 < 27 by decide)
        have h3 : vs8 3 = (.int .i64 ((vint x).length : Nat)) := hv 3 (show 3 < 27 by decide)
        have h4 : vs8 4 = (.bool true) := hv 4 (show 4 < 27 by decide)
        have h5 : vs8 5 = (.bool true) := hv 5 (show 5 < 27 by decide)
        have h6 : vs8 6 = (.slice (some ⟨g, off, none⟩) (l.length + 1) cap2) := hv 6 (show 6 < 27 by decide)
        have h7 : vs8 7 = (.slice ao l.length cap) := hv 7 (show 7 < 27 by decide)
        have h8 : vs8 8 = (.int .i64 (l.length : Int)) := hv 8 (show 8 < 27 by decide)
        have h9 : vs8 9 = (.pointer (some ⟨g, off + l.length, none⟩)) := hv 9 (show 9 < 27 by decide)
        have h10 : vs8 10 = (.int .u8 77) := hv 10 (show 10 < 27 by decide)
        have h11 : vs8 11 = (.bool true) := hv 11 (show 11 < 27 by decide)
        have h12 : vs8 12 = (.bool true) := hv 12 (show 12 < 27 by decide)
        have h13 : vs8 13 = (.bool true) := hv 13 (show 13 < 27 by decide)
        have h14 : vs8 14 = (.slice (some ⟨g, off, none⟩) (l.length + 1) cap2) := hv 14 (show 14 < 27 by decide)
        have h15 : vs8 15 = (.slice ao l.length cap) := hv 15 (show 15 < 27 by decide)
        have h16 : vs8 16 = (.int .i64 (l.length : Int)) := hv 16 (show 16 < 27 by decide)
        have h17 : vs8 17 = vc := hv 17 (show 17 < 27 by decide)
        have h18 : vs8 18 = (.string ⟨l.toArray⟩) := hv 18 (show 18 < 27 by decide)
        have h19 : vs8 19 = (.slice ao l.length cap) := hv 19 (show 19 < 27 by decide)
        have h20 : vs8 20 = (.string ⟨l.toArray⟩) := hv 20 (show 20 < 27 by decide)
        have h21 : vs8 21 = (.bool true) := hv 21 (show 21 < 27 by decide)
        have h22 : vs8 22 = (.bool true) := hv 22 (show 22 < 27 by decide)
        have h23 : vs8 23 = (.bool true) := hv 23 (show 23 < 27 by decide)
        have h24 : vs8 24 = (.bool true) := hv 24 (show 24 < 27 by decide)
        have h25 : vs8 25 = (.bool true) := hv 25 (show 25 < 27 by decide)
        have h26 : vs8 26 = (.bool true) := hv 26 (show 26 < 27 by decide)
        clear hv
        show Exit.then _ _ Exit.normal (puts _ vs8 27 _) W8
        simp only [puts, h0, h1, h2, h3, h4, h5, h6, h7, h8, h9, h10, h11, h12, h13, h14, h15, h16, h17, h18, h19, h20, h21, h22, h23, h24, h25, h26]
        clear h0 h1 h2 h3 h4 h5 h6 h7 h8 h9 h10 h11 h12 h13 h14 h15 h16 h17 h18 h19 h20 h21 h22 h23 h24 h25 h26
        clear hcut hcb hvb hc77
        go_simp
        go_wp2
        go_ret
        exact ⟨rfl, ((hB2.trans (hB4.mono hB2.size)).trans (hB6.mono (Nat.le_trans hB2.size hB4.size))).trans (hB8.mono (Nat.le_trans (Nat.le_trans hB2.size hB4.size) hB6.size))⟩

end Go.Proofs.Ytmekpmboghmfpaa
