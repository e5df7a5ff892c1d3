/- WireItems: the law, walked (by program: wip/tools/gen_wire19.py). -/
import Derived.Test.YtgnpjenpehfjbaaDoorWire18
namespace Go.Proofs.YtgnpjenpehfjbaaDoor
open Go.RowKit

set_option maxRecDepth 100000 in
set_option maxHeartbeats 2000000 in
theorem law_WireItems (x : Itm) (s : List UInt8) (w : World) (hx : x.name.length ≤ 9223372036854775807) (hs : s.length ≤ 9223372036854775807) (ht : TabOK w) :
    Calls Tryd.prog 4 #[.agg x.cells.toArray, .string ⟨s.toArray⟩] w fun e w' => e = .returned (.bool true) ∧ Below w.heap.size w w' := by
  have HX := Lib.hid hx
  have HS := Lib.hid hs
  have HT := Lib.hid ht
  obtain ⟨g0, k0⟩ := new_block w (.cells x.cells.toArray 38)
  have LB := Lib.hid g0
  have KB := Lib.hid k0
  clear hx hs ht g0 k0
  obtain ⟨b1, hb1⟩ : ∃ b, b = fitI x := ⟨_, rfl⟩
  obtain ⟨b2, hb2⟩ : ∃ b, b = nameB s := ⟨_, rfl⟩
  have H1 : Hid (∀ W, Calls Tryd.prog 17 #[.agg x.cells.toArray] W fun e w' => e = .returned (.bool b1) ∧ Below W.heap.size W w') := fun W => by rw [hb1]; exact item_any x W HX.out
  have H2 : Hid (∀ W, Calls Tryd.prog 18 #[.agg x.cells.toArray] W fun e w' => e = .returned (.bool b1) ∧ Below W.heap.size W w') := fun W => by rw [hb1]; exact ritem_any x W HX.out
  have H3 : Hid (∀ W, Calls Tryd.prog 19 #[.string ⟨s.toArray⟩] W fun e w' => e = .returned (.bool b2) ∧ W = w') := fun W => by rw [hb2]; exact name_any s W HS.out
  have H4 : Hid (∀ W, Calls Tryd.prog 20 #[.string ⟨s.toArray⟩] W fun e w' => e = .returned (.bool b2) ∧ W = w') := fun W => by rw [hb2]; exact rname_any s W HS.out
  clear hb1 hb2
  go_enter Tryd.func4, Tryd.ntmps4
  go_wp2_with (fail)
  obtain ⟨W0, hW0⟩ : ∃ W0, W0 = w.alloc (.cells x.cells.toArray 38) := ⟨_, rfl⟩
  rw [← hW0] at LB KB
  rw [show w.alloc (.cells x.cells.toArray 38) = W0 from hW0.symm]
  clear hW0
  refine wpIn_wide (n := 5).1 (wpIn_flowM (F0 := Fence.wide) (n0 := 5) (fun _ => trivial) (fun h => by cases h) (by kernel_rfl) (by kernel_rfl) 16 16 (by kernel_rfl) (fun j => ([0, 1, 2, 3, 4, 5, 6, 7, 8, 9, 10, 11, 12, 13, 14, 15] : List Nat).getD j 0) (fun j => ([5, 6, 7, 8, 9, 10, 11, 12, 13, 14, 15, 16, 17, 18, 19, 4] : List Nat).getD j 0) (by kernel_rfl) (by kernel_rfl) (by kernel_rfl) (by kernel_rfl) (by kernel_rfl) (by kernel_rfl) (by kernel_rfl) (fun j zv => ([(fun zv => zv = (.agg x.cells.toArray)), (fun zv => zv = (.bool b1)), (fun zv => zv = (.agg x.cells.toArray)), (fun zv => zv = (.bool b1)), (fun zv => zv = (.bool true)), (fun zv => zv = (.bool true)), (fun zv => zv = (.string ⟨s.toArray⟩)), (fun zv => zv = (.bool b2)), (fun zv => zv = (.string ⟨s.toArray⟩)), (fun zv => zv = (.bool b2)), (fun zv => zv = (.bool true)), (fun zv => zv = (.bool true)), (fun zv => zv = (.bool true)), (fun zv => zv = (.bool true)), (fun zv => zv = (.bool true)), (fun zv => zv = (.bool true))] : List (Value → Prop)).getD j (fun _ => True) zv) (fun _ _ W => Below W0.heap.size W0 W) ?h0a ?stepa ?fina)
  case h0a => exact fun _ => bdN W0.heap.size W0 1
  case stepa =>
    intro i o a W d vs hi ho hdi hJ hf hr hF
    replace hi : i < 16 := hi
    rcases (show i = 0 ∨ i = 1 ∨ i = 2 ∨ i = 3 ∨ i = 4 ∨ i = 5 ∨ i = 6 ∨ i = 7 ∨ i = 8 ∨ i = 9 ∨ i = 10 ∨ i = 11 ∨ i = 12 ∨ i = 13 ∨ i = 14 ∨ i = 15 by omega) with rfl | rfl | rfl | rfl | rfl | rfl | rfl | rfl | rfl | rfl | rfl | rfl | rfl | rfl | rfl | rfl
    · replace ho := op_at ho (by rfl)
      subst ho
      have f2 : a.tmps.getD 2 undef = (.pointer (some ⟨w.heap.size, 0, none⟩)) := hf 2 (by kernel_rfl)
      exact .inl ⟨(fun k b h => by cases h), .inl ⟨0, by decide, rfl, (.agg x.cells.toArray), W, (exec_load_row 38 _ rfl w.heap.size _ _ (.struct (Tryd.prog.fieldsOf 38)) (show a.eval (.tmp 2) = _ from f2) (stays KB.out hJ) (by kernel_rfl) rfl (by kernel_rfl)), rfl, hJ⟩⟩
    · replace ho := op_at ho (by rfl)
      subst ho
      have d0 : a.tmps.getD 5 undef = (.agg x.cells.toArray) := by have h1 := hF 0 (by decide) (hr 0 (by kernel_rfl)); exact h1.2.trans h1.1
      refine .inl ⟨(fun k b h => by cases h), .inr (.inr ⟨1, by decide, rfl, 17, #[(.agg x.cells.toArray)], W, (by simp [go_sem, Act.eval, d0]), ?_⟩)⟩
      refine (callsIn_wide.2 (H1.out W)).mono ?_
      rintro e W' ⟨rfl, hBe⟩
      exact ⟨_, rfl, rfl, hJ.trans (hBe.mono hJ.size)⟩
    · replace ho := op_at ho (by rfl)
      subst ho
      have f2 : a.tmps.getD 2 undef = (.pointer (some ⟨w.heap.size, 0, none⟩)) := hf 2 (by kernel_rfl)
      exact .inl ⟨(fun k b h => by cases h), .inl ⟨2, by decide, rfl, (.agg x.cells.toArray), W, (exec_load_row 38 _ rfl w.heap.size _ _ (.struct (Tryd.prog.fieldsOf 38)) (show a.eval (.tmp 2) = _ from f2) (stays KB.out hJ) (by kernel_rfl) rfl (by kernel_rfl)), rfl, hJ⟩⟩
    · replace ho := op_at ho (by rfl)
      subst ho
      have d2 : a.tmps.getD 7 undef = (.agg x.cells.toArray) := by have h1 := hF 2 (by decide) (hr 2 (by kernel_rfl)); exact h1.2.trans h1.1
      refine .inl ⟨(fun k b h => by cases h), .inr (.inr ⟨3, by decide, rfl, 18, #[(.agg x.cells.toArray)], W, (by simp [go_sem, Act.eval, d2]), ?_⟩)⟩
      refine (callsIn_wide.2 (H2.out W)).mono ?_
      rintro e W' ⟨rfl, hBe⟩
      exact ⟨_, rfl, rfl, hJ.trans (hBe.mono hJ.size)⟩
    · replace ho := op_at ho (by rfl)
      subst ho
      have d1 : a.tmps.getD 6 undef = (.bool b1) := by have h1 := hF 1 (by decide) (hr 1 (by kernel_rfl)); exact h1.2.trans h1.1
      have d3 : a.tmps.getD 8 undef = (.bool b1) := by have h1 := hF 3 (by decide) (hr 3 (by kernel_rfl)); exact h1.2.trans h1.1
      exact .inl ⟨(fun k b h => by cases h), .inl ⟨4, by decide, rfl, (.bool true), W, (by simp [go_sem, Act.eval, d1, d3]), rfl, hJ⟩⟩
    · replace ho := op_at ho (by rfl)
      subst ho
      have d4 : a.tmps.getD 9 undef = (.bool true) := by have h1 := hF 4 (by decide) (hr 4 (by kernel_rfl)); exact h1.2.trans h1.1
      exact .inl ⟨(fun k b h => by cases h), .inl ⟨5, by decide, rfl, (.bool true), W, (by simp [go_sem, Act.eval, d4]), rfl, hJ⟩⟩
    · replace ho := op_at ho (by rfl)
      subst ho
      have d5 : a.tmps.getD 10 undef = (.bool true) := by have h1 := hF 5 (by decide) (hr 5 (by kernel_rfl)); exact h1.2.trans h1.1
      have f1 : a.tmps.getD 1 undef = (.string ⟨s.toArray⟩) := hf 1 (by kernel_rfl)
      exact .inl ⟨(fun k b h => by cases h; exact ⟨5, by decide, rfl, d5⟩), .inl ⟨6, by decide, rfl, (.string ⟨s.toArray⟩), W, (by simp [go_sem, Act.eval, d5, f1]), rfl, hJ⟩⟩
    · replace ho := op_at ho (by rfl)
      subst ho
      have d6 : a.tmps.getD 11 undef = (.string ⟨s.toArray⟩) := by have h1 := hF 6 (by decide) (hr 6 (by kernel_rfl)); exact h1.2.trans h1.1
      have d5 : a.tmps.getD 10 undef = (.bool true) := by have h1 := hF 5 (by decide) (hr 5 (by kernel_rfl)); exact h1.2.trans h1.1
      refine .inl ⟨(fun k b h => by cases h; exact ⟨5, by decide, rfl, d5⟩), .inr (.inr ⟨7, by decide, rfl, 19, #[(.string ⟨s.toArray⟩)], W, (by simp [go_sem, Act.eval, d6, d5]), ?_⟩)⟩
      refine (callsIn_wide.2 (H3.out W)).mono ?_
      rintro e W' ⟨rfl, rfl⟩
      exact ⟨_, rfl, rfl, hJ⟩
    · replace ho := op_at ho (by rfl)
      subst ho
      have d5 : a.tmps.getD 10 undef = (.bool true) := by have h1 := hF 5 (by decide) (hr 5 (by kernel_rfl)); exact h1.2.trans h1.1
      have f1 : a.tmps.getD 1 undef = (.string ⟨s.toArray⟩) := hf 1 (by kernel_rfl)
      exact .inl ⟨(fun k b h => by cases h; exact ⟨5, by decide, rfl, d5⟩), .inl ⟨8, by decide, rfl, (.string ⟨s.toArray⟩), W, (by simp [go_sem, Act.eval, d5, f1]), rfl, hJ⟩⟩
    · replace ho := op_at ho (by rfl)
      subst ho
      have d8 : a.tmps.getD 13 undef = (.string ⟨s.toArray⟩) := by have h1 := hF 8 (by decide) (hr 8 (by kernel_rfl)); exact h1.2.trans h1.1
      have d5 : a.tmps.getD 10 undef = (.bool true) := by have h1 := hF 5 (by decide) (hr 5 (by kernel_rfl)); exact h1.2.trans h1.1
      refine .inl ⟨(fun k b h => by cases h; exact ⟨5, by decide, rfl, d5⟩), .inr (.inr ⟨9, by decide, rfl, 20, #[(.string ⟨s.toArray⟩)], W, (by simp [go_sem, Act.eval, d8, d5]), ?_⟩)⟩
      refine (callsIn_wide.2 (H4.out W)).mono ?_
      rintro e W' ⟨rfl, rfl⟩
      exact ⟨_, rfl, rfl, hJ⟩
    · replace ho := op_at ho (by rfl)
      subst ho
      have d7 : a.tmps.getD 12 undef = (.bool b2) := by have h1 := hF 7 (by decide) (hr 7 (by kernel_rfl)); exact h1.2.trans h1.1
      have d9 : a.tmps.getD 14 undef = (.bool b2) := by have h1 := hF 9 (by decide) (hr 9 (by kernel_rfl)); exact h1.2.trans h1.1
      have d5 : a.tmps.getD 10 undef = (.bool true) := by have h1 := hF 5 (by decide) (hr 5 (by kernel_rfl)); exact h1.2.trans h1.1
      exact .inl ⟨(fun k b h => by cases h; exact ⟨5, by decide, rfl, d5⟩), .inl ⟨10, by decide, rfl, (.bool true), W, (by simp [go_sem, Act.eval, d7, d9, d5]), rfl, hJ⟩⟩
    · replace ho := op_at ho (by rfl)
      subst ho
      have d5 : a.tmps.getD 10 undef = (.bool true) := by have h1 := hF 5 (by decide) (hr 5 (by kernel_rfl)); exact h1.2.trans h1.1
      have d10 : a.tmps.getD 15 undef = (.bool true) := by have h1 := hF 10 (by decide) (hr 10 (by kernel_rfl)); exact h1.2.trans h1.1
      exact .inl ⟨(fun k b h => by cases h), .inl ⟨11, by decide, rfl, (.bool true), W, (by simp [go_sem, Act.eval, d5, d10]), rfl, hJ⟩⟩
    · replace ho := op_at ho (by rfl)
      subst ho
      have d11 : a.tmps.getD 16 undef = (.bool true) := by have h1 := hF 11 (by decide) (hr 11 (by kernel_rfl)); exact h1.2.trans h1.1
      exact .inl ⟨(fun k b h => by cases h), .inl ⟨12, by decide, rfl, (.bool true), W, (by simp [go_sem, Act.eval, d11]), rfl, hJ⟩⟩
    · replace ho := op_at ho (by rfl)
      subst ho
      have d12 : a.tmps.getD 17 undef = (.bool true) := by have h1 := hF 12 (by decide) (hr 12 (by kernel_rfl)); exact h1.2.trans h1.1
      refine .inl ⟨(fun k b h => by cases h; exact ⟨12, by decide, rfl, d12⟩), .inr (.inr ⟨13, by decide, rfl, 16, #[], W, (by simp [go_sem, Act.eval, d12]), ?_⟩)⟩
      refine (callsIn_wide.2 (awake_any W (HT.out.below (LB.out.trans (hJ.mono LB.out.size)) HT.out.lt))).mono ?_
      rintro e W' ⟨rfl, hBe⟩
      exact ⟨_, rfl, rfl, hJ.trans (hBe.mono hJ.size)⟩
    · replace ho := op_at ho (by rfl)
      subst ho
      have d12 : a.tmps.getD 17 undef = (.bool true) := by have h1 := hF 12 (by decide) (hr 12 (by kernel_rfl)); exact h1.2.trans h1.1
      have d13 : a.tmps.getD 18 undef = (.bool true) := by have h1 := hF 13 (by decide) (hr 13 (by kernel_rfl)); exact h1.2.trans h1.1
      exact .inl ⟨(fun k b h => by cases h), .inl ⟨14, by decide, rfl, (.bool true), W, (by simp [go_sem, Act.eval, d12, d13]), rfl, hJ⟩⟩
    · replace ho := op_at ho (by rfl)
      subst ho
      have d14 : a.tmps.getD 19 undef = (.bool true) := by have h1 := hF 14 (by decide) (hr 14 (by kernel_rfl)); exact h1.2.trans h1.1
      exact .inl ⟨(fun k b h => by cases h), .inl ⟨15, by decide, rfl, (.bool true), W, (by simp [go_sem, Act.eval, d14]), rfl, hJ⟩⟩
  case fina =>
    intro d vs Wa hall hJ hF
    have h0 : vs 0 = (.agg x.cells.toArray) := hF 0 (by decide)
    have h1 : vs 1 = (.bool b1) := hF 1 (by decide)
    have h2 : vs 2 = (.agg x.cells.toArray) := hF 2 (by decide)
    have h3 : vs 3 = (.bool b1) := hF 3 (by decide)
    have h4 : vs 4 = (.bool true) := hF 4 (by decide)
    have h5 : vs 5 = (.bool true) := hF 5 (by decide)
    have h6 : vs 6 = (.string ⟨s.toArray⟩) := hF 6 (by decide)
    have h7 : vs 7 = (.bool b2) := hF 7 (by decide)
    have h8 : vs 8 = (.string ⟨s.toArray⟩) := hF 8 (by decide)
    have h9 : vs 9 = (.bool b2) := hF 9 (by decide)
    have h10 : vs 10 = (.bool true) := hF 10 (by decide)
    have h11 : vs 11 = (.bool true) := hF 11 (by decide)
    have h12 : vs 12 = (.bool true) := hF 12 (by decide)
    have h13 : vs 13 = (.bool true) := hF 13 (by decide)
    have h14 : vs 14 = (.bool true) := hF 14 (by decide)
    have h15 : vs 15 = (.bool true) := hF 15 (by decide)
    clear hF
    have LW := Lib.hid (LB.out.trans (hJ.mono LB.out.size))
    clear hJ hall
    show (_ : Exit → Act → World → Prop) Exit.normal (puts _ vs 16 _) Wa
    simp only [puts, h0, h1, h2, h3, h4, h5, h6, h7, h8, h9, h10, h11, h12, h13, h14, h15, List.getD_cons_zero, List.getD_cons_succ]
    clear h0 h1 h2 h3 h4 h5 h6 h7 h8 h9 h10 h11 h12 h13 h14 h15
    go_simp
    go_wp2
    go_ret
    exact ⟨by first | rfl | kernel_rfl, LW.out⟩

end Go.Proofs.YtgnpjenpehfjbaaDoor
