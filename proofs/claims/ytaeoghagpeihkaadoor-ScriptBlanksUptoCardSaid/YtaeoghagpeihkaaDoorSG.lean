/- The document's number of a word (by program: wip/tools/gen_snum2.py).
Scripts: words, shapes, blanks, digits, both sides (by program: wip/tools/gen_sleaf.py).
Scripts: a kind's words by its number and by its first word (by program: wip/tools/gen_sleaf2.py). -/
import Derived.Test.YtaeoghagpeihkaaDoorSF
import Derived.Test.YtaeoghagpeihkaaDoorSA
import Derived.Test.YtaeoghagpeihkaaDoorSC
import Derived.Lib.SmallJoins
import Derived.Lib.AppendIntMem
import Derived.Lib.ItoaLen
import Derived.Laws.ResultCell
set_option linter.unusedSimpArgs false
set_option linter.unusedVariables false
namespace Go.Proofs.YtaeoghagpeihkaaDoor
open Go.RowKit

set_option maxRecDepth 100000 in
set_option maxHeartbeats 4000000 in
theorem rnumber_any (q : Bool) (t : List UInt8) (w : World) (hs : t.length ≤ 100000000) : Calls Tryd.prog 43 #[.agg #[.bool q, .string ⟨t.toArray⟩]] w fun e w' => e = .returned (.tuple #[.int .i64 ((numF t).getD 0), .bool ((numF t).isSome && !q)]) ∧ Below w.heap.size w w' := by
  have hnum : ∀ W, _ := fun W => rnum_any ⟨t.toArray⟩ W (by simpa [ByteArray.size] using hs)
  simp only [List.toList_toArray] at hnum
  have HNUM := Lib.hid hnum
  clear hnum
  obtain ⟨g1, j1⟩ := new_block w (.cells #[.bool q, .string ⟨t.toArray⟩] 90)
  have HB := Lib.hid g1
  have KT := Lib.hid j1
  clear g1 j1
  obtain ⟨p, hp⟩ : ∃ p, p = numF t := ⟨_, rfl⟩
  rw [← hp] at HNUM ⊢
  clear hp
  go_enter Tryd.func43, Tryd.ntmps43
  go_wp2_with (fail)
  with_reducible refine (HNUM.out _).mono ?_
  rintro e w1 ⟨rfl, rfl⟩
  obtain ⟨wr, hwr⟩ : ∃ W, W = w.alloc (.cells #[.bool q, .string ⟨t.toArray⟩] 90) := ⟨_, rfl⟩
  have HT0 : Hid (wr.cell? ⟨w.heap.size, 0, none⟩ = some (.bool q)) := by rw [hwr]; exact cell_of_row _ _ 0 _ _ _ KT.out
  have HBD : Hid (Below w.heap.size w wr.drew) := by rw [hwr]; exact HB.out.drew
  rw [← hwr]
  clear hwr
  cases p with
  | none =>
    go_upto_region 2 with (fail)
    refine wpIn_wide (n := 5).1 (wpIn_flowM (F0 := Fence.wide) (n0 := 5) (fun _ => trivial) (fun h => by cases h) (by kernel_rfl) (by kernel_rfl) 9 9 (by kernel_rfl) (fun j => ([0, 1, 2, 3, 4, 5, 6, 7, 8] : List Nat).getD j 0) (fun j => ([12, 13, 14, 15, 16, 17, 18, 2, 3] : List Nat).getD j 0) (by kernel_rfl) (by kernel_rfl) (by kernel_rfl) (by kernel_rfl) (by kernel_rfl) (by kernel_rfl) (by kernel_rfl) (fun j zv => ([(fun zv => zv = (.int .i64 0)), (fun zv => zv = (.bool false)), (fun zv => zv = (.bool false)), (fun zv => zv = undef), (fun zv => zv = undef), (fun zv => zv = undef), (fun zv => zv = (.bool false)), (fun zv => zv = (.int .i64 0)), (fun zv => zv = (.bool false))] : List (Value → Prop)).getD j (fun _ => True) zv) (fun _ _ W => W = wr.drew) ?h0z ?stepz ?finz)
    case h0z => exact fun _ => rfl
    case stepz =>
      intro i o a W d vs hi ho hdi hJ hf hr hF
      replace hi : i < 9 := hi
      rcases (show i = 0 ∨ i = 1 ∨ i = 2 ∨ i = 3 ∨ i = 4 ∨ i = 5 ∨ i = 6 ∨ i = 7 ∨ i = 8 by omega) with rfl | rfl | rfl | rfl | rfl | rfl | rfl | rfl | rfl
      · replace ho := op_at ho (by rfl)
        subst ho
        have f4 : a.tmps.getD 4 undef = (.int .i64 0) := hf 4 (by kernel_rfl)
        exact .inl ⟨(fun k b h => by cases h), .inl ⟨0, by decide, rfl, (.int .i64 0), W, (by simp [go_sem, Act.eval, f4]), rfl, hJ⟩⟩
      · replace ho := op_at ho (by rfl)
        subst ho
        have f5 : a.tmps.getD 5 undef = (.bool false) := hf 5 (by kernel_rfl)
        exact .inl ⟨(fun k b h => by cases h), .inl ⟨1, by decide, rfl, (.bool false), W, (by simp [go_sem, Act.eval, f5]), rfl, hJ⟩⟩
      · replace ho := op_at ho (by rfl)
        subst ho
        have d1 : a.tmps.getD 13 undef = (.bool false) := by have h1 := hF 1 (by decide) (hr 1 (by kernel_rfl)); exact h1.2.trans h1.1
        exact .inl ⟨(fun k b h => by cases h), .inl ⟨2, by decide, rfl, (.bool false), W, (by simp [go_sem, Act.eval, d1]), rfl, hJ⟩⟩
      · replace ho := op_at ho (by rfl)
        subst ho
        have d2 : a.tmps.getD 14 undef = (.bool false) := by have h1 := hF 2 (by decide) (hr 2 (by kernel_rfl)); exact h1.2.trans h1.1
        exact .inr ⟨2, true, 2, rfl, by decide, rfl, (fun hc => by have hc2 := d2.symm.trans hc; first | (cases hc2; done) | simp [undef] at hc2), .inl ⟨3, by decide, rfl, rfl, hJ⟩⟩
      · replace ho := op_at ho (by rfl)
        subst ho
        have d2 : a.tmps.getD 14 undef = (.bool false) := by have h1 := hF 2 (by decide) (hr 2 (by kernel_rfl)); exact h1.2.trans h1.1
        exact .inr ⟨2, true, 2, rfl, by decide, rfl, (fun hc => by have hc2 := d2.symm.trans hc; first | (cases hc2; done) | simp [undef] at hc2), .inl ⟨4, by decide, rfl, rfl, hJ⟩⟩
      · replace ho := op_at ho (by rfl)
        subst ho
        have d2 : a.tmps.getD 14 undef = (.bool false) := by have h1 := hF 2 (by decide) (hr 2 (by kernel_rfl)); exact h1.2.trans h1.1
        exact .inr ⟨2, true, 2, rfl, by decide, rfl, (fun hc => by have hc2 := d2.symm.trans hc; first | (cases hc2; done) | simp [undef] at hc2), .inl ⟨5, by decide, rfl, rfl, hJ⟩⟩
      · replace ho := op_at ho (by rfl)
        subst ho
        have d2 : a.tmps.getD 14 undef = (.bool false) := by have h1 := hF 2 (by decide) (hr 2 (by kernel_rfl)); exact h1.2.trans h1.1
        have d5 : a.tmps.getD 17 undef = undef := by have h1 := hF 5 (by decide) (hr 5 (by kernel_rfl)); exact h1.2.trans h1.1
        exact .inl ⟨(fun k b h => by cases h), .inl ⟨6, by decide, rfl, (.bool false), W, (by simp [go_sem, Act.eval, d2, d5]), rfl, hJ⟩⟩
      · replace ho := op_at ho (by rfl)
        subst ho
        have d0 : a.tmps.getD 12 undef = (.int .i64 0) := by have h1 := hF 0 (by decide) (hr 0 (by kernel_rfl)); exact h1.2.trans h1.1
        exact .inl ⟨(fun k b h => by cases h), .inl ⟨7, by decide, rfl, (.int .i64 0), W, (by simp [go_sem, Act.eval, d0]), rfl, hJ⟩⟩
      · replace ho := op_at ho (by rfl)
        subst ho
        have d6 : a.tmps.getD 18 undef = (.bool false) := by have h1 := hF 6 (by decide) (hr 6 (by kernel_rfl)); exact h1.2.trans h1.1
        exact .inl ⟨(fun k b h => by cases h), .inl ⟨8, by decide, rfl, (.bool false), W, (by simp [go_sem, Act.eval, d6]), rfl, hJ⟩⟩
    case finz =>
      intro d vs Wz hall hJ hF
      have h0 : vs 0 = (.int .i64 0) := hF 0 (by decide)
      have h1 : vs 1 = (.bool false) := hF 1 (by decide)
      have h2 : vs 2 = (.bool false) := hF 2 (by decide)
      have h3 : vs 3 = undef := hF 3 (by decide)
      have h4 : vs 4 = undef := hF 4 (by decide)
      have h5 : vs 5 = undef := hF 5 (by decide)
      have h6 : vs 6 = (.bool false) := hF 6 (by decide)
      have h7 : vs 7 = (.int .i64 0) := hF 7 (by decide)
      have h8 : vs 8 = (.bool false) := hF 8 (by decide)
      clear hF
      show (_ : Exit → Act → World → Prop) Exit.normal (puts _ vs 9 _) Wz
      simp only [puts, h0, h1, h2, h3, h4, h5, h6, h7, h8, List.getD_cons_zero, List.getD_cons_succ]
      clear h0 h1 h2 h3 h4 h5 h6 h7 h8
      subst hJ
      go_simp
      go_wp2_with (fail)
      go_ret2
      exact ⟨rfl, HBD.out⟩
  | some x =>
    go_upto_region 2 with (fail)
    refine wpIn_wide (n := 5).1 (wpIn_flowM (F0 := Fence.wide) (n0 := 5) (fun _ => trivial) (fun h => by cases h) (by kernel_rfl) (by kernel_rfl) 9 9 (by kernel_rfl) (fun j => ([0, 1, 2, 3, 4, 5, 6, 7, 8] : List Nat).getD j 0) (fun j => ([12, 13, 14, 15, 16, 17, 18, 2, 3] : List Nat).getD j 0) (by kernel_rfl) (by kernel_rfl) (by kernel_rfl) (by kernel_rfl) (by kernel_rfl) (by kernel_rfl) (by kernel_rfl) (fun j zv => ([(fun zv => zv = (.int .i64 x)), (fun zv => zv = (.bool true)), (fun zv => zv = (.bool true)), (fun zv => zv = (.pointer (some ⟨w.heap.size, 0, none⟩))), (fun zv => zv = (.bool q)), (fun zv => zv = (.bool (!q))), (fun zv => zv = (.bool (!q))), (fun zv => zv = (.int .i64 x)), (fun zv => zv = (.bool (!q)))] : List (Value → Prop)).getD j (fun _ => True) zv) (fun _ _ W => W = wr.drew) ?h0z ?stepz ?finz)
    case h0z => exact fun _ => rfl
    case stepz =>
      intro i o a W d vs hi ho hdi hJ hf hr hF
      replace hi : i < 9 := hi
      rcases (show i = 0 ∨ i = 1 ∨ i = 2 ∨ i = 3 ∨ i = 4 ∨ i = 5 ∨ i = 6 ∨ i = 7 ∨ i = 8 by omega) with rfl | rfl | rfl | rfl | rfl | rfl | rfl | rfl | rfl
      · replace ho := op_at ho (by rfl)
        subst ho
        have f4 : a.tmps.getD 4 undef = (.int .i64 x) := hf 4 (by kernel_rfl)
        exact .inl ⟨(fun k b h => by cases h), .inl ⟨0, by decide, rfl, (.int .i64 x), W, (by simp [go_sem, Act.eval, f4]), rfl, hJ⟩⟩
      · replace ho := op_at ho (by rfl)
        subst ho
        have f5 : a.tmps.getD 5 undef = (.bool true) := hf 5 (by kernel_rfl)
        exact .inl ⟨(fun k b h => by cases h), .inl ⟨1, by decide, rfl, (.bool true), W, (by simp [go_sem, Act.eval, f5]), rfl, hJ⟩⟩
      · replace ho := op_at ho (by rfl)
        subst ho
        have d1 : a.tmps.getD 13 undef = (.bool true) := by have h1 := hF 1 (by decide) (hr 1 (by kernel_rfl)); exact h1.2.trans h1.1
        exact .inl ⟨(fun k b h => by cases h), .inl ⟨2, by decide, rfl, (.bool true), W, (by simp [go_sem, Act.eval, d1]), rfl, hJ⟩⟩
      · replace ho := op_at ho (by rfl)
        subst ho
        have d2 : a.tmps.getD 14 undef = (.bool true) := by have h1 := hF 2 (by decide) (hr 2 (by kernel_rfl)); exact h1.2.trans h1.1
        have f1 : a.tmps.getD 1 undef = (.pointer (some ⟨w.heap.size, 0, none⟩)) := hf 1 (by kernel_rfl)
        exact .inl ⟨(fun k b h => by cases h; exact ⟨2, by decide, rfl, d2⟩), .inl ⟨3, by decide, rfl, (.pointer (some ⟨w.heap.size, 0, none⟩)), W, (by simp [go_sem, Act.eval, d2, f1]), rfl, hJ⟩⟩
      · replace ho := op_at ho (by rfl)
        subst ho
        have d3 : a.tmps.getD 15 undef = (.pointer (some ⟨w.heap.size, 0, none⟩)) := by have h1 := hF 3 (by decide) (hr 3 (by kernel_rfl)); exact h1.2.trans h1.1
        have d2 : a.tmps.getD 14 undef = (.bool true) := by have h1 := hF 2 (by decide) (hr 2 (by kernel_rfl)); exact h1.2.trans h1.1
        exact .inl ⟨(fun k b h => by cases h; exact ⟨2, by decide, rfl, d2⟩), .inl ⟨4, by decide, rfl, (.bool q), W, (by subst hJ; have hc := HT0.out; simp [go_sem, Act.eval, d3, hc]), rfl, hJ⟩⟩
      · replace ho := op_at ho (by rfl)
        subst ho
        have d4 : a.tmps.getD 16 undef = (.bool q) := by have h1 := hF 4 (by decide) (hr 4 (by kernel_rfl)); exact h1.2.trans h1.1
        have d2 : a.tmps.getD 14 undef = (.bool true) := by have h1 := hF 2 (by decide) (hr 2 (by kernel_rfl)); exact h1.2.trans h1.1
        exact .inl ⟨(fun k b h => by cases h; exact ⟨2, by decide, rfl, d2⟩), .inl ⟨5, by decide, rfl, (.bool (!q)), W, (by simp [go_sem, Act.eval, d4, d2]), rfl, hJ⟩⟩
      · replace ho := op_at ho (by rfl)
        subst ho
        have d2 : a.tmps.getD 14 undef = (.bool true) := by have h1 := hF 2 (by decide) (hr 2 (by kernel_rfl)); exact h1.2.trans h1.1
        have d5 : a.tmps.getD 17 undef = (.bool (!q)) := by have h1 := hF 5 (by decide) (hr 5 (by kernel_rfl)); exact h1.2.trans h1.1
        exact .inl ⟨(fun k b h => by cases h), .inl ⟨6, by decide, rfl, (.bool (!q)), W, (by simp [go_sem, Act.eval, d2, d5]), rfl, hJ⟩⟩
      · replace ho := op_at ho (by rfl)
        subst ho
        have d0 : a.tmps.getD 12 undef = (.int .i64 x) := by have h1 := hF 0 (by decide) (hr 0 (by kernel_rfl)); exact h1.2.trans h1.1
        exact .inl ⟨(fun k b h => by cases h), .inl ⟨7, by decide, rfl, (.int .i64 x), W, (by simp [go_sem, Act.eval, d0]), rfl, hJ⟩⟩
      · replace ho := op_at ho (by rfl)
        subst ho
        have d6 : a.tmps.getD 18 undef = (.bool (!q)) := by have h1 := hF 6 (by decide) (hr 6 (by kernel_rfl)); exact h1.2.trans h1.1
        exact .inl ⟨(fun k b h => by cases h), .inl ⟨8, by decide, rfl, (.bool (!q)), W, (by simp [go_sem, Act.eval, d6]), rfl, hJ⟩⟩
    case finz =>
      intro d vs Wz hall hJ hF
      have h0 : vs 0 = (.int .i64 x) := hF 0 (by decide)
      have h1 : vs 1 = (.bool true) := hF 1 (by decide)
      have h2 : vs 2 = (.bool true) := hF 2 (by decide)
      have h3 : vs 3 = (.pointer (some ⟨w.heap.size, 0, none⟩)) := hF 3 (by decide)
      have h4 : vs 4 = (.bool q) := hF 4 (by decide)
      have h5 : vs 5 = (.bool (!q)) := hF 5 (by decide)
      have h6 : vs 6 = (.bool (!q)) := hF 6 (by decide)
      have h7 : vs 7 = (.int .i64 x) := hF 7 (by decide)
      have h8 : vs 8 = (.bool (!q)) := hF 8 (by decide)
      clear hF
      show (_ : Exit → Act → World → Prop) Exit.normal (puts _ vs 9 _) Wz
      simp only [puts, h0, h1, h2, h3, h4, h5, h6, h7, h8, List.getD_cons_zero, List.getD_cons_succ]
      clear h0 h1 h2 h3 h4 h5 h6 h7 h8
      subst hJ
      go_simp
      go_wp2_with (fail)
      go_ret2
      exact ⟨rfl, HBD.out⟩

end Go.Proofs.YtaeoghagpeihkaaDoor

namespace Go.Proofs.YtaeoghagpeihkaaDoor
open Go.RowKit

abbrev TabT (w : World) : Prop := Lib.TabIs Tryd.prog w "internal/strconv.uint64pow10" .u64 Lib.pow10Tab
theorem gPow : Tryd.prog.globalNamed "internal/strconv.uint64pow10" = some 0 := by kernel_rfl
theorem TabT.below {w w' : World} (h : TabT w) (hb : Below w.heap.size w w') : TabT w' := Go.Joins.tab_stays gPow h hb (Nat.le_refl _)
theorem fmt_any (n : Int) (h : I64s n) (w : World) (ht : TabT w) :
    Calls Tryd.prog 28 #[.int .i64 n, .int .i64 10] w fun e w' => e = .returned (.string ⟨(Lib.itoa n).toArray⟩) ∧ Below w.heap.size w w' := by
  refine (Tryd.strconv_FormatInt_10 n h.1 h.2 w ht).mono ?_
  rintro e w' ⟨rfl, k, os, rfl⟩
  exact ⟨rfl, Lib.below_grow _ w (Nat.le_refl _) k os⟩
theorem itoa_any (n : Int) (h : I64s n) (w : World) (ht : TabT w) :
    Calls Tryd.prog 27 #[.int .i64 n] w fun e w' => e = .returned (.string ⟨(Lib.itoa n).toArray⟩) ∧ Below w.heap.size w w' := by
  refine (Tryd.strconv_Itoa n h.1 h.2 w ht).mono ?_
  rintro e w' ⟨rfl, k, os, rfl⟩
  exact ⟨rfl, Lib.below_grow _ w (Nat.le_refl _) k os⟩

set_option maxRecDepth 100000 in
set_option maxHeartbeats 2000000 in
theorem rword_any (k : Int) (w : World) : Calls Tryd.prog 20 #[.int .i64 k] w fun e w' => e = .returned (.string ⟨(wordF k).toArray⟩) ∧ w = w' := by
  by_cases h1 : k = 1
  · subst h1
    go_enter Tryd.func20, Tryd.ntmps20
    go_wp2
    go_ret
    exact ⟨rfl, rfl⟩
  by_cases h2 : k = 2
  · subst h2
    go_enter Tryd.func20, Tryd.ntmps20
    go_wp2
    go_ret
    exact ⟨rfl, rfl⟩
  by_cases h3 : k = 3
  · subst h3
    go_enter Tryd.func20, Tryd.ntmps20
    go_wp2
    go_ret
    exact ⟨rfl, rfl⟩
  by_cases h4 : k = 4
  · subst h4
    go_enter Tryd.func20, Tryd.ntmps20
    go_wp2
    go_ret
    exact ⟨rfl, rfl⟩
  by_cases h5 : k = 5
  · subst h5
    go_enter Tryd.func20, Tryd.ntmps20
    go_wp2
    go_ret
    exact ⟨rfl, rfl⟩
  by_cases h6 : k = 6
  · subst h6
    go_enter Tryd.func20, Tryd.ntmps20
    go_wp2
    go_ret
    exact ⟨rfl, rfl⟩
  by_cases h7 : k = 7
  · subst h7
    go_enter Tryd.func20, Tryd.ntmps20
    go_wp2
    go_ret
    exact ⟨rfl, rfl⟩
  by_cases h8 : k = 8
  · subst h8
    go_enter Tryd.func20, Tryd.ntmps20
    go_wp2
    go_ret
    exact ⟨rfl, rfl⟩
  by_cases h9 : k = 9
  · subst h9
    go_enter Tryd.func20, Tryd.ntmps20
    go_wp2
    go_ret
    exact ⟨rfl, rfl⟩
  by_cases h10 : k = 10
  · subst h10
    go_enter Tryd.func20, Tryd.ntmps20
    go_wp2
    go_ret
    exact ⟨rfl, rfl⟩
  by_cases h11 : k = 11
  · subst h11
    go_enter Tryd.func20, Tryd.ntmps20
    go_wp2
    go_ret
    exact ⟨rfl, rfl⟩
  by_cases h12 : k = 12
  · subst h12
    go_enter Tryd.func20, Tryd.ntmps20
    go_wp2
    go_ret
    exact ⟨rfl, rfl⟩
  by_cases h13 : k = 13
  · subst h13
    go_enter Tryd.func20, Tryd.ntmps20
    go_wp2
    go_ret
    exact ⟨rfl, rfl⟩
  by_cases h14 : k = 14
  · subst h14
    go_enter Tryd.func20, Tryd.ntmps20
    go_wp2
    go_ret
    exact ⟨rfl, rfl⟩
  by_cases h15 : k = 15
  · subst h15
    go_enter Tryd.func20, Tryd.ntmps20
    go_wp2
    go_ret
    exact ⟨rfl, rfl⟩
  have e : wordF k = [] := by
    unfold wordF
    rw [if_neg h1, if_neg h2, if_neg h3, if_neg h4, if_neg h5, if_neg h6, if_neg h7, if_neg h8, if_neg h9, if_neg h10, if_neg h11, if_neg h12, if_neg h13, if_neg h14, if_neg h15]
  have HE := Lib.hid e
  clear e
  go_enter Tryd.func20, Tryd.ntmps20
  go_wp2
  go_ret
  exact ⟨by rw [HE.out]; rfl, rfl⟩

set_option maxRecDepth 100000 in
set_option maxHeartbeats 2000000 in
theorem rshape_any (k : Int) (w : World) : Calls Tryd.prog 32 #[.int .i64 k] w fun e w' => e = .returned (.string ⟨(shapeF k).toArray⟩) ∧ w = w' := by
  by_cases h1 : k = 1
  · subst h1
    go_enter Tryd.func32, Tryd.ntmps32
    go_wp2
    go_ret
    exact ⟨rfl, rfl⟩
  by_cases h2 : k = 2
  · subst h2
    go_enter Tryd.func32, Tryd.ntmps32
    go_wp2
    go_ret
    exact ⟨rfl, rfl⟩
  by_cases h3 : k = 3
  · subst h3
    go_enter Tryd.func32, Tryd.ntmps32
    go_wp2
    go_ret
    exact ⟨rfl, rfl⟩
  by_cases h4 : k = 4
  · subst h4
    go_enter Tryd.func32, Tryd.ntmps32
    go_wp2
    go_ret
    exact ⟨rfl, rfl⟩
  by_cases h5 : k = 5
  · subst h5
    go_enter Tryd.func32, Tryd.ntmps32
    go_wp2
    go_ret
    exact ⟨rfl, rfl⟩
  by_cases h6 : k = 6
  · subst h6
    go_enter Tryd.func32, Tryd.ntmps32
    go_wp2
    go_ret
    exact ⟨rfl, rfl⟩
  by_cases h7 : k = 7
  · subst h7
    go_enter Tryd.func32, Tryd.ntmps32
    go_wp2
    go_ret
    exact ⟨rfl, rfl⟩
  by_cases h8 : k = 8
  · subst h8
    go_enter Tryd.func32, Tryd.ntmps32
    go_wp2
    go_ret
    exact ⟨rfl, rfl⟩
  by_cases h9 : k = 9
  · subst h9
    go_enter Tryd.func32, Tryd.ntmps32
    go_wp2
    go_ret
    exact ⟨rfl, rfl⟩
  by_cases h10 : k = 10
  · subst h10
    go_enter Tryd.func32, Tryd.ntmps32
    go_wp2
    go_ret
    exact ⟨rfl, rfl⟩
  by_cases h11 : k = 11
  · subst h11
    go_enter Tryd.func32, Tryd.ntmps32
    go_wp2
    go_ret
    exact ⟨rfl, rfl⟩
  by_cases h12 : k = 12
  · subst h12
    go_enter Tryd.func32, Tryd.ntmps32
    go_wp2
    go_ret
    exact ⟨rfl, rfl⟩
  by_cases h13 : k = 13
  · subst h13
    go_enter Tryd.func32, Tryd.ntmps32
    go_wp2
    go_ret
    exact ⟨rfl, rfl⟩
  by_cases h14 : k = 14
  · subst h14
    go_enter Tryd.func32, Tryd.ntmps32
    go_wp2
    go_ret
    exact ⟨rfl, rfl⟩
  by_cases h15 : k = 15
  · subst h15
    go_enter Tryd.func32, Tryd.ntmps32
    go_wp2
    go_ret
    exact ⟨rfl, rfl⟩
  have e : shapeF k = [] := by
    unfold shapeF
    rw [if_neg h1, if_neg h2, if_neg h3, if_neg h4, if_neg h5, if_neg h6, if_neg h7, if_neg h8, if_neg h9, if_neg h10, if_neg h11, if_neg h12, if_neg h13, if_neg h14, if_neg h15]
  have HE := Lib.hid e
  clear e
  go_enter Tryd.func32, Tryd.ntmps32
  go_wp2
  go_ret
  exact ⟨by rw [HE.out]; rfl, rfl⟩

/-- the program's letters of a kind's fields -/
def ltF (c : UInt8) : UInt8 := if c = 115 then 113 else if c = 110 then 105 else if c = 109 then 112 else c
def argsP (k : Int) : List UInt8 := (shapeF k).map ltF
def shapesC : Array Value := #[.int .i64 1, .string ⟨#[108, 105, 110, 107]⟩, .string ⟨#[97, 98]⟩, .int .i64 2, .string ⟨#[117, 110, 108, 105, 110, 107]⟩, .string ⟨#[97, 98]⟩, .int .i64 3, .string ⟨#[99, 114, 101, 97, 116, 101]⟩, .string ⟨#[97, 113, 107, 105]⟩, .int .i64 4, .string ⟨#[100, 101, 108, 101, 116, 101]⟩, .string ⟨#[97, 113]⟩, .int .i64 5, .string ⟨#[115, 101, 116]⟩, .string ⟨#[97, 113, 105]⟩, .int .i64 6, .string ⟨#[116, 105, 99, 107]⟩, .string ⟨#[97]⟩, .int .i64 7, .string ⟨#[100, 101, 108, 105, 118, 101, 114]⟩, .string ⟨#[112]⟩, .int .i64 8, .string ⟨#[100, 114, 111, 112]⟩, .string ⟨#[112]⟩, .int .i64 9, .string ⟨#[100, 111, 117, 98, 108, 101]⟩, .string ⟨#[112]⟩, .int .i64 10, .string ⟨#[99, 114, 97, 115, 104]⟩, .string ⟨#[97]⟩, .int .i64 11, .string ⟨#[114, 101, 115, 116, 97, 114, 116]⟩, .string ⟨#[97, 105]⟩, .int .i64 12, .string ⟨#[102, 108, 117, 115, 104]⟩, .string ⟨#[]⟩, .int .i64 13, .string ⟨#[114, 111, 117, 110, 100]⟩, .string ⟨#[]⟩, .int .i64 14, .string ⟨#[115, 101, 118, 101, 114]⟩, .string ⟨#[97, 98]⟩, .int .i64 15, .string ⟨#[109, 101, 110, 100]⟩, .string ⟨#[97, 98]⟩]
theorem shapes_at (i : Nat) (hi : i < 15) : shapesC[i * 3]? = some (.int .i64 ((i : Int) + 1)) ∧ shapesC[i * 3 + 1]? = some (.string ⟨(wordF ((i : Int) + 1)).toArray⟩) ∧ shapesC[i * 3 + 2]? = some (.string ⟨(argsP ((i : Int) + 1)).toArray⟩) := by
  rcases (show i = 0 ∨ i = 1 ∨ i = 2 ∨ i = 3 ∨ i = 4 ∨ i = 5 ∨ i = 6 ∨ i = 7 ∨ i = 8 ∨ i = 9 ∨ i = 10 ∨ i = 11 ∨ i = 12 ∨ i = 13 ∨ i = 14 by omega) with rfl | rfl | rfl | rfl | rfl | rfl | rfl | rfl | rfl | rfl | rfl | rfl | rfl | rfl | rfl <;> exact ⟨rfl, rfl, rfl⟩
set_option maxRecDepth 100000 in
set_option maxHeartbeats 2000000 in
theorem shapes_any (w : World) : Calls Tryd.prog 44 #[] w fun e w' => e = .returned (.slice (some ⟨w.heap.size, 0, none⟩) 15 15) ∧ w' = w.alloc (.cells shapesC 63) := by
  go_enter Tryd.func44, Tryd.ntmps44
  go_wp2
  go_ret
  exact ⟨rfl, rfl⟩

end Go.Proofs.YtaeoghagpeihkaaDoor

namespace Go.Proofs.YtaeoghagpeihkaaDoor
open Go.RowKit

def wordB (k : Int) : Bool := decide (wordF k ≠ [])
def shapeV (k : Int) : Array Value := if wordF k = [] then #[.int .i64 0, .string ⟨#[]⟩, .string ⟨#[]⟩] else #[.int .i64 k, .string ⟨(wordF k).toArray⟩, .string ⟨(argsP k).toArray⟩]
theorem str_eq {a b : List UInt8} : ((⟨a.toArray⟩ : ByteArray) = ⟨b.toArray⟩) ↔ a = b := by
  constructor
  · intro h
    have := congrArg (fun x => x.data.toList) h
    simpa using this
  · rintro rfl; rfl
theorem word_small (i : Nat) (hi : i < 15) : wordF ((i : Int) + 1) ≠ [] ∧ kindF (wordF ((i : Int) + 1)) = (i : Int) + 1 := by
  have h : wordF ((i : Int) + 1) ≠ [] := by
    rcases (show i = 0 ∨ i = 1 ∨ i = 2 ∨ i = 3 ∨ i = 4 ∨ i = 5 ∨ i = 6 ∨ i = 7 ∨ i = 8 ∨ i = 9 ∨ i = 10 ∨ i = 11 ∨ i = 12 ∨ i = 13 ∨ i = 14 by omega) with rfl | rfl | rfl | rfl | rfl | rfl | rfl | rfl | rfl | rfl | rfl | rfl | rfl | rfl | rfl <;> decide
  exact ⟨h, kindF_word h⟩
theorem shape_some {i : Nat} (hi : i < 15) {wd ag : List UInt8} (h1 : wd = wordF ((i : Int) + 1)) (h2 : ag = argsP ((i : Int) + 1)) : shapeV ((i : Int) + 1) = #[.int .i64 ((i : Int) + 1), .string ⟨wd.toArray⟩, .string ⟨ag.toArray⟩] ∧ wordB ((i : Int) + 1) = true := by
  have h := (word_small i hi).1
  unfold shapeV
  rw [if_neg h, h1, h2]
  exact ⟨rfl, by unfold wordB; simpa using h⟩
theorem shape_some_w {i : Nat} (hi : i < 15) {wd ag : List UInt8} (h1 : wd = wordF ((i : Int) + 1)) (h2 : ag = argsP ((i : Int) + 1)) : shapeV (kindF wd) = #[.int .i64 ((i : Int) + 1), .string ⟨wd.toArray⟩, .string ⟨ag.toArray⟩] ∧ wordB (kindF wd) = true := by
  have h := (word_small i hi).2
  rw [← h1] at h
  rw [h]
  exact shape_some hi h1 h2
theorem shape_none {k : Int} {i : Nat} (h : ∀ j : Nat, j < i → ¬ ((j : Int) + 1 = k)) (hi : ¬ i < 15) : shapeV k = #[.int .i64 0, .string ⟨#[]⟩, .string ⟨#[]⟩] ∧ wordB k = false := by
  have e : wordF k = [] := Decidable.byContradiction fun hw => by
    have hk := wordF_kind hw
    exact h (k - 1).toNat (by omega) (by omega)
  unfold shapeV wordB
  rw [if_pos e, e]
  exact ⟨rfl, rfl⟩
theorem shape_none_w {t : List UInt8} {i : Nat} (h : ∀ j : Nat, j < i → ¬ (wordF ((j : Int) + 1) = t)) (hi : ¬ i < 15) : shapeV (kindF t) = #[.int .i64 0, .string ⟨#[]⟩, .string ⟨#[]⟩] ∧ wordB (kindF t) = false := by
  have e : wordF (kindF t) = [] := Decidable.byContradiction fun hw => by
    rcases kindF_cases t with h0 | ⟨h1, -⟩
    · rw [h0] at hw; exact hw (by decide)
    · have hk := wordF_kind hw
      refine h (kindF t - 1).toNat (by omega) ?_
      rw [show (((kindF t - 1).toNat : Nat) : Int) + 1 = kindF t by omega]
      exact h1
  unfold shapeV wordB
  rw [if_pos e, e]
  exact ⟨rfl, rfl⟩
set_option maxRecDepth 100000 in
theorem results_bykind_any {rb : Nat} {c : Value} {cs : Array Value} {W : World} {tmps : Array Value} (h2 : tmps.getD 2 undef = .pointer (some ⟨rb, 0, none⟩)) (h3 : tmps.getD 3 undef = c) (hs : cs.size = 3 := by rfl) (h : W.heap[rb]? = some (.cells cs 63 (0, 0))) : (results Tryd.f26 tmps).run Tryd.prog W = .ok (.tuple #[.agg cs, c]) W := by
  rw [results_cell_tmp (p := 2) (u := 3) (ty := 63) Tryd.results26, h2, h3]
  have hl := run_loadVar_row (P := Tryd.prog) W rb 63 63 cs (0, 0) (.struct (Tryd.prog.fieldsOf 63)) h (by kernel_rfl) rfl (by rw [hs]; kernel_rfl)
  show ((loadVar 63 ⟨rb, 0, none⟩).run Tryd.prog W).andThen _ = _
  rw [hl]
  rfl
set_option maxRecDepth 100000 in
theorem results_byword_any {rb : Nat} {c : Value} {cs : Array Value} {W : World} {tmps : Array Value} (h2 : tmps.getD 2 undef = .pointer (some ⟨rb, 0, none⟩)) (h3 : tmps.getD 3 undef = c) (hs : cs.size = 3 := by rfl) (h : W.heap[rb]? = some (.cells cs 63 (0, 0))) : (results Tryd.f39 tmps).run Tryd.prog W = .ok (.tuple #[.agg cs, c]) W := by
  rw [results_cell_tmp (p := 2) (u := 3) (ty := 63) Tryd.results39, h2, h3]
  have hl := run_loadVar_row (P := Tryd.prog) W rb 63 63 cs (0, 0) (.struct (Tryd.prog.fieldsOf 63)) h (by kernel_rfl) rfl (by rw [hs]; kernel_rfl)
  show ((loadVar 63 ⟨rb, 0, none⟩).run Tryd.prog W).andThen _ = _
  rw [hl]
  rfl

set_option maxRecDepth 100000 in
set_option maxHeartbeats 2000000 in
theorem bykind_any (k : Int) (w : World) : Calls Tryd.prog 26 #[.int .i64 k] w fun e w' => e = .returned (.tuple #[.agg (shapeV k), .bool (wordB k)]) ∧ Below w.heap.size w w' := by
  obtain ⟨g1, j1⟩ := new_block w (.cells #[.int .i64 0, .string ⟨#[]⟩, .string ⟨#[]⟩] 63)
  have LB := Lib.hid g1
  have KR := Lib.hid j1
  have hcon := Lib.hid (shapes_any (w.alloc (.cells #[.int .i64 0, .string ⟨#[]⟩, .string ⟨#[]⟩] 63)))
  obtain ⟨rb, hrb⟩ : ∃ b, b = w.heap.size := ⟨_, rfl⟩
  rw [← hrb] at KR
  have HRB := Lib.hid hrb
  clear g1 j1 hrb
  go_enter Tryd.func26, Tryd.ntmps26
  go_wp2_with (fail)
  with_reducible refine hcon.out.mono ?_
  rintro e w1 ⟨rfl, hw1⟩
  obtain ⟨g2, j2⟩ := new_block (w.alloc (.cells #[.int .i64 0, .string ⟨#[]⟩, .string ⟨#[]⟩] 63)) (.cells shapesC 63)
  rw [← hw1] at g2 j2
  have L1 := Lib.hid (LB.out.trans (g2.mono LB.out.size))
  have KR1 := Lib.hid (stays KR.out g2)
  obtain ⟨sb, hsb⟩ : ∃ b, b = (w.alloc (.cells #[.int .i64 0, .string ⟨#[]⟩, .string ⟨#[]⟩] 63)).heap.size := ⟨_, rfl⟩
  rw [← hsb] at j2
  have KS1 := Lib.hid j2
  have HSB := Lib.hid hsb
  clear hcon hw1 g2 j2 hsb LB KR
  rw [← HSB.out, ← HRB.out]
  go_wp2_with (fail)
  go_loopw [8] (fun iv wr => ∃ i : Nat, i ≤ 15 ∧ iv = .int .i64 (i : Int) ∧ Hid (∀ j : Nat, j < i → ¬ ((j : Int) + 1 = k)) ∧ Hid (Below w.heap.size w wr) ∧ Hid (wr.heap[rb]? = some (.cells #[.int .i64 0, .string ⟨#[]⟩, .string ⟨#[]⟩] 63 (0, 0))) ∧ Hid (wr.heap[sb]? = some (.cells shapesC 63 (0, 0)))) (fun iv _ => 15 - (intOf iv).toNat)
  case atStart => exact ⟨0, by omega, rfl, (fun j hj => by omega), L1.out, KR1.out, KS1.out⟩
  case round =>
    obtain ⟨i, hi, rfl, HN, HL, HR, HS⟩ := hrel
    by_cases hlt : i < 15
    · obtain ⟨s0, s1, s2⟩ := shapes_at i hlt
      obtain ⟨wd, hwd⟩ : ∃ x, x = wordF ((i : Int) + 1) := ⟨_, rfl⟩
      obtain ⟨ag, hag⟩ : ∃ x, x = argsP ((i : Int) + 1) := ⟨_, rfl⟩
      rw [← hwd] at s1
      rw [← hag] at s2
      have c0 : wr.cell? ⟨sb, i * 3, none⟩ = some (.int .i64 ((i : Int) + 1)) := (cell_of_row _ _ (i * 3) _ _ _ HS.out).trans s0
      have c1 : wr.cell? ⟨sb, i * 3 + 1, none⟩ = some (.string ⟨wd.toArray⟩) := (cell_of_row _ _ (i * 3 + 1) _ _ _ HS.out).trans s1
      have c2 : wr.cell? ⟨sb, i * 3 + 2, none⟩ = some (.string ⟨ag.toArray⟩) := (cell_of_row _ _ (i * 3 + 2) _ _ _ HS.out).trans s2
      obtain ⟨g3, j3⟩ := new_block wr (.cells #[.int .i64 ((i : Int) + 1), .string ⟨wd.toArray⟩, .string ⟨ag.toArray⟩] 63)
      have HL3 := Lib.hid (HL.out.trans (g3.mono HL.out.size))
      have HR3 := Lib.hid (stays HR.out g3)
      have HS3 := Lib.hid (stays HS.out g3)
      have HX3 := Lib.hid j3
      have HWD := Lib.hid hwd
      have HAG := Lib.hid hag
      have hki : 0 ≤ (i : Int) ∧ (i : Int) < 15 := by omega
      clear s0 s1 s2 hwd hag g3 j3
      by_cases hq : (i : Int) + 1 = k
      · subst hq
        have HE : Hid (shapeV ((i : Int) + 1) = #[.int .i64 ((i : Int) + 1), .string ⟨wd.toArray⟩, .string ⟨ag.toArray⟩] ∧ wordB ((i : Int) + 1) = true) := shape_some hlt HWD.out HAG.out
        obtain ⟨W3, hW3⟩ : ∃ W, W = wr.alloc (.cells #[.int .i64 ((i : Int) + 1), .string ⟨wd.toArray⟩, .string ⟨ag.toArray⟩] 63) := ⟨_, rfl⟩
        rw [← hW3] at HL3 HR3 HS3 HX3
        have HW3 := Lib.hid hW3
        clear hW3
        go_upto_region 5 with (fail)
        rw [← HW3.out]
        refine wp_region_lit ?_
        refine wpList_run (w' := W3) rfl (exec_load_row 63 _ rfl wr.heap.size _ _ (.struct (Tryd.prog.fieldsOf 63)) rfl HX3.out (by kernel_rfl) rfl (by kernel_rfl)) ?_
        refine wpList_skip (w' := W3.setCells rb 0 [.int .i64 ((i : Int) + 1), .string ⟨wd.toArray⟩, .string ⟨ag.toArray⟩]) rfl rfl (exec_store 63 _ _ rfl _ _ rfl rfl (run_store_row _ rb 0 _ _ 63 #[.int .i64 ((i : Int) + 1), .string ⟨wd.toArray⟩, .string ⟨ag.toArray⟩] HR3.out (by simp) (by kernel_rfl) (by simp [Value.oneCell']))) ?_
        refine wpList_run (v := .bool true) (w' := W3.setCells rb 0 [.int .i64 ((i : Int) + 1), .string ⟨wd.toArray⟩, .string ⟨ag.toArray⟩]) rfl (by kernel_rfl) ?_
        refine wpList_nil ?_
        go_simp
        go_wp2
        have hst := setCells_block 63 rb [.int .i64 ((i : Int) + 1), .string ⟨wd.toArray⟩, .string ⟨ag.toArray⟩] 0 _ _ HR3.out
        exact bodyPost_ret (v := .tuple #[.agg #[.int .i64 ((i : Int) + 1), .string ⟨wd.toArray⟩, .string ⟨ag.toArray⟩], .bool true]) (results_bykind_any rfl rfl (by rfl) hst) rfl ⟨by rw [HE.out.1, HE.out.2], setCells_below (by rw [HRB.out]; exact Nat.le_refl _) _ _ _ _ HL3.out⟩
      · go_wp2_with (fail)
        go_roundw
        case rel => exact ⟨i + 1, by omega, by go_num, (fun j hj => by
          by_cases e : j = i
          · subst e; exact hq
          · exact HN.out j (by omega)), HL3.out, HR3.out, HS3.out⟩
        case measure => simp [intOf] <;> omega
    · have hnl : ¬ ((i : Int) < 15) := by omega
      have HE : Hid (shapeV k = #[.int .i64 0, .string ⟨#[]⟩, .string ⟨#[]⟩] ∧ wordB k = false) := shape_none HN.out hlt
      go_upto_region 7 with (fail)
      refine wp_region_lit ?_
      refine wpList_run (v := .agg #[.int .i64 0, .string ⟨#[]⟩, .string ⟨#[]⟩]) (w' := wr) rfl (by kernel_rfl) ?_
      refine wpList_skip (w' := wr.setCells rb 0 [.int .i64 0, .string ⟨#[]⟩, .string ⟨#[]⟩]) rfl rfl (exec_store 63 _ _ rfl _ _ rfl rfl (run_store_row _ rb 0 _ _ 63 #[.int .i64 0, .string ⟨#[]⟩, .string ⟨#[]⟩] HR.out (by simp) (by kernel_rfl) (by simp [Value.oneCell']))) ?_
      refine wpList_run (v := .bool false) (w' := wr.setCells rb 0 [.int .i64 0, .string ⟨#[]⟩, .string ⟨#[]⟩]) rfl (by kernel_rfl) ?_
      refine wpList_nil ?_
      go_simp
      go_wp2
      have hst := setCells_block 63 rb [.int .i64 0, .string ⟨#[]⟩, .string ⟨#[]⟩] 0 _ _ HR.out
      exact bodyPost_ret (v := .tuple #[.agg #[.int .i64 0, .string ⟨#[]⟩, .string ⟨#[]⟩], .bool false]) (results_bykind_any rfl rfl (by rfl) hst) rfl ⟨by rw [HE.out.1, HE.out.2], setCells_below (by rw [HRB.out]; exact Nat.le_refl _) _ _ _ _ HL.out⟩

set_option maxRecDepth 100000 in
set_option maxHeartbeats 2000000 in
theorem byword_any (t : List UInt8) (w : World) : Calls Tryd.prog 39 #[.string ⟨t.toArray⟩] w fun e w' => e = .returned (.tuple #[.agg (shapeV (kindF t)), .bool (wordB (kindF t))]) ∧ Below w.heap.size w w' := by
  obtain ⟨g1, j1⟩ := new_block w (.cells #[.int .i64 0, .string ⟨#[]⟩, .string ⟨#[]⟩] 63)
  have LB := Lib.hid g1
  have KR := Lib.hid j1
  have hcon := Lib.hid (shapes_any (w.alloc (.cells #[.int .i64 0, .string ⟨#[]⟩, .string ⟨#[]⟩] 63)))
  obtain ⟨rb, hrb⟩ : ∃ b, b = w.heap.size := ⟨_, rfl⟩
  rw [← hrb] at KR
  have HRB := Lib.hid hrb
  clear g1 j1 hrb
  go_enter Tryd.func39, Tryd.ntmps39
  go_wp2_with (fail)
  with_reducible refine hcon.out.mono ?_
  rintro e w1 ⟨rfl, hw1⟩
  obtain ⟨g2, j2⟩ := new_block (w.alloc (.cells #[.int .i64 0, .string ⟨#[]⟩, .string ⟨#[]⟩] 63)) (.cells shapesC 63)
  rw [← hw1] at g2 j2
  have L1 := Lib.hid (LB.out.trans (g2.mono LB.out.size))
  have KR1 := Lib.hid (stays KR.out g2)
  obtain ⟨sb, hsb⟩ : ∃ b, b = (w.alloc (.cells #[.int .i64 0, .string ⟨#[]⟩, .string ⟨#[]⟩] 63)).heap.size := ⟨_, rfl⟩
  rw [← hsb] at j2
  have KS1 := Lib.hid j2
  have HSB := Lib.hid hsb
  clear hcon hw1 g2 j2 hsb LB KR
  rw [← HSB.out, ← HRB.out]
  go_wp2_with (fail)
  go_loopw [8] (fun iv wr => ∃ i : Nat, i ≤ 15 ∧ iv = .int .i64 (i : Int) ∧ Hid (∀ j : Nat, j < i → ¬ (wordF ((j : Int) + 1) = t)) ∧ Hid (Below w.heap.size w wr) ∧ Hid (wr.heap[rb]? = some (.cells #[.int .i64 0, .string ⟨#[]⟩, .string ⟨#[]⟩] 63 (0, 0))) ∧ Hid (wr.heap[sb]? = some (.cells shapesC 63 (0, 0)))) (fun iv _ => 15 - (intOf iv).toNat)
  case atStart => exact ⟨0, by omega, rfl, (fun j hj => by omega), L1.out, KR1.out, KS1.out⟩
  case round =>
    obtain ⟨i, hi, rfl, HN, HL, HR, HS⟩ := hrel
    by_cases hlt : i < 15
    · obtain ⟨s0, s1, s2⟩ := shapes_at i hlt
      obtain ⟨wd, hwd⟩ : ∃ x, x = wordF ((i : Int) + 1) := ⟨_, rfl⟩
      obtain ⟨ag, hag⟩ : ∃ x, x = argsP ((i : Int) + 1) := ⟨_, rfl⟩
      rw [← hwd] at s1
      rw [← hag] at s2
      have c0 : wr.cell? ⟨sb, i * 3, none⟩ = some (.int .i64 ((i : Int) + 1)) := (cell_of_row _ _ (i * 3) _ _ _ HS.out).trans s0
      have c1 : wr.cell? ⟨sb, i * 3 + 1, none⟩ = some (.string ⟨wd.toArray⟩) := (cell_of_row _ _ (i * 3 + 1) _ _ _ HS.out).trans s1
      have c2 : wr.cell? ⟨sb, i * 3 + 2, none⟩ = some (.string ⟨ag.toArray⟩) := (cell_of_row _ _ (i * 3 + 2) _ _ _ HS.out).trans s2
      obtain ⟨g3, j3⟩ := new_block wr (.cells #[.int .i64 ((i : Int) + 1), .string ⟨wd.toArray⟩, .string ⟨ag.toArray⟩] 63)
      have HL3 := Lib.hid (HL.out.trans (g3.mono HL.out.size))
      have HR3 := Lib.hid (stays HR.out g3)
      have HS3 := Lib.hid (stays HS.out g3)
      have HX3 := Lib.hid j3
      have HWD := Lib.hid hwd
      have HAG := Lib.hid hag
      have hki : 0 ≤ (i : Int) ∧ (i : Int) < 15 := by omega
      clear s0 s1 s2 hwd hag g3 j3
      by_cases hq : wordF ((i : Int) + 1) = t
      · have hwe : wd = t := HWD.out.trans hq
        subst hwe
        have HE : Hid (shapeV (kindF wd) = #[.int .i64 ((i : Int) + 1), .string ⟨wd.toArray⟩, .string ⟨ag.toArray⟩] ∧ wordB (kindF wd) = true) := shape_some_w hlt HWD.out HAG.out
        clear hq
        obtain ⟨W3, hW3⟩ : ∃ W, W = wr.alloc (.cells #[.int .i64 ((i : Int) + 1), .string ⟨wd.toArray⟩, .string ⟨ag.toArray⟩] 63) := ⟨_, rfl⟩
        rw [← hW3] at HL3 HR3 HS3 HX3
        have HW3 := Lib.hid hW3
        clear hW3
        go_upto_region 5 with (fail)
        rw [← HW3.out]
        refine wp_region_lit ?_
        refine wpList_run (w' := W3) rfl (exec_load_row 63 _ rfl wr.heap.size _ _ (.struct (Tryd.prog.fieldsOf 63)) rfl HX3.out (by kernel_rfl) rfl (by kernel_rfl)) ?_
        refine wpList_skip (w' := W3.setCells rb 0 [.int .i64 ((i : Int) + 1), .string ⟨wd.toArray⟩, .string ⟨ag.toArray⟩]) rfl rfl (exec_store 63 _ _ rfl _ _ rfl rfl (run_store_row _ rb 0 _ _ 63 #[.int .i64 ((i : Int) + 1), .string ⟨wd.toArray⟩, .string ⟨ag.toArray⟩] HR3.out (by simp) (by kernel_rfl) (by simp [Value.oneCell']))) ?_
        refine wpList_run (v := .bool true) (w' := W3.setCells rb 0 [.int .i64 ((i : Int) + 1), .string ⟨wd.toArray⟩, .string ⟨ag.toArray⟩]) rfl (by kernel_rfl) ?_
        refine wpList_nil ?_
        go_simp
        go_wp2
        have hst := setCells_block 63 rb [.int .i64 ((i : Int) + 1), .string ⟨wd.toArray⟩, .string ⟨ag.toArray⟩] 0 _ _ HR3.out
        exact bodyPost_ret (v := .tuple #[.agg #[.int .i64 ((i : Int) + 1), .string ⟨wd.toArray⟩, .string ⟨ag.toArray⟩], .bool true]) (results_byword_any rfl rfl (by rfl) hst) rfl ⟨by rw [HE.out.1, HE.out.2], setCells_below (by rw [HRB.out]; exact Nat.le_refl _) _ _ _ _ HL3.out⟩
      · have hwn : ¬ wd = t := fun e => hq (HWD.out.symm.trans e)
        have hst : ¬ ((⟨wd.toArray⟩ : ByteArray) = ⟨t.toArray⟩) := fun e => hwn (str_eq.1 e)
        have hwt : (wd == t) = false := by rw [beq_eq_false_iff_ne]; exact hwn
        go_wp2_with (fail)
        go_roundw
        case rel => exact ⟨i + 1, by omega, by go_num, (fun j hj => by
          by_cases e : j = i
          · subst e; exact hq
          · exact HN.out j (by omega)), HL3.out, HR3.out, HS3.out⟩
        case measure => simp [intOf] <;> omega
    · have hnl : ¬ ((i : Int) < 15) := by omega
      have HE : Hid (shapeV (kindF t) = #[.int .i64 0, .string ⟨#[]⟩, .string ⟨#[]⟩] ∧ wordB (kindF t) = false) := shape_none_w HN.out hlt
      go_upto_region 7 with (fail)
      refine wp_region_lit ?_
      refine wpList_run (v := .agg #[.int .i64 0, .string ⟨#[]⟩, .string ⟨#[]⟩]) (w' := wr) rfl (by kernel_rfl) ?_
      refine wpList_skip (w' := wr.setCells rb 0 [.int .i64 0, .string ⟨#[]⟩, .string ⟨#[]⟩]) rfl rfl (exec_store 63 _ _ rfl _ _ rfl rfl (run_store_row _ rb 0 _ _ 63 #[.int .i64 0, .string ⟨#[]⟩, .string ⟨#[]⟩] HR.out (by simp) (by kernel_rfl) (by simp [Value.oneCell']))) ?_
      refine wpList_run (v := .bool false) (w' := wr.setCells rb 0 [.int .i64 0, .string ⟨#[]⟩, .string ⟨#[]⟩]) rfl (by kernel_rfl) ?_
      refine wpList_nil ?_
      go_simp
      go_wp2
      have hst := setCells_block 63 rb [.int .i64 0, .string ⟨#[]⟩, .string ⟨#[]⟩] 0 _ _ HR.out
      exact bodyPost_ret (v := .tuple #[.agg #[.int .i64 0, .string ⟨#[]⟩, .string ⟨#[]⟩], .bool false]) (results_byword_any rfl rfl (by rfl) hst) rfl ⟨by rw [HE.out.1, HE.out.2], setCells_below (by rw [HRB.out]; exact Nat.le_refl _) _ _ _ _ HL.out⟩

theorem shapeV_word (k : Int) : ∃ a c, shapeV k = #[.int .i64 a, .string ⟨(wordF k).toArray⟩, .string c] := by
  unfold shapeV
  split
  · rename_i h; rw [h]; exact ⟨_, _, rfl⟩
  · exact ⟨_, _, rfl⟩
set_option maxRecDepth 100000 in
set_option maxHeartbeats 2000000 in
theorem word_any (k : Int) (w : World) : Calls Tryd.prog 19 #[.int .i64 k] w fun e w' => e = .returned (.string ⟨(wordF k).toArray⟩) ∧ Below w.heap.size w w' := by
  have hcon := bykind_any k w
  obtain ⟨a, c, hs⟩ := shapeV_word k
  rw [hs] at hcon
  have HC := Lib.hid hcon
  clear hs hcon
  go_enter Tryd.func19, Tryd.ntmps19
  go_wp2_with (fail)
  with_reducible refine HC.out.mono ?_
  rintro e w1 ⟨rfl, hB⟩
  have HB := Lib.hid hB
  clear HC hB
  go_wp2_with (fail)
  have hb := (new_block w1 (.cells #[.int .i64 a, .string ⟨(wordF k).toArray⟩, .string c] 63)).1
  go_ret
  exact ⟨rfl, HB.out.trans (hb.mono HB.out.size)⟩

end Go.Proofs.YtaeoghagpeihkaaDoor

