/- WireFits: the law, walked (by program: wip/tools/gen_wire28.py). -/
import Derived.Test.YtgnpjenpehfjbaaDoorML
import Derived.Test.YtgnpjenpehfjbaaDoorMH
set_option linter.unusedSimpArgs false
set_option linter.unusedVariables false
namespace Go.Proofs.YtgnpjenpehfjbaaDoor
open Go.RowKit

set_option maxRecDepth 100000 in
set_option maxHeartbeats 4000000 in
theorem law_WireFits (p : Pkt) (v : Value) (w : World) (hv : Ims w w.heap.size v p.items) (hsl : Sl v) (hnl : ∀ x ∈ p.items, x.name.length ≤ 9223372036854775807) (hbulk : p.items.length * 160 ≤ 140737488355328) (ht : TabOK w) :
    Calls Tryd.prog 3 #[.agg (p.cells v).toArray] w fun e w' => e = .returned (.bool true) ∧ Below w.heap.size w w' := by
  obtain ⟨b1, hb1⟩ : ∃ b, b = w.heap.size := ⟨_, rfl⟩
  obtain ⟨g0, k0⟩ := new_block w (.cells (p.cells v).toArray 24)
  rw [← hb1] at k0
  have LB := Lib.hid g0
  have KB := Lib.hid k0
  have HV0 := Lib.hid (hv.below g0 g0.size)
  have hcon := Lib.hid (copied_any p v (w.alloc (.cells (p.cells v).toArray 24)) HV0.out hsl hbulk)
  have HNL := Lib.hid hnl
  have HT0 := Lib.hid ht
  have HB1 := Lib.hid hb1
  clear g0 k0 hv hsl hbulk hnl ht
  go_enter Tryd.func3, Tryd.ntmps3
  go_upto_region 1 with (fail)
  simp only [← hb1]
  clear hb1
  refine wp_region_lit ?_
  refine wpList_run rfl (exec_load_row 24 _ rfl b1 _ _ (.struct (Tryd.prog.fieldsOf 24)) rfl KB.out (by kernel_rfl) rfl (by kernel_rfl)) ?_
  go_wp2_with (fail)
  with_reducible refine hcon.out.mono ?_
  rintro e W1 ⟨u, rfl, hi, hs, hB⟩
  have L1 := Lib.hid (LB.out.trans (hB.mono LB.out.size))
  have K1 := Lib.hid (stays KB.out hB)
  have HV1 := Lib.hid (HV0.out.below hB hB.size)
  have HU1 := Lib.hid hi
  obtain ⟨au, cu, hu, -, -⟩ := hi.slice
  obtain ⟨n, hn⟩ : ∃ n, n = p.items.length := ⟨_, rfl⟩
  rw [← hn] at hu
  subst hu
  obtain ⟨b3, hb3⟩ : ∃ b, b = W1.heap.size := ⟨_, rfl⟩
  obtain ⟨g1, k3⟩ := new_block W1 (.cells (p.cells (.slice au n cu)).toArray 24)
  have L2 := Lib.hid (L1.out.trans (g1.mono L1.out.size))
  have K12 := Lib.hid (stays K1.out g1)
  have K3 := Lib.hid k3
  have HV2 := Lib.hid (HV1.out.below g1 g1.size)
  have HU2 := Lib.hid (HU1.out.below g1 g1.size)
  have HBN : Hid (∃ b, b = fitP p) := ⟨_, rfl⟩
  clear hcon hi hs hB KB HV0 hn g1 k3 K1 HV1 HU1 L1
  go_wp2_with (fail)
  obtain ⟨W0, hW0⟩ : ∃ W, W = W1.alloc (.cells (p.cells (.slice au n cu)).toArray 24) := ⟨_, rfl⟩
  rw [← hW0] at L2 K12 K3 HV2 HU2
  rw [← hb3] at K3
  simp only [← hb3]
  clear hb3
  rw [show W1.alloc (.cells #[.int .i64 p.kind, .int .i64 p.frm, .int .i64 p.to, .int .i64 p.boot, .int .i64 p.life, .int .i64 p.echo, .int .i64 p.elife, .slice au n cu] 24) = W0 from hW0.symm]
  clear hW0
  obtain ⟨b, hb⟩ := HBN.out
  obtain ⟨u, hu⟩ : ∃ u, u = Value.slice au n cu := ⟨_, rfl⟩
  rw [← hu] at HU2 K3
  have HFA : Hid (∀ W, Below W0.heap.size W0 W → Calls Tryd.prog 11 #[.agg (p.cells u).toArray] W fun e w' => e = .returned (.bool b) ∧ Below W.heap.size W w') := fun W hB => by rw [hb]; exact fit_any p u W (HU2.out.below hB hB.size) HNL.out
  have HFB : Hid (∀ W, Below W0.heap.size W0 W → Calls Tryd.prog 12 #[.agg (p.cells v).toArray] W fun e w' => e = .returned (.bool b) ∧ Below W.heap.size W w') := fun W hB => by rw [hb]; exact rfit_any p v W (HV2.out.below hB hB.size) HNL.out
  have HT : Hid (TabOK W0) := HT0.out.below L2.out HT0.out.lt
  have HEA : Hid (∀ W, Below W0.heap.size W0 W → Calls Tryd.prog 13 #[.agg (p.cells u).toArray] W fun e w' => ∃ u, e = .returned u ∧ Own w' W.heap.size u (encB p) ∧ Below W.heap.size W w') := fun W hB => encode_any p u W (HU2.out.below hB hB.size) HNL.out (HT.out.below hB HT.out.lt)
  have HEB : Hid (∀ W, Below W0.heap.size W0 W → Calls Tryd.prog 14 #[.agg (p.cells v).toArray] W fun e w' => ∃ u, e = .returned u ∧ Own w' W.heap.size u (encB p) ∧ Below W.heap.size W w') := fun W hB => rencode_any p v W (HV2.out.below hB hB.size) HNL.out
  have HSM : Hid (∀ W, Below W0.heap.size W0 W → Calls Tryd.prog 15 #[.agg (p.cells u).toArray, .agg (p.cells v).toArray] W fun e w' => e = .returned (.bool true) ∧ Below W.heap.size W w') := fun W hB => by
    have h := rsame_any p p u v W (HU2.out.below hB hB.size) (HV2.out.below hB hB.size)
    rw [sameP_iff.2 rfl] at h
    exact h
  clear hb hu
  refine wpIn_wide (n := 5).1 (wpIn_flowM (F0 := Fence.wide) (n0 := 5) (fun _ => trivial) (fun h => by cases h) (by kernel_rfl) (by kernel_rfl) 23 23 (by kernel_rfl) (fun j => ([0, 1, 2, 3, 4, 5, 6, 7, 8, 9, 10, 11, 12, 13, 14, 15, 16, 17, 18, 19, 20, 21, 22] : List Nat).getD j 0) (fun j => ([6, 7, 8, 9, 10, 11, 12, 13, 14, 15, 16, 17, 18, 19, 20, 21, 22, 23, 24, 25, 26, 27, 2] : List Nat).getD j 0) (by kernel_rfl) (by kernel_rfl) (by kernel_rfl) (by kernel_rfl) (by kernel_rfl) (by kernel_rfl) (by kernel_rfl) (fun j zv => ([(fun zv => zv = (.agg (p.cells u).toArray)), (fun zv => zv = (.bool b)), (fun zv => zv = (.agg (p.cells v).toArray)), (fun zv => zv = (.bool b)), (fun zv => zv = (.bool true)), (fun zv => zv = (.bool true)), (fun zv => zv = (.agg (p.cells u).toArray)), (fun _ => True), (fun zv => zv = (.string ⟨(encB p).toArray⟩)), (fun zv => zv = (.agg (p.cells v).toArray)), (fun _ => True), (fun zv => zv = (.string ⟨(encB p).toArray⟩)), (fun zv => zv = (.bool true)), (fun zv => zv = (.bool true)), (fun zv => zv = (.bool true)), (fun zv => zv = (.agg (p.cells u).toArray)), (fun zv => zv = (.agg (p.cells v).toArray)), (fun zv => zv = (.bool true)), (fun zv => zv = (.bool true)), (fun zv => zv = (.bool true)), (fun zv => zv = (.bool true)), (fun zv => zv = (.bool true)), (fun zv => zv = (.bool true))] : List (Value → Prop)).getD j (fun _ => True) zv) (fun d vs W => Below W0.heap.size W0 W ∧ (d 7 = true → Bts W W.heap.size (vs 7) (encB p)) ∧ (d 10 = true → Bts W W.heap.size (vs 10) (encB p))) ?h0a ?stepa ?fina)
  case h0a => exact fun vs => ⟨(Below.refl _ _).drew, (fun h => by cases h), (fun h => by cases h)⟩
  case stepa =>
    intro i o a W d vs hi ho hdi hJ hf hr hF
    replace hi : i < 23 := hi
    rcases (show i = 0 ∨ i = 1 ∨ i = 2 ∨ i = 3 ∨ i = 4 ∨ i = 5 ∨ i = 6 ∨ i = 7 ∨ i = 8 ∨ i = 9 ∨ i = 10 ∨ i = 11 ∨ i = 12 ∨ i = 13 ∨ i = 14 ∨ i = 15 ∨ i = 16 ∨ i = 17 ∨ i = 18 ∨ i = 19 ∨ i = 20 ∨ i = 21 ∨ i = 22 by omega) with rfl | rfl | rfl | rfl | rfl | rfl | rfl | rfl | rfl | rfl | rfl | rfl | rfl | rfl | rfl | rfl | rfl | rfl | rfl | rfl | rfl | rfl | rfl
    · replace ho := op_at ho (by rfl)
      subst ho
      have f3 : a.tmps.getD 3 undef = (.pointer (some ⟨b3, 0, none⟩)) := hf 3 (by kernel_rfl)
      exact .inl ⟨(fun k b h => by cases h), .inl ⟨0, by decide, rfl, (.agg (p.cells u).toArray), W, (exec_load_row 24 _ rfl b3 _ _ (.struct (Tryd.prog.fieldsOf 24)) (show a.eval (.tmp 3) = _ from f3) (stays K3.out hJ.1) (by kernel_rfl) rfl (by kernel_rfl)), rfl, hJ⟩⟩
    · replace ho := op_at ho (by rfl)
      subst ho
      have d0 : a.tmps.getD 6 undef = (.agg (p.cells u).toArray) := by have h1 := hF 0 (by decide) (hr 0 (by kernel_rfl)); exact h1.2.trans h1.1
      refine .inl ⟨(fun k b h => by cases h), .inr (.inr ⟨1, by decide, rfl, 11, #[(.agg (p.cells u).toArray)], W, (by simp [go_sem, Act.eval, d0]), ?_⟩)⟩
      refine (callsIn_wide.2 (HFA.out W hJ.1)).mono ?_
      rintro e W' ⟨rfl, hBe⟩
      exact ⟨_, rfl, rfl, ⟨hJ.1.trans (hBe.mono hJ.1.size), fun h => (hJ.2.1 h).below hBe hBe.size, fun h => (hJ.2.2 h).below hBe hBe.size⟩⟩
    · replace ho := op_at ho (by rfl)
      subst ho
      have f1 : a.tmps.getD 1 undef = (.pointer (some ⟨b1, 0, none⟩)) := hf 1 (by kernel_rfl)
      exact .inl ⟨(fun k b h => by cases h), .inl ⟨2, by decide, rfl, (.agg (p.cells v).toArray), W, (exec_load_row 24 _ rfl b1 _ _ (.struct (Tryd.prog.fieldsOf 24)) (show a.eval (.tmp 1) = _ from f1) (stays K12.out hJ.1) (by kernel_rfl) rfl (by kernel_rfl)), rfl, hJ⟩⟩
    · replace ho := op_at ho (by rfl)
      subst ho
      have d2 : a.tmps.getD 8 undef = (.agg (p.cells v).toArray) := by have h1 := hF 2 (by decide) (hr 2 (by kernel_rfl)); exact h1.2.trans h1.1
      refine .inl ⟨(fun k b h => by cases h), .inr (.inr ⟨3, by decide, rfl, 12, #[(.agg (p.cells v).toArray)], W, (by simp [go_sem, Act.eval, d2]), ?_⟩)⟩
      refine (callsIn_wide.2 (HFB.out W hJ.1)).mono ?_
      rintro e W' ⟨rfl, hBe⟩
      exact ⟨_, rfl, rfl, ⟨hJ.1.trans (hBe.mono hJ.1.size), fun h => (hJ.2.1 h).below hBe hBe.size, fun h => (hJ.2.2 h).below hBe hBe.size⟩⟩
    · replace ho := op_at ho (by rfl)
      subst ho
      have d1 : a.tmps.getD 7 undef = (.bool b) := by have h1 := hF 1 (by decide) (hr 1 (by kernel_rfl)); exact h1.2.trans h1.1
      have d3 : a.tmps.getD 9 undef = (.bool b) := by have h1 := hF 3 (by decide) (hr 3 (by kernel_rfl)); exact h1.2.trans h1.1
      exact .inl ⟨(fun k b h => by cases h), .inl ⟨4, by decide, rfl, (.bool true), W, (by simp [go_sem, Act.eval, d1, d3]), rfl, hJ⟩⟩
    · replace ho := op_at ho (by rfl)
      subst ho
      have d4 : a.tmps.getD 10 undef = (.bool true) := by have h1 := hF 4 (by decide) (hr 4 (by kernel_rfl)); exact h1.2.trans h1.1
      exact .inl ⟨(fun k b h => by cases h), .inl ⟨5, by decide, rfl, (.bool true), W, (by simp [go_sem, Act.eval, d4]), rfl, hJ⟩⟩
    · replace ho := op_at ho (by rfl)
      subst ho
      have d5 : a.tmps.getD 11 undef = (.bool true) := by have h1 := hF 5 (by decide) (hr 5 (by kernel_rfl)); exact h1.2.trans h1.1
      have f3 : a.tmps.getD 3 undef = (.pointer (some ⟨b3, 0, none⟩)) := hf 3 (by kernel_rfl)
      exact .inl ⟨(fun k b h => by cases h; exact ⟨5, by decide, rfl, d5⟩), .inl ⟨6, by decide, rfl, (.agg (p.cells u).toArray), W, (exec_load_row 24 _ rfl b3 _ _ (.struct (Tryd.prog.fieldsOf 24)) (show a.eval (.tmp 3) = _ from f3) (stays K3.out hJ.1) (by kernel_rfl) rfl (by kernel_rfl)), rfl, hJ⟩⟩
    · replace ho := op_at ho (by rfl)
      subst ho
      have d6 : a.tmps.getD 12 undef = (.agg (p.cells u).toArray) := by have h1 := hF 6 (by decide) (hr 6 (by kernel_rfl)); exact h1.2.trans h1.1
      have d5 : a.tmps.getD 11 undef = (.bool true) := by have h1 := hF 5 (by decide) (hr 5 (by kernel_rfl)); exact h1.2.trans h1.1
      refine .inl ⟨(fun k b h => by cases h; exact ⟨5, by decide, rfl, d5⟩), .inr (.inr ⟨7, by decide, rfl, 13, #[(.agg (p.cells u).toArray)], W, (by simp [go_sem, Act.eval, d6]), ?_⟩)⟩
      refine (callsIn_wide.2 (HEA.out W hJ.1)).mono ?_
      rintro e W' ⟨x, rfl, hO, hBe⟩
      exact ⟨x, rfl, trivial, hJ.1.trans (hBe.mono hJ.1.size), fun _ => hO.bts, fun h => (hJ.2.2 h).below hBe hBe.size⟩
    · replace ho := op_at ho (by rfl)
      subst ho
      obtain ⟨g7, e7⟩ := hF 7 (by decide) (hr 7 (by kernel_rfl))
      replace e7 : a.tmps.getD 13 undef = vs 7 := e7
      replace g7 : (fun _ => True) (vs 7) := g7
      have d5 : a.tmps.getD 11 undef = (.bool true) := by have h1 := hF 5 (by decide) (hr 5 (by kernel_rfl)); exact h1.2.trans h1.1
      have hcv := (hJ.2.1 (hr 7 (by kernel_rfl))).strB
      exact .inl ⟨(fun k b h => by cases h; exact ⟨5, by decide, rfl, d5⟩), .inl ⟨8, by decide, rfl, (.string ⟨(encB p).toArray⟩), W, (by simp [go_sem, Act.eval, e7, hcv]), rfl, hJ⟩⟩
    · replace ho := op_at ho (by rfl)
      subst ho
      have d5 : a.tmps.getD 11 undef = (.bool true) := by have h1 := hF 5 (by decide) (hr 5 (by kernel_rfl)); exact h1.2.trans h1.1
      have f1 : a.tmps.getD 1 undef = (.pointer (some ⟨b1, 0, none⟩)) := hf 1 (by kernel_rfl)
      exact .inl ⟨(fun k b h => by cases h; exact ⟨5, by decide, rfl, d5⟩), .inl ⟨9, by decide, rfl, (.agg (p.cells v).toArray), W, (exec_load_row 24 _ rfl b1 _ _ (.struct (Tryd.prog.fieldsOf 24)) (show a.eval (.tmp 1) = _ from f1) (stays K12.out hJ.1) (by kernel_rfl) rfl (by kernel_rfl)), rfl, hJ⟩⟩
    · replace ho := op_at ho (by rfl)
      subst ho
      have d9 : a.tmps.getD 15 undef = (.agg (p.cells v).toArray) := by have h1 := hF 9 (by decide) (hr 9 (by kernel_rfl)); exact h1.2.trans h1.1
      have d5 : a.tmps.getD 11 undef = (.bool true) := by have h1 := hF 5 (by decide) (hr 5 (by kernel_rfl)); exact h1.2.trans h1.1
      refine .inl ⟨(fun k b h => by cases h; exact ⟨5, by decide, rfl, d5⟩), .inr (.inr ⟨10, by decide, rfl, 14, #[(.agg (p.cells v).toArray)], W, (by simp [go_sem, Act.eval, d9]), ?_⟩)⟩
      refine (callsIn_wide.2 (HEB.out W hJ.1)).mono ?_
      rintro e W' ⟨x, rfl, hO, hBe⟩
      exact ⟨x, rfl, trivial, hJ.1.trans (hBe.mono hJ.1.size), fun h => (hJ.2.1 h).below hBe hBe.size, fun _ => hO.bts⟩
    · replace ho := op_at ho (by rfl)
      subst ho
      obtain ⟨g10, e10⟩ := hF 10 (by decide) (hr 10 (by kernel_rfl))
      replace e10 : a.tmps.getD 16 undef = vs 10 := e10
      replace g10 : (fun _ => True) (vs 10) := g10
      have d5 : a.tmps.getD 11 undef = (.bool true) := by have h1 := hF 5 (by decide) (hr 5 (by kernel_rfl)); exact h1.2.trans h1.1
      have hcv := (hJ.2.2 (hr 10 (by kernel_rfl))).strB
      exact .inl ⟨(fun k b h => by cases h; exact ⟨5, by decide, rfl, d5⟩), .inl ⟨11, by decide, rfl, (.string ⟨(encB p).toArray⟩), W, (by simp [go_sem, Act.eval, e10, hcv]), rfl, hJ⟩⟩
    · replace ho := op_at ho (by rfl)
      subst ho
      have d8 : a.tmps.getD 14 undef = (.string ⟨(encB p).toArray⟩) := by have h1 := hF 8 (by decide) (hr 8 (by kernel_rfl)); exact h1.2.trans h1.1
      have d11 : a.tmps.getD 17 undef = (.string ⟨(encB p).toArray⟩) := by have h1 := hF 11 (by decide) (hr 11 (by kernel_rfl)); exact h1.2.trans h1.1
      have d5 : a.tmps.getD 11 undef = (.bool true) := by have h1 := hF 5 (by decide) (hr 5 (by kernel_rfl)); exact h1.2.trans h1.1
      exact .inl ⟨(fun k b h => by cases h; exact ⟨5, by decide, rfl, d5⟩), .inl ⟨12, by decide, rfl, (.bool true), W, (by simp [go_sem, Act.eval, d8, d11, d5]), rfl, hJ⟩⟩
    · replace ho := op_at ho (by rfl)
      subst ho
      have d5 : a.tmps.getD 11 undef = (.bool true) := by have h1 := hF 5 (by decide) (hr 5 (by kernel_rfl)); exact h1.2.trans h1.1
      have d12 : a.tmps.getD 18 undef = (.bool true) := by have h1 := hF 12 (by decide) (hr 12 (by kernel_rfl)); exact h1.2.trans h1.1
      exact .inl ⟨(fun k b h => by cases h), .inl ⟨13, by decide, rfl, (.bool true), W, (by simp [go_sem, Act.eval, d5, d12]), rfl, hJ⟩⟩
    · replace ho := op_at ho (by rfl)
      subst ho
      have d13 : a.tmps.getD 19 undef = (.bool true) := by have h1 := hF 13 (by decide) (hr 13 (by kernel_rfl)); exact h1.2.trans h1.1
      exact .inl ⟨(fun k b h => by cases h), .inl ⟨14, by decide, rfl, (.bool true), W, (by simp [go_sem, Act.eval, d13]), rfl, hJ⟩⟩
    · replace ho := op_at ho (by rfl)
      subst ho
      have d14 : a.tmps.getD 20 undef = (.bool true) := by have h1 := hF 14 (by decide) (hr 14 (by kernel_rfl)); exact h1.2.trans h1.1
      have f3 : a.tmps.getD 3 undef = (.pointer (some ⟨b3, 0, none⟩)) := hf 3 (by kernel_rfl)
      exact .inl ⟨(fun k b h => by cases h; exact ⟨14, by decide, rfl, d14⟩), .inl ⟨15, by decide, rfl, (.agg (p.cells u).toArray), W, (exec_load_row 24 _ rfl b3 _ _ (.struct (Tryd.prog.fieldsOf 24)) (show a.eval (.tmp 3) = _ from f3) (stays K3.out hJ.1) (by kernel_rfl) rfl (by kernel_rfl)), rfl, hJ⟩⟩
    · replace ho := op_at ho (by rfl)
      subst ho
      have d14 : a.tmps.getD 20 undef = (.bool true) := by have h1 := hF 14 (by decide) (hr 14 (by kernel_rfl)); exact h1.2.trans h1.1
      have f1 : a.tmps.getD 1 undef = (.pointer (some ⟨b1, 0, none⟩)) := hf 1 (by kernel_rfl)
      exact .inl ⟨(fun k b h => by cases h; exact ⟨14, by decide, rfl, d14⟩), .inl ⟨16, by decide, rfl, (.agg (p.cells v).toArray), W, (exec_load_row 24 _ rfl b1 _ _ (.struct (Tryd.prog.fieldsOf 24)) (show a.eval (.tmp 1) = _ from f1) (stays K12.out hJ.1) (by kernel_rfl) rfl (by kernel_rfl)), rfl, hJ⟩⟩
    · replace ho := op_at ho (by rfl)
      subst ho
      have d15 : a.tmps.getD 21 undef = (.agg (p.cells u).toArray) := by have h1 := hF 15 (by decide) (hr 15 (by kernel_rfl)); exact h1.2.trans h1.1
      have d16 : a.tmps.getD 22 undef = (.agg (p.cells v).toArray) := by have h1 := hF 16 (by decide) (hr 16 (by kernel_rfl)); exact h1.2.trans h1.1
      have d14 : a.tmps.getD 20 undef = (.bool true) := by have h1 := hF 14 (by decide) (hr 14 (by kernel_rfl)); exact h1.2.trans h1.1
      refine .inl ⟨(fun k b h => by cases h; exact ⟨14, by decide, rfl, d14⟩), .inr (.inr ⟨17, by decide, rfl, 15, #[(.agg (p.cells u).toArray), (.agg (p.cells v).toArray)], W, (by simp [go_sem, Act.eval, d15, d16, d14]), ?_⟩)⟩
      refine (callsIn_wide.2 (HSM.out W hJ.1)).mono ?_
      rintro e W' ⟨rfl, hBe⟩
      exact ⟨_, rfl, rfl, ⟨hJ.1.trans (hBe.mono hJ.1.size), fun h => (hJ.2.1 h).below hBe hBe.size, fun h => (hJ.2.2 h).below hBe hBe.size⟩⟩
    · replace ho := op_at ho (by rfl)
      subst ho
      have d14 : a.tmps.getD 20 undef = (.bool true) := by have h1 := hF 14 (by decide) (hr 14 (by kernel_rfl)); exact h1.2.trans h1.1
      have d17 : a.tmps.getD 23 undef = (.bool true) := by have h1 := hF 17 (by decide) (hr 17 (by kernel_rfl)); exact h1.2.trans h1.1
      exact .inl ⟨(fun k b h => by cases h), .inl ⟨18, by decide, rfl, (.bool true), W, (by simp [go_sem, Act.eval, d14, d17]), rfl, hJ⟩⟩
    · replace ho := op_at ho (by rfl)
      subst ho
      have d18 : a.tmps.getD 24 undef = (.bool true) := by have h1 := hF 18 (by decide) (hr 18 (by kernel_rfl)); exact h1.2.trans h1.1
      exact .inl ⟨(fun k b h => by cases h), .inl ⟨19, by decide, rfl, (.bool true), W, (by simp [go_sem, Act.eval, d18]), rfl, hJ⟩⟩
    · replace ho := op_at ho (by rfl)
      subst ho
      have d19 : a.tmps.getD 25 undef = (.bool true) := by have h1 := hF 19 (by decide) (hr 19 (by kernel_rfl)); exact h1.2.trans h1.1
      refine .inl ⟨(fun k b h => by cases h; exact ⟨19, by decide, rfl, d19⟩), .inr (.inr ⟨20, by decide, rfl, 16, #[], W, (by simp [go_sem, Act.eval, d19]), ?_⟩)⟩
      refine (callsIn_wide.2 (awake_any W (HT.out.below hJ.1 HT.out.lt))).mono ?_
      rintro e W' ⟨rfl, hBe⟩
      exact ⟨_, rfl, rfl, ⟨hJ.1.trans (hBe.mono hJ.1.size), fun h => (hJ.2.1 h).below hBe hBe.size, fun h => (hJ.2.2 h).below hBe hBe.size⟩⟩
    · replace ho := op_at ho (by rfl)
      subst ho
      have d19 : a.tmps.getD 25 undef = (.bool true) := by have h1 := hF 19 (by decide) (hr 19 (by kernel_rfl)); exact h1.2.trans h1.1
      have d20 : a.tmps.getD 26 undef = (.bool true) := by have h1 := hF 20 (by decide) (hr 20 (by kernel_rfl)); exact h1.2.trans h1.1
      exact .inl ⟨(fun k b h => by cases h), .inl ⟨21, by decide, rfl, (.bool true), W, (by simp [go_sem, Act.eval, d19, d20]), rfl, hJ⟩⟩
    · replace ho := op_at ho (by rfl)
      subst ho
      have d21 : a.tmps.getD 27 undef = (.bool true) := by have h1 := hF 21 (by decide) (hr 21 (by kernel_rfl)); exact h1.2.trans h1.1
      exact .inl ⟨(fun k b h => by cases h), .inl ⟨22, by decide, rfl, (.bool true), W, (by simp [go_sem, Act.eval, d21]), rfl, hJ⟩⟩
  case fina =>
    intro d vs Wa hall hJ hF
    have h0 : vs 0 = (.agg (p.cells u).toArray) := hF 0 (by decide)
    have h1 : vs 1 = (.bool b) := hF 1 (by decide)
    have h2 : vs 2 = (.agg (p.cells v).toArray) := hF 2 (by decide)
    have h3 : vs 3 = (.bool b) := hF 3 (by decide)
    have h4 : vs 4 = (.bool true) := hF 4 (by decide)
    have h5 : vs 5 = (.bool true) := hF 5 (by decide)
    have h6 : vs 6 = (.agg (p.cells u).toArray) := hF 6 (by decide)
    have h7 : (fun _ => True) (vs 7) := hF 7 (by decide)
    have h8 : vs 8 = (.string ⟨(encB p).toArray⟩) := hF 8 (by decide)
    have h9 : vs 9 = (.agg (p.cells v).toArray) := hF 9 (by decide)
    have h10 : (fun _ => True) (vs 10) := hF 10 (by decide)
    have h11 : vs 11 = (.string ⟨(encB p).toArray⟩) := hF 11 (by decide)
    have h12 : vs 12 = (.bool true) := hF 12 (by decide)
    have h13 : vs 13 = (.bool true) := hF 13 (by decide)
    have h14 : vs 14 = (.bool true) := hF 14 (by decide)
    have h15 : vs 15 = (.agg (p.cells u).toArray) := hF 15 (by decide)
    have h16 : vs 16 = (.agg (p.cells v).toArray) := hF 16 (by decide)
    have h17 : vs 17 = (.bool true) := hF 17 (by decide)
    have h18 : vs 18 = (.bool true) := hF 18 (by decide)
    have h19 : vs 19 = (.bool true) := hF 19 (by decide)
    have h20 : vs 20 = (.bool true) := hF 20 (by decide)
    have h21 : vs 21 = (.bool true) := hF 21 (by decide)
    have h22 : vs 22 = (.bool true) := hF 22 (by decide)
    clear hF
    have hLB := hJ.1
    clear hJ hall h7 h10
    show (_ : Exit → Act → World → Prop) Exit.normal (puts _ vs 23 _) Wa
    simp only [puts, h0, h1, h2, h3, h4, h5, h6, h8, h9, h11, h12, h13, h14, h15, h16, h17, h18, h19, h20, h21, h22, List.getD_cons_zero, List.getD_cons_succ]
    clear h0 h1 h2 h3 h4 h5 h6 h8 h9 h11 h12 h13 h14 h15 h16 h17 h18 h19 h20 h21 h22
    go_simp
    go_wp2
    go_ret
    exact ⟨rfl, L2.out.trans (hLB.mono L2.out.size)⟩

end Go.Proofs.YtgnpjenpehfjbaaDoor

