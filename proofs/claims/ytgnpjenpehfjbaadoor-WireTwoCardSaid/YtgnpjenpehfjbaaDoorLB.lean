/- WireTwo: the law, walked (by program: wip/tools/gen_wiretwo.py). -/
import Derived.Test.YtgnpjenpehfjbaaDoorML
import Derived.Test.YtgnpjenpehfjbaaDoorMN
import Derived.Test.YtgnpjenpehfjbaaDoorMH
set_option linter.unusedSimpArgs false
set_option linter.unusedVariables false
namespace Go.Proofs.YtgnpjenpehfjbaaDoor
open Go.RowKit

set_option maxRecDepth 100000 in
set_option maxHeartbeats 8000000 in
theorem law_WireTwo (p q : Pkt) (v u : Value) (w : World) (hv : Ims w w.heap.size v p.items) (hu : Ims w w.heap.size u q.items) (hsl : Sl v) (hnp : ∀ x ∈ p.items, x.name.length ≤ 9223372036854775807) (hnq : ∀ x ∈ q.items, x.name.length ≤ 9223372036854775807) (hbulk : p.items.length * 160 ≤ 140737488355328) (ht : TabOK w) :
    Calls Tryd.prog 7 #[(.agg (p.cells v).toArray), (.agg (q.cells u).toArray)] w fun e w' => e = .returned (.bool true) ∧ Below w.heap.size w w' := by
  obtain ⟨s, hs⟩ : ∃ s, s = sameP p q := ⟨_, rfl⟩
  obtain ⟨b2, hb2⟩ : ∃ b, b = w.heap.size := ⟨_, rfl⟩
  obtain ⟨b3, hb3⟩ : ∃ b, b = w.heap.size + 1 := ⟨_, rfl⟩
  obtain ⟨g1, k1⟩ := new_block w (.cells (p.cells v).toArray 24)
  obtain ⟨g2, k2⟩ := new_block (w.alloc (.cells (p.cells v).toArray 24)) (.cells (q.cells u).toArray 24)
  have LB := Lib.hid (g1.trans (g2.mono g1.size))
  have K2 := Lib.hid (stays k1 g2)
  have K3 := Lib.hid k2
  simp only [World.size_alloc] at K3
  rw [← hb2] at K2
  rw [← hb3] at K3
  have HV := Lib.hid (hv.below LB.out LB.out.size)
  have HU := Lib.hid (hu.below LB.out LB.out.size)
  have HT := Lib.hid (ht.below LB.out ht.lt)
  have HS := Lib.hid hs
  have HNP := Lib.hid hnp
  have HNQ := Lib.hid hnq
  have HBK := Lib.hid hbulk
  have HSL := Lib.hid hsl
  clear g1 g2 k1 k2 hs hnp hnq hbulk ht hsl hv hu
  go_enter Tryd.func7, Tryd.ntmps7
  go_upto_region 1 with (fail)
  obtain ⟨W0, hW0⟩ : ∃ W, W = (w.alloc (.cells (p.cells v).toArray 24)).alloc (.cells (q.cells u).toArray 24) := ⟨_, rfl⟩
  rw [← hW0] at LB K2 K3 HV HU HT ⊢
  simp only [← hb3]
  simp only [← hb2]
  clear hb2 hb3 hW0
  have hcon := Lib.hid (rsame_any p q v u W0 HV.out HU.out)
  rw [← HS.out] at hcon
  refine wp_region_lit ?_
  refine wpList_run rfl (exec_load_row 24 _ rfl b2 _ _ (.struct (Tryd.prog.fieldsOf 24)) rfl K2.out (by kernel_rfl) rfl (by kernel_rfl)) ?_
  refine wpList_run rfl (exec_load_row 24 _ rfl b3 _ _ (.struct (Tryd.prog.fieldsOf 24)) rfl K3.out (by kernel_rfl) rfl (by kernel_rfl)) ?_
  go_wp2_with (fail)
  with_reducible refine hcon.out.mono ?_
  rintro e W1 ⟨rfl, hB⟩
  have LB1 := Lib.hid (LB.out.trans (hB.mono LB.out.size))
  have K21 := Lib.hid (stays K2.out hB)
  have K31 := Lib.hid (stays K3.out hB)
  have HV1 := Lib.hid (HV.out.below hB hB.size)
  have HU1 := Lib.hid (HU.out.below hB hB.size)
  have HT1 := Lib.hid (HT.out.below hB HT.out.lt)
  clear hcon hB K2 K3 HV HU HT LB
  rename Hid (W1.heap[b2]? = _) => K2
  rename Hid (W1.heap[b3]? = _) => K3
  rename Hid (Ims W1 _ v _) => HV
  rename Hid (Ims W1 _ u _) => HU
  rename Hid (TabOK W1) => HT
  have HSM : Hid (∀ W, Below W1.heap.size W1 W → Calls Tryd.prog 25 #[(.agg (p.cells v).toArray), (.agg (q.cells u).toArray)] W fun e w' => e = .returned (.bool s) ∧ Below W.heap.size W w') := fun W hB => by rw [HS.out]; exact same_any p q v u W (HV.out.below hB hB.size) (HU.out.below hB hB.size)
  have HCP : Hid (∀ W, Below W1.heap.size W1 W → Calls Tryd.prog 10 #[(.agg (p.cells v).toArray)] W fun e w' => ∃ u, e = .returned (.agg (p.cells u).toArray) ∧ Ims w' w'.heap.size u p.items ∧ Sl u ∧ Below W.heap.size W w') := fun W hB => copied_any p v W (HV.out.below hB hB.size) HSL.out HBK.out
  go_wp2_with (fail)
  refine wpIn_wide (n := 5).1 (wpIn_flowM (F0 := Fence.wide) (n0 := 5) (fun _ => trivial) (fun h => by cases h) (by kernel_rfl) (by kernel_rfl) 12 12 (by kernel_rfl) (fun j => ([0, 1, 2, 3, 4, 5, 6, 7, 8, 9, 10, 11] : List Nat).getD j 0) (fun j => ([9, 10, 11, 12, 13, 14, 15, 16, 17, 18, 19, 20] : List Nat).getD j 0) (by kernel_rfl) (by kernel_rfl) (by kernel_rfl) (by kernel_rfl) (by kernel_rfl) (by kernel_rfl) (by kernel_rfl) (fun j zv => ([(fun zv => zv = (.agg (p.cells v).toArray)), (fun zv => zv = (.agg (q.cells u).toArray)), (fun zv => zv = (.bool s)), (fun zv => zv = (.bool s)), (fun zv => zv = (.bool false)), (fun zv => zv = (.bool false)), (fun zv => zv = (.agg (p.cells v).toArray)), (fun zv => zv = (.agg (p.cells v).toArray)), (fun _ => True), (fun zv => zv = (.bool true)), (fun zv => zv = (.bool false)), (fun zv => zv = (.bool false))] : List (Value → Prop)).getD j (fun _ => True) zv) (fun d vs W => Below W1.heap.size W1 W ∧ (d 8 = true → ∃ x, vs 8 = .agg (p.cells x).toArray ∧ Ims W W.heap.size x p.items)) ?h0a ?stepa ?fina)
  case h0a => exact fun vs => ⟨(Below.refl _ _).drew, (fun h => by cases h)⟩
  case stepa =>
    intro i o a W d vs hi ho hdi hJ hf hr hF
    replace hi : i < 12 := hi
    rcases (show i = 0 ∨ i = 1 ∨ i = 2 ∨ i = 3 ∨ i = 4 ∨ i = 5 ∨ i = 6 ∨ i = 7 ∨ i = 8 ∨ i = 9 ∨ i = 10 ∨ i = 11 by omega) with rfl | rfl | rfl | rfl | rfl | rfl | rfl | rfl | rfl | rfl | rfl | rfl
    · replace ho := op_at ho (by rfl)
      subst ho
      have f2 : a.tmps.getD 2 undef = (.pointer (some ⟨b2, 0, none⟩)) := hf 2 (by kernel_rfl)
      exact .inl ⟨(fun k b h => by cases h), .inl ⟨0, by decide, rfl, (.agg (p.cells v).toArray), W, (exec_load_row 24 _ rfl b2 _ _ (.struct (Tryd.prog.fieldsOf 24)) (show a.eval (.tmp 2) = _ from f2) (stays K2.out hJ.1) (by kernel_rfl) rfl (by kernel_rfl)), rfl, hJ⟩⟩
    · replace ho := op_at ho (by rfl)
      subst ho
      have f3 : a.tmps.getD 3 undef = (.pointer (some ⟨b3, 0, none⟩)) := hf 3 (by kernel_rfl)
      exact .inl ⟨(fun k b h => by cases h), .inl ⟨1, by decide, rfl, (.agg (q.cells u).toArray), W, (exec_load_row 24 _ rfl b3 _ _ (.struct (Tryd.prog.fieldsOf 24)) (show a.eval (.tmp 3) = _ from f3) (stays K3.out hJ.1) (by kernel_rfl) rfl (by kernel_rfl)), rfl, hJ⟩⟩
    · replace ho := op_at ho (by rfl)
      subst ho
      have d0 : a.tmps.getD 9 undef = (.agg (p.cells v).toArray) := by have h1 := hF 0 (by decide) (hr 0 (by kernel_rfl)); exact h1.2.trans h1.1
      have d1 : a.tmps.getD 10 undef = (.agg (q.cells u).toArray) := by have h1 := hF 1 (by decide) (hr 1 (by kernel_rfl)); exact h1.2.trans h1.1
      refine .inl ⟨(fun k b h => by cases h), .inr (.inr ⟨2, by decide, rfl, 25, #[(.agg (p.cells v).toArray), (.agg (q.cells u).toArray)], W, (by simp [go_sem, Act.eval, d0, d1]), ?_⟩)⟩
      refine (callsIn_wide.2 (HSM.out W hJ.1)).mono ?_
      rintro e W' ⟨rfl, hBe⟩
      exact ⟨_, rfl, rfl, ⟨hJ.1.trans (hBe.mono hJ.1.size), fun h => by obtain ⟨x, h1, h2⟩ := hJ.2 h; exact ⟨x, h1, h2.below hBe hBe.size⟩⟩⟩
    · replace ho := op_at ho (by rfl)
      subst ho
      have f5 : a.tmps.getD 5 undef = (.bool s) := hf 5 (by kernel_rfl)
      exact .inl ⟨(fun k b h => by cases h), .inl ⟨3, by decide, rfl, (.bool s), W, (by simp [go_sem, Act.eval, f5]), rfl, hJ⟩⟩
    · replace ho := op_at ho (by rfl)
      subst ho
      have d2 : a.tmps.getD 11 undef = (.bool s) := by have h1 := hF 2 (by decide) (hr 2 (by kernel_rfl)); exact h1.2.trans h1.1
      have d3 : a.tmps.getD 12 undef = (.bool s) := by have h1 := hF 3 (by decide) (hr 3 (by kernel_rfl)); exact h1.2.trans h1.1
      exact .inl ⟨(fun k b h => by cases h), .inl ⟨4, by decide, rfl, (.bool false), W, (by cases s <;> simp [go_sem, Act.eval, d2, d3]), rfl, hJ⟩⟩
    · replace ho := op_at ho (by rfl)
      subst ho
      have d4 : a.tmps.getD 13 undef = (.bool false) := by have h1 := hF 4 (by decide) (hr 4 (by kernel_rfl)); exact h1.2.trans h1.1
      exact .inl ⟨(fun k b h => by cases h), .inl ⟨5, by decide, rfl, (.bool false), W, (by simp [go_sem, Act.eval, d4]), rfl, hJ⟩⟩
    · replace ho := op_at ho (by rfl)
      subst ho
      have d5 : a.tmps.getD 14 undef = (.bool false) := by have h1 := hF 5 (by decide) (hr 5 (by kernel_rfl)); exact h1.2.trans h1.1
      have f2 : a.tmps.getD 2 undef = (.pointer (some ⟨b2, 0, none⟩)) := hf 2 (by kernel_rfl)
      exact .inl ⟨(fun k b h => by cases h; exact ⟨5, by decide, rfl, d5⟩), .inl ⟨6, by decide, rfl, (.agg (p.cells v).toArray), W, (exec_load_row 24 _ rfl b2 _ _ (.struct (Tryd.prog.fieldsOf 24)) (show a.eval (.tmp 2) = _ from f2) (stays K2.out hJ.1) (by kernel_rfl) rfl (by kernel_rfl)), rfl, hJ⟩⟩
    · replace ho := op_at ho (by rfl)
      subst ho
      have d5 : a.tmps.getD 14 undef = (.bool false) := by have h1 := hF 5 (by decide) (hr 5 (by kernel_rfl)); exact h1.2.trans h1.1
      have f2 : a.tmps.getD 2 undef = (.pointer (some ⟨b2, 0, none⟩)) := hf 2 (by kernel_rfl)
      exact .inl ⟨(fun k b h => by cases h; exact ⟨5, by decide, rfl, d5⟩), .inl ⟨7, by decide, rfl, (.agg (p.cells v).toArray), W, (exec_load_row 24 _ rfl b2 _ _ (.struct (Tryd.prog.fieldsOf 24)) (show a.eval (.tmp 2) = _ from f2) (stays K2.out hJ.1) (by kernel_rfl) rfl (by kernel_rfl)), rfl, hJ⟩⟩
    · replace ho := op_at ho (by rfl)
      subst ho
      have d7 : a.tmps.getD 16 undef = (.agg (p.cells v).toArray) := by have h1 := hF 7 (by decide) (hr 7 (by kernel_rfl)); exact h1.2.trans h1.1
      have d5 : a.tmps.getD 14 undef = (.bool false) := by have h1 := hF 5 (by decide) (hr 5 (by kernel_rfl)); exact h1.2.trans h1.1
      refine .inl ⟨(fun k b h => by cases h; exact ⟨5, by decide, rfl, d5⟩), .inr (.inr ⟨8, by decide, rfl, 10, #[(.agg (p.cells v).toArray)], W, (by simp [go_sem, Act.eval, d7]), ?_⟩)⟩
      refine (callsIn_wide.2 (HCP.out W hJ.1)).mono ?_
      rintro e W' ⟨x, rfl, hi, -, hBe⟩
      exact ⟨_, rfl, trivial, hJ.1.trans (hBe.mono hJ.1.size), fun _ => ⟨x, rfl, hi⟩⟩
    · replace ho := op_at ho (by rfl)
      subst ho
      have d6 : a.tmps.getD 15 undef = (.agg (p.cells v).toArray) := by have h1 := hF 6 (by decide) (hr 6 (by kernel_rfl)); exact h1.2.trans h1.1
      obtain ⟨g8, e8⟩ := hF 8 (by decide) (hr 8 (by kernel_rfl))
      replace e8 : a.tmps.getD 17 undef = vs 8 := e8
      replace g8 : (fun _ => True) (vs 8) := g8
      have d5 : a.tmps.getD 14 undef = (.bool false) := by have h1 := hF 5 (by decide) (hr 5 (by kernel_rfl)); exact h1.2.trans h1.1
      obtain ⟨x, hx1, hx2⟩ := hJ.2 (hr 8 (by kernel_rfl))
      rw [hx1] at e8
      refine .inl ⟨(fun k b h => by cases h; exact ⟨5, by decide, rfl, d5⟩), .inr (.inr ⟨9, by decide, rfl, 25, #[(.agg (p.cells v).toArray), (.agg (p.cells x).toArray)], W, (by simp [go_sem, Act.eval, d6, e8]), ?_⟩)⟩
      have hsame := same_any p p v x W (HV.out.below hJ.1 hJ.1.size) hx2
      rw [sameP_iff.2 rfl] at hsame
      refine (callsIn_wide.2 hsame).mono ?_
      rintro e W' ⟨rfl, hBe⟩
      exact ⟨_, rfl, rfl, ⟨hJ.1.trans (hBe.mono hJ.1.size), fun h => by obtain ⟨x, h1, h2⟩ := hJ.2 h; exact ⟨x, h1, h2.below hBe hBe.size⟩⟩⟩
    · replace ho := op_at ho (by rfl)
      subst ho
      have d9 : a.tmps.getD 18 undef = (.bool true) := by have h1 := hF 9 (by decide) (hr 9 (by kernel_rfl)); exact h1.2.trans h1.1
      have d5 : a.tmps.getD 14 undef = (.bool false) := by have h1 := hF 5 (by decide) (hr 5 (by kernel_rfl)); exact h1.2.trans h1.1
      exact .inl ⟨(fun k b h => by cases h; exact ⟨5, by decide, rfl, d5⟩), .inl ⟨10, by decide, rfl, (.bool false), W, (by simp [go_sem, Act.eval, d9, d5]), rfl, hJ⟩⟩
    · replace ho := op_at ho (by rfl)
      subst ho
      have d5 : a.tmps.getD 14 undef = (.bool false) := by have h1 := hF 5 (by decide) (hr 5 (by kernel_rfl)); exact h1.2.trans h1.1
      have d10 : a.tmps.getD 19 undef = (.bool false) := by have h1 := hF 10 (by decide) (hr 10 (by kernel_rfl)); exact h1.2.trans h1.1
      exact .inl ⟨(fun k b h => by cases h), .inl ⟨11, by decide, rfl, (.bool false), W, (by simp [go_sem, Act.eval, d5, d10]), rfl, hJ⟩⟩
  case fina =>
    intro d vs Wa hall hJ hF
    have h0 : vs 0 = (.agg (p.cells v).toArray) := hF 0 (by decide)
    have h1 : vs 1 = (.agg (q.cells u).toArray) := hF 1 (by decide)
    have h2 : vs 2 = (.bool s) := hF 2 (by decide)
    have h3 : vs 3 = (.bool s) := hF 3 (by decide)
    have h4 : vs 4 = (.bool false) := hF 4 (by decide)
    have h5 : vs 5 = (.bool false) := hF 5 (by decide)
    have h6 : vs 6 = (.agg (p.cells v).toArray) := hF 6 (by decide)
    have h7 : vs 7 = (.agg (p.cells v).toArray) := hF 7 (by decide)
    have h8 : (fun _ => True) (vs 8) := hF 8 (by decide)
    have h9 : vs 9 = (.bool true) := hF 9 (by decide)
    have h10 : vs 10 = (.bool false) := hF 10 (by decide)
    have h11 : vs 11 = (.bool false) := hF 11 (by decide)
    clear hF
    have hLB := hJ.1
    clear hJ hall h8
    show (_ : Exit → Act → World → Prop) Exit.normal (puts _ vs 12 _) Wa
    simp only [puts, h0, h1, h2, h3, h4, h5, h6, h7, h9, h10, h11, List.getD_cons_zero, List.getD_cons_succ]
    clear h0 h1 h2 h3 h4 h5 h6 h7 h9 h10 h11
    have LB2 := Lib.hid (LB1.out.trans (hLB.mono LB1.out.size))
    have K22 := Lib.hid (stays K2.out hLB)
    have K32 := Lib.hid (stays K3.out hLB)
    have HV2 := Lib.hid (HV.out.below hLB hLB.size)
    have HU2 := Lib.hid (HU.out.below hLB hLB.size)
    have HT2 := Lib.hid (HT.out.below hLB HT.out.lt)
    clear hLB HSM HCP K2 K3 HV HU HT LB1
    obtain ⟨bp, hbp⟩ : ∃ b, b = fitP p := ⟨_, rfl⟩
    obtain ⟨bq, hbq⟩ : ∃ b, b = fitP q := ⟨_, rfl⟩
    have hcon := Lib.hid (rfit_any p v Wa HV2.out HNP.out)
    rw [← hbp] at hcon
    have HBP := Lib.hid hbp
    have HBQ := Lib.hid hbq
    clear hbp hbq
    have c0 : Wa.cell? ⟨b2, 0, none⟩ = some (.int .i64 p.kind) := cell_of_row _ _ 0 _ _ _ K22.out
    have c1 : Wa.cell? ⟨b2, 1, none⟩ = some (.int .i64 p.frm) := cell_of_row _ _ 1 _ _ _ K22.out
    have c2 : Wa.cell? ⟨b2, 2, none⟩ = some (.int .i64 p.to) := cell_of_row _ _ 2 _ _ _ K22.out
    have c3 : Wa.cell? ⟨b2, 3, none⟩ = some (.int .i64 p.boot) := cell_of_row _ _ 3 _ _ _ K22.out
    have c4 : Wa.cell? ⟨b2, 4, none⟩ = some (.int .i64 p.life) := cell_of_row _ _ 4 _ _ _ K22.out
    have c5 : Wa.cell? ⟨b2, 5, none⟩ = some (.int .i64 p.echo) := cell_of_row _ _ 5 _ _ _ K22.out
    have c6 : Wa.cell? ⟨b2, 6, none⟩ = some (.int .i64 p.elife) := cell_of_row _ _ 6 _ _ _ K22.out
    have c7 : Wa.cell? ⟨b2, 7, none⟩ = some (v) := cell_of_row _ _ 7 _ _ _ K22.out
    go_simp
    go_wp2_with (fail)
    with_reducible refine hcon.out.mono ?_
    rintro e W2 ⟨rfl, hB⟩
    have LB3 := Lib.hid (LB2.out.trans (hB.mono LB2.out.size))
    have K23 := Lib.hid (stays K22.out hB)
    have K33 := Lib.hid (stays K32.out hB)
    have HV3 := Lib.hid (HV2.out.below hB hB.size)
    have HU3 := Lib.hid (HU2.out.below hB hB.size)
    have HT3 := Lib.hid (HT2.out.below hB HT2.out.lt)
    clear c0 c1 c2 c3 c4 c5 c6 c7
    clear hcon hB LB2 K22 K32 HV2 HU2 HT2
    cases bp with
    | false =>
      have hcon := Lib.hid (awake_any W2 HT3.out)
      go_wp2_with (fail)
      with_reducible refine hcon.out.mono ?_
      rintro e W3 ⟨rfl, hB⟩
      have LB4 := LB3.out.trans (hB.mono LB3.out.size)
      clear hcon hB
      go_wp2_with (fail)
      go_ret
      exact ⟨rfl, LB4⟩
    | true =>
      have hcon := Lib.hid (rfit_any q u W2 HU3.out HNQ.out)
      rw [← HBQ.out] at hcon
      have e0 : W2.cell? ⟨b3, 0, none⟩ = some (.int .i64 q.kind) := cell_of_row _ _ 0 _ _ _ K33.out
      have e1 : W2.cell? ⟨b3, 1, none⟩ = some (.int .i64 q.frm) := cell_of_row _ _ 1 _ _ _ K33.out
      have e2 : W2.cell? ⟨b3, 2, none⟩ = some (.int .i64 q.to) := cell_of_row _ _ 2 _ _ _ K33.out
      have e3 : W2.cell? ⟨b3, 3, none⟩ = some (.int .i64 q.boot) := cell_of_row _ _ 3 _ _ _ K33.out
      have e4 : W2.cell? ⟨b3, 4, none⟩ = some (.int .i64 q.life) := cell_of_row _ _ 4 _ _ _ K33.out
      have e5 : W2.cell? ⟨b3, 5, none⟩ = some (.int .i64 q.echo) := cell_of_row _ _ 5 _ _ _ K33.out
      have e6 : W2.cell? ⟨b3, 6, none⟩ = some (.int .i64 q.elife) := cell_of_row _ _ 6 _ _ _ K33.out
      have e7 : W2.cell? ⟨b3, 7, none⟩ = some (u) := cell_of_row _ _ 7 _ _ _ K33.out
      go_wp2_with (fail)
      with_reducible refine hcon.out.mono ?_
      rintro e W4 ⟨rfl, hB⟩
      have LB4 := Lib.hid (LB3.out.trans (hB.mono LB3.out.size))
      have K24 := Lib.hid (stays K23.out hB)
      have K34 := Lib.hid (stays K33.out hB)
      have HV4 := Lib.hid (HV3.out.below hB hB.size)
      have HU4 := Lib.hid (HU3.out.below hB hB.size)
      have HT4 := Lib.hid (HT3.out.below hB HT3.out.lt)
      clear e0 e1 e2 e3 e4 e5 e6 e7
      clear hcon hB LB3 K23 K33 HV3 HU3 HT3
      cases bq with
      | false =>
        have hcon := Lib.hid (awake_any W4 HT4.out)
        go_wp2_with (fail)
        with_reducible refine hcon.out.mono ?_
        rintro e W3 ⟨rfl, hB⟩
        have LB5 := LB4.out.trans (hB.mono LB4.out.size)
        clear hcon hB
        go_wp2_with (fail)
        go_ret
        exact ⟨rfl, LB5⟩
      | true =>
        have hiff := enc_same HBP.out.symm HBQ.out.symm
        rw [← HS.out] at hiff
        have hes : (encB p == encB q) = s := by rw [Bool.eq_iff_iff, beq_iff_eq, ← str_eq]; exact hiff
        have HTW := HT4
        have HEA : Hid (∀ W, Below W4.heap.size W4 W → Calls Tryd.prog 13 #[(.agg (p.cells v).toArray)] W fun e w' => ∃ u, e = .returned u ∧ Own w' W.heap.size u (encB p) ∧ Below W.heap.size W w') := fun W hB => encode_any p v W (HV4.out.below hB hB.size) HNP.out (HT4.out.below hB HT4.out.lt)
        have HEB : Hid (∀ W, Below W4.heap.size W4 W → Calls Tryd.prog 13 #[(.agg (q.cells u).toArray)] W fun e w' => ∃ u, e = .returned u ∧ Own w' W.heap.size u (encB q) ∧ Below W.heap.size W w') := fun W hB => encode_any q u W (HU4.out.below hB hB.size) HNQ.out (HT4.out.below hB HT4.out.lt)
        clear hiff
        go_wp2_with (fail)
        refine wpIn_wide (n := 5).1 (wpIn_flowM (F0 := Fence.wide) (n0 := 5) (fun _ => trivial) (fun h => by cases h) (by kernel_rfl) (by kernel_rfl) 13 13 (by kernel_rfl) (fun j => ([0, 1, 2, 3, 4, 5, 6, 7, 8, 9, 10, 11, 12] : List Nat).getD j 0) (fun j => ([30, 31, 32, 33, 34, 35, 36, 37, 38, 39, 40, 41, 4] : List Nat).getD j 0) (by kernel_rfl) (by kernel_rfl) (by kernel_rfl) (by kernel_rfl) (by kernel_rfl) (by kernel_rfl) (by kernel_rfl) (fun j zv => ([(fun zv => zv = (.agg (p.cells v).toArray)), (fun _ => True), (fun zv => zv = (.string ⟨(encB p).toArray⟩)), (fun zv => zv = (.agg (q.cells u).toArray)), (fun _ => True), (fun zv => zv = (.string ⟨(encB q).toArray⟩)), (fun zv => zv = (.bool s)), (fun zv => zv = (.bool s)), (fun zv => zv = (.bool true)), (fun zv => zv = (.bool true)), (fun zv => zv = (.bool true)), (fun zv => zv = (.bool true)), (fun zv => zv = (.bool true))] : List (Value → Prop)).getD j (fun _ => True) zv) (fun d vs W => Below W4.heap.size W4 W ∧ (d 1 = true → Bts W W.heap.size (vs 1) (encB p)) ∧ (d 4 = true → Bts W W.heap.size (vs 4) (encB q))) ?h0b ?stepb ?finb)
        case h0b => exact fun vs => ⟨(Below.refl _ _).drew, (fun h => by cases h), (fun h => by cases h)⟩
        case stepb =>
          intro i o a W d vs hi ho hdi hJ hf hr hF
          replace hi : i < 13 := hi
          rcases (show i = 0 ∨ i = 1 ∨ i = 2 ∨ i = 3 ∨ i = 4 ∨ i = 5 ∨ i = 6 ∨ i = 7 ∨ i = 8 ∨ i = 9 ∨ i = 10 ∨ i = 11 ∨ i = 12 by omega) with rfl | rfl | rfl | rfl | rfl | rfl | rfl | rfl | rfl | rfl | rfl | rfl | rfl
          · replace ho := op_at ho (by rfl)
            subst ho
            have f2 : a.tmps.getD 2 undef = (.pointer (some ⟨b2, 0, none⟩)) := hf 2 (by kernel_rfl)
            exact .inl ⟨(fun k b h => by cases h), .inl ⟨0, by decide, rfl, (.agg (p.cells v).toArray), W, (exec_load_row 24 _ rfl b2 _ _ (.struct (Tryd.prog.fieldsOf 24)) (show a.eval (.tmp 2) = _ from f2) (stays K24.out hJ.1) (by kernel_rfl) rfl (by kernel_rfl)), rfl, hJ⟩⟩
          · replace ho := op_at ho (by rfl)
            subst ho
            have d0 : a.tmps.getD 30 undef = (.agg (p.cells v).toArray) := by have h1 := hF 0 (by decide) (hr 0 (by kernel_rfl)); exact h1.2.trans h1.1
            refine .inl ⟨(fun k b h => by cases h), .inr (.inr ⟨1, by decide, rfl, 13, #[(.agg (p.cells v).toArray)], W, (by simp [go_sem, Act.eval, d0]), ?_⟩)⟩
            refine (callsIn_wide.2 (HEA.out W hJ.1)).mono ?_
            rintro e W' ⟨x, rfl, hO, hBe⟩
            exact ⟨x, rfl, trivial, hJ.1.trans (hBe.mono hJ.1.size), fun _ => hO.bts, fun h => (hJ.2.2 h).below hBe hBe.size⟩
          · replace ho := op_at ho (by rfl)
            subst ho
            obtain ⟨g1, e1⟩ := hF 1 (by decide) (hr 1 (by kernel_rfl))
            replace e1 : a.tmps.getD 31 undef = vs 1 := e1
            replace g1 : (fun _ => True) (vs 1) := g1
            have hcv := (hJ.2.1 (hr 1 (by kernel_rfl))).strB
            exact .inl ⟨(fun k b h => by cases h), .inl ⟨2, by decide, rfl, (.string ⟨(encB p).toArray⟩), W, (by simp [go_sem, Act.eval, e1, hcv]), rfl, hJ⟩⟩
          · replace ho := op_at ho (by rfl)
            subst ho
            have f3 : a.tmps.getD 3 undef = (.pointer (some ⟨b3, 0, none⟩)) := hf 3 (by kernel_rfl)
            exact .inl ⟨(fun k b h => by cases h), .inl ⟨3, by decide, rfl, (.agg (q.cells u).toArray), W, (exec_load_row 24 _ rfl b3 _ _ (.struct (Tryd.prog.fieldsOf 24)) (show a.eval (.tmp 3) = _ from f3) (stays K34.out hJ.1) (by kernel_rfl) rfl (by kernel_rfl)), rfl, hJ⟩⟩
          · replace ho := op_at ho (by rfl)
            subst ho
            have d3 : a.tmps.getD 33 undef = (.agg (q.cells u).toArray) := by have h1 := hF 3 (by decide) (hr 3 (by kernel_rfl)); exact h1.2.trans h1.1
            refine .inl ⟨(fun k b h => by cases h), .inr (.inr ⟨4, by decide, rfl, 13, #[(.agg (q.cells u).toArray)], W, (by simp [go_sem, Act.eval, d3]), ?_⟩)⟩
            refine (callsIn_wide.2 (HEB.out W hJ.1)).mono ?_
            rintro e W' ⟨x, rfl, hO, hBe⟩
            exact ⟨x, rfl, trivial, hJ.1.trans (hBe.mono hJ.1.size), fun h => (hJ.2.1 h).below hBe hBe.size, fun _ => hO.bts⟩
          · replace ho := op_at ho (by rfl)
            subst ho
            obtain ⟨g4, e4⟩ := hF 4 (by decide) (hr 4 (by kernel_rfl))
            replace e4 : a.tmps.getD 34 undef = vs 4 := e4
            replace g4 : (fun _ => True) (vs 4) := g4
            have hcv := (hJ.2.2 (hr 4 (by kernel_rfl))).strB
            exact .inl ⟨(fun k b h => by cases h), .inl ⟨5, by decide, rfl, (.string ⟨(encB q).toArray⟩), W, (by simp [go_sem, Act.eval, e4, hcv]), rfl, hJ⟩⟩
          · replace ho := op_at ho (by rfl)
            subst ho
            have d2 : a.tmps.getD 32 undef = (.string ⟨(encB p).toArray⟩) := by have h1 := hF 2 (by decide) (hr 2 (by kernel_rfl)); exact h1.2.trans h1.1
            have d5 : a.tmps.getD 35 undef = (.string ⟨(encB q).toArray⟩) := by have h1 := hF 5 (by decide) (hr 5 (by kernel_rfl)); exact h1.2.trans h1.1
            exact .inl ⟨(fun k b h => by cases h), .inl ⟨6, by decide, rfl, (.bool s), W, (by simp [go_sem, Act.eval, d2, d5, hes]), rfl, hJ⟩⟩
          · replace ho := op_at ho (by rfl)
            subst ho
            have f5 : a.tmps.getD 5 undef = (.bool s) := hf 5 (by kernel_rfl)
            exact .inl ⟨(fun k b h => by cases h), .inl ⟨7, by decide, rfl, (.bool s), W, (by simp [go_sem, Act.eval, f5]), rfl, hJ⟩⟩
          · replace ho := op_at ho (by rfl)
            subst ho
            have d6 : a.tmps.getD 36 undef = (.bool s) := by have h1 := hF 6 (by decide) (hr 6 (by kernel_rfl)); exact h1.2.trans h1.1
            have d7 : a.tmps.getD 37 undef = (.bool s) := by have h1 := hF 7 (by decide) (hr 7 (by kernel_rfl)); exact h1.2.trans h1.1
            exact .inl ⟨(fun k b h => by cases h), .inl ⟨8, by decide, rfl, (.bool true), W, (by cases s <;> simp [go_sem, Act.eval, d6, d7]), rfl, hJ⟩⟩
          · replace ho := op_at ho (by rfl)
            subst ho
            have d8 : a.tmps.getD 38 undef = (.bool true) := by have h1 := hF 8 (by decide) (hr 8 (by kernel_rfl)); exact h1.2.trans h1.1
            exact .inl ⟨(fun k b h => by cases h), .inl ⟨9, by decide, rfl, (.bool true), W, (by simp [go_sem, Act.eval, d8]), rfl, hJ⟩⟩
          · replace ho := op_at ho (by rfl)
            subst ho
            have d9 : a.tmps.getD 39 undef = (.bool true) := by have h1 := hF 9 (by decide) (hr 9 (by kernel_rfl)); exact h1.2.trans h1.1
            refine .inl ⟨(fun k b h => by cases h; exact ⟨9, by decide, rfl, d9⟩), .inr (.inr ⟨10, by decide, rfl, 16, #[], W, (by simp [go_sem, Act.eval, d9]), ?_⟩)⟩
            refine (callsIn_wide.2 (awake_any W (HTW.out.below hJ.1 HTW.out.lt))).mono ?_
            rintro e W' ⟨rfl, hBe⟩
            exact ⟨_, rfl, rfl, ⟨hJ.1.trans (hBe.mono hJ.1.size), fun h => (hJ.2.1 h).below hBe hBe.size, fun h => (hJ.2.2 h).below hBe hBe.size⟩⟩
          · replace ho := op_at ho (by rfl)
            subst ho
            have d9 : a.tmps.getD 39 undef = (.bool true) := by have h1 := hF 9 (by decide) (hr 9 (by kernel_rfl)); exact h1.2.trans h1.1
            have d10 : a.tmps.getD 40 undef = (.bool true) := by have h1 := hF 10 (by decide) (hr 10 (by kernel_rfl)); exact h1.2.trans h1.1
            exact .inl ⟨(fun k b h => by cases h), .inl ⟨11, by decide, rfl, (.bool true), W, (by simp [go_sem, Act.eval, d9, d10]), rfl, hJ⟩⟩
          · replace ho := op_at ho (by rfl)
            subst ho
            have d11 : a.tmps.getD 41 undef = (.bool true) := by have h1 := hF 11 (by decide) (hr 11 (by kernel_rfl)); exact h1.2.trans h1.1
            exact .inl ⟨(fun k b h => by cases h), .inl ⟨12, by decide, rfl, (.bool true), W, (by simp [go_sem, Act.eval, d11]), rfl, hJ⟩⟩
        case finb =>
          intro d vs Wb hall hJ hF
          have h0 : vs 0 = (.agg (p.cells v).toArray) := hF 0 (by decide)
          have h1 : (fun _ => True) (vs 1) := hF 1 (by decide)
          have h2 : vs 2 = (.string ⟨(encB p).toArray⟩) := hF 2 (by decide)
          have h3 : vs 3 = (.agg (q.cells u).toArray) := hF 3 (by decide)
          have h4 : (fun _ => True) (vs 4) := hF 4 (by decide)
          have h5 : vs 5 = (.string ⟨(encB q).toArray⟩) := hF 5 (by decide)
          have h6 : vs 6 = (.bool s) := hF 6 (by decide)
          have h7 : vs 7 = (.bool s) := hF 7 (by decide)
          have h8 : vs 8 = (.bool true) := hF 8 (by decide)
          have h9 : vs 9 = (.bool true) := hF 9 (by decide)
          have h10 : vs 10 = (.bool true) := hF 10 (by decide)
          have h11 : vs 11 = (.bool true) := hF 11 (by decide)
          have h12 : vs 12 = (.bool true) := hF 12 (by decide)
          clear hF
          have hLB := hJ.1
          clear hJ hall h1 h4
          show (_ : Exit → Act → World → Prop) Exit.normal (puts _ vs 13 _) Wb
          simp only [puts, h0, h2, h3, h5, h6, h7, h8, h9, h10, h11, h12, List.getD_cons_zero, List.getD_cons_succ]
          clear h0 h2 h3 h5 h6 h7 h8 h9 h10 h11 h12
          have LB5 := LB4.out.trans (hLB.mono LB4.out.size)
          clear hLB
          go_simp
          go_wp2
          go_ret
          exact ⟨rfl, LB5⟩

end Go.Proofs.YtgnpjenpehfjbaaDoor

