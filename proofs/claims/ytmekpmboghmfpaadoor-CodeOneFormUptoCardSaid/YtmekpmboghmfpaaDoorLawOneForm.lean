/- The law CodeOneForm, walked (by program: wip/tools/gen_oneform.py). -/
import Derived.Test.YtmekpmboghmfpaaDoorCodeMath
import Derived.Test.YtmekpmboghmfpaaDoorLawCodeFields
namespace Go.Proofs.YtmekpmboghmfpaaDoor
open Go.RowKit

theorem readF_err (l : List UInt8) (ks : List Int) : ∀ acc a, (readF l ks acc a).2.2 ≠ 0 → readF l ks acc a = ([], 0, (readF l ks acc a).2.2) := by
  induction ks with
  | nil => intro acc a h; exact absurd rfl h
  | cons k r ih =>
    intro acc a h
    have e : readF l (k :: r) acc a = if (fieldR l k a).2.2 ≠ 0 then ([], 0, (fieldR l k a).2.2) else readF l r (acc ++ [(fieldR l k a).1]) (fieldR l k a).2.1 := rfl
    by_cases hc : (fieldR l k a).2.2 ≠ 0
    · rw [e, if_pos hc]
    · rw [e, if_neg hc] at h ⊢
      exact ih _ _ h
theorem readF_len (l : List UInt8) (ks : List Int) : ∀ fs a, (readF l ks fs a).1.length ≤ fs.length + ks.length := by
  induction ks with
  | nil => intro fs a; exact Nat.le_refl _
  | cons k r ih =>
    intro fs a
    show (if _ then _ else _ : List Fld × Nat × Nat).1.length ≤ _
    split
    · simp
    · have := ih (fs ++ [(fieldR l k a).1]) (fieldR l k a).2.1
      simp at this ⊢
      omega

set_option maxRecDepth 100000 in
set_option maxHeartbeats 4000000 in
theorem law_CodeOneForm (v vk : Value) (l : List UInt8) (ks : List Int) (w : World) (hb : Bts w w.heap.size v l) (hk : Ints w w.heap.size vk ks) (hl : l.length ≤ 1000000000) (hkl : ks.length ≤ 1000000000) :
    Calls Tryd.prog 11 #[v, vk] w fun e w' => e = .returned (.bool true) ∧ Below w.heap.size w w' := by
  have c1 := code_Read v vk l ks w hb hk hl hkl
  have HBB := Lib.hid hb
  obtain ⟨ao, cap, rfl, _⟩ := id hb
  have herr := readF_err l ks [] 0
  have hform := read_form l ks [] 0
  have hlen := readF_len l ks [] 0
  clear hb hk
  generalize readF l ks [] 0 = R at *
  obtain ⟨fs, b, code⟩ := R
  simp only [List.length_nil] at c1 herr hlen
  by_cases hc : code = 0
  · subst hc
    obtain ⟨gs, he, hble, _, htk, hgs⟩ := hform fs b (Nat.zero_le _) rfl
    rw [List.nil_append] at he
    subst he
    rw [List.drop_zero] at htk
    have hE : fieldsB fs = l.take b := by
      unfold fieldsB
      rw [if_pos (List.all_eq_true.2 fun f hf => (hgs f hf).1), htk]
    have HE := Lib.hid hE
    have HOK : Hid (∀ f ∈ fs, FldOk f) := fun f hf => ⟨(hgs f hf).2.1, (hgs f hf).2.2.1, Nat.le_trans (hgs f hf).2.2.2 hl⟩
    have HT : Hid ((fs.flatMap fbytes).length ≤ 1000000000) := by show _ ≤ _; rw [← htk]; simp; omega
    have HFL : Hid (fs.length ≤ 1000000000) := by show _ ≤ _; omega
    clear hgs htk hE herr hform hlen
    go_enter Tryd.func11, Tryd.ntmps11
    go_wp2_with fail
    refine c1.mono ?_
    rintro e w1 ⟨lv, rfl, hB1, hO1⟩
    obtain ⟨lo, lcap, hlv⟩ := owns_form hO1
    obtain ⟨fl, hfl⟩ : ∃ fl, fl = fs.length := ⟨_, rfl⟩
    rw [← hfl] at hlv
    have hfl2 := Lib.hid hfl
    have hF1 := hO1.flds
    subst hlv
    have HF1 := Lib.hid hF1
    have HB1 := Lib.hid hB1
    clear c1 hfl hO1 hF1 hB1
    go_wp2_with fail
    obtain ⟨vc, hcb0, hcut0⟩ := (HBB.out.below HB1.out HB1.out.size).toB b hble
    have hcut : ∀ W, (Instr.slice 22 (.slice ao l.length cap) none (some (.int .i64 (b : Int))) none).run Tryd.prog W = .ok vc W := fun W => hcut0 W .i64
    have hcb : ∀ W, Below w1.heap.size w1 W → Bts W W.heap.size vc (l.take b) := fun W h => hcb0.below h h.size
    have hlb : ∀ W, Below w1.heap.size w1 W → Flds W W.heap.size (.slice lo fl lcap) fs := fun W h => HF1.out.below h h.size
    clear hcb0 hcut0
    refine wp_flow (by kernel_rfl) (by kernel_rfl) (fun i => if i = 17 then 4 else 27 + i) (by kernel_rfl) (by kernel_rfl) (by kernel_rfl) (fun i v W => ([(fun zv _ => zv = (.int .i64 (b : Int))), (fun zv _ => zv = (.slice ao l.length cap)), (fun zv _ => zv = (.int .i64 (l.length : Int))), (fun zv _ => zv = (.bool true)), (fun zv _ => zv = (.bool true)), (fun zv _ => zv = (.slice lo fl lcap)), (fun zv zw => Bts zw zw.heap.size zv (l.take b)), (fun zv _ => zv = (.string ⟨(l.take b).toArray⟩)), (fun zv _ => zv = (.slice ao l.length cap)), (fun zv _ => zv = (.int .i64 (b : Int))), (fun zv _ => zv = vc), (fun zv _ => zv = (.string ⟨(l.take b).toArray⟩)), (fun zv _ => zv = (.bool true)), (fun zv _ => zv = (.bool true)), (fun zv _ => zv = (.bool true)), (fun zv _ => zv = (.bool true)), (fun zv _ => zv = (.bool true)), (fun zv _ => zv = (.bool true))] : List (Value → World → Prop)).getD i (fun _ _ => True) v W) ?_ ?_ (by kernel_rfl) ?_
    · intro i hi
      replace hi : i < 18 := hi
      rcases (show i = 0 ∨ i = 1 ∨ i = 2 ∨ i = 3 ∨ i = 4 ∨ i = 5 ∨ i = 6 ∨ i = 7 ∨ i = 8 ∨ i = 9 ∨ i = 10 ∨ i = 11 ∨ i = 12 ∨ i = 13 ∨ i = 14 ∨ i = 15 ∨ i = 16 ∨ i = 17 by omega) with rfl | rfl | rfl | rfl | rfl | rfl | rfl | rfl | rfl | rfl | rfl | rfl | rfl | rfl | rfl | rfl | rfl | rfl
      · exact Stays.eq _
      · exact Stays.eq _
      · exact Stays.eq _
      · exact Stays.eq _
      · exact Stays.eq _
      · exact Stays.eq _
      · exact Stays.bts _
      · exact Stays.eq _
      · exact Stays.eq _
      · exact Stays.eq _
      · exact Stays.eq _
      · exact Stays.eq _
      · exact Stays.eq _
      · exact Stays.eq _
      · exact Stays.eq _
      · exact Stays.eq _
      · exact Stays.eq _
      · exact Stays.eq _
    · intro i o a W hi ho hB hf hd
      replace hi : i < 18 := hi
      rcases (show i = 0 ∨ i = 1 ∨ i = 2 ∨ i = 3 ∨ i = 4 ∨ i = 5 ∨ i = 6 ∨ i = 7 ∨ i = 8 ∨ i = 9 ∨ i = 10 ∨ i = 11 ∨ i = 12 ∨ i = 13 ∨ i = 14 ∨ i = 15 ∨ i = 16 ∨ i = 17 by omega) with rfl | rfl | rfl | rfl | rfl | rfl | rfl | rfl | rfl | rfl | rfl | rfl | rfl | rfl | rfl | rfl | rfl | rfl
      · replace ho := op_at ho (by rfl)
        subst ho
        have f6 : a.tmps.getD 6 undef = (.int .i64 (b : Int)) := hf 6 (by kernel_rfl)
        refine ⟨(fun j b h => by cases h), FlowOp.pure _ (by simp [go_sem, Act.eval, f6]) rfl⟩
      · replace ho := op_at ho (by rfl)
        subst ho
        have f0 : a.tmps.getD 0 undef = (.slice ao l.length cap) := hf 0 (by kernel_rfl)
        refine ⟨(fun j b h => by cases h), FlowOp.pure _ (by simp [go_sem, Act.eval, f0]) rfl⟩
      · replace ho := op_at ho (by rfl)
        subst ho
        have d1 : a.tmps.getD 28 undef = (.slice ao l.length cap) := hd 1 (by kernel_rfl)
        refine ⟨(fun j b h => by cases h), FlowOp.pure _ (by simp [go_sem, Act.eval, d1]) rfl⟩
      · replace ho := op_at ho (by rfl)
        subst ho
        have d0 : a.tmps.getD 27 undef = (.int .i64 (b : Int)) := hd 0 (by kernel_rfl)
        have d2 : a.tmps.getD 29 undef = (.int .i64 (l.length : Int)) := hd 2 (by kernel_rfl)
        refine ⟨(fun j b h => by cases h), FlowOp.pure _ (by simp [go_sem, Act.eval, d0, d2, hble]) rfl⟩
      · replace ho := op_at ho (by rfl)
        subst ho
        have d3 : a.tmps.getD 30 undef = (.bool true) := hd 3 (by kernel_rfl)
        refine ⟨(fun j b h => by cases h), FlowOp.pure _ (by simp [go_sem, Act.eval, d3]) rfl⟩
      · replace ho := op_at ho (by rfl)
        subst ho
        have f5 : a.tmps.getD 5 undef = (.slice lo fl lcap) := hf 5 (by kernel_rfl)
        have d4 : a.tmps.getD 31 undef = (.bool true) := hd 4 (by kernel_rfl)
        refine ⟨(fun j b h => by cases h; exact d4), FlowOp.pure _ (by simp [go_sem, Act.eval, f5]) rfl⟩
      · replace ho := op_at ho (by rfl)
        subst ho
        have d5 : a.tmps.getD 32 undef = (.slice lo fl lcap) := hd 5 (by kernel_rfl)
        have d4 : a.tmps.getD 31 undef = (.bool true) := hd 4 (by kernel_rfl)
        refine ⟨(fun j b h => by cases h; exact d4), FlowOp.call 26 #[(.slice lo fl lcap)] (by simp [go_sem, Act.eval, d5]) ?_⟩
        have hcc := code_Fields (.slice lo fl lcap) fs W (hlb W hB) HOK.out HT.out HFL.out
        rw [HE.out] at hcc
        refine hcc.mono ?_
        rintro e W' ⟨u, rfl, hO, hBe⟩
        exact ⟨u, rfl, hBe, hO.bts⟩
      · replace ho := op_at ho (by rfl)
        subst ho
        have d6 : (fun zv zw => Bts zw zw.heap.size zv (l.take b)) (a.tmps.getD 33 undef) W := hd 6 (by kernel_rfl)
        obtain ⟨x6, e6⟩ : ∃ x, a.tmps.getD 33 undef = x := ⟨_, rfl⟩
        rw [e6] at d6
        have d4 : a.tmps.getD 31 undef = (.bool true) := hd 4 (by kernel_rfl)
        refine ⟨(fun j b h => by cases h; exact d4), FlowOp.pure _ (by have h := d6.strB; simp [go_sem, Act.eval, h, e6]) rfl⟩
      · replace ho := op_at ho (by rfl)
        subst ho
        have f0 : a.tmps.getD 0 undef = (.slice ao l.length cap) := hf 0 (by kernel_rfl)
        have d4 : a.tmps.getD 31 undef = (.bool true) := hd 4 (by kernel_rfl)
        refine ⟨(fun j b h => by cases h; exact d4), FlowOp.pure _ (by simp [go_sem, Act.eval, f0]) rfl⟩
      · replace ho := op_at ho (by rfl)
        subst ho
        have f6 : a.tmps.getD 6 undef = (.int .i64 (b : Int)) := hf 6 (by kernel_rfl)
        have d4 : a.tmps.getD 31 undef = (.bool true) := hd 4 (by kernel_rfl)
        refine ⟨(fun j b h => by cases h; exact d4), FlowOp.pure _ (by simp [go_sem, Act.eval, f6]) rfl⟩
      · replace ho := op_at ho (by rfl)
        subst ho
        have d8 : a.tmps.getD 35 undef = (.slice ao l.length cap) := hd 8 (by kernel_rfl)
        have d9 : a.tmps.getD 36 undef = (.int .i64 (b : Int)) := hd 9 (by kernel_rfl)
        have d4 : a.tmps.getD 31 undef = (.bool true) := hd 4 (by kernel_rfl)
        refine ⟨(fun j b h => by cases h; exact d4), FlowOp.pure _ (by simp [go_sem, Act.eval, d8, d9, hcut]) rfl⟩
      · replace ho := op_at ho (by rfl)
        subst ho
        have d10 : a.tmps.getD 37 undef = vc := hd 10 (by kernel_rfl)
        have d4 : a.tmps.getD 31 undef = (.bool true) := hd 4 (by kernel_rfl)
        have kh := (hcb W hB).strB
        refine ⟨(fun j b h => by cases h; exact d4), FlowOp.pure _ (by simp [go_sem, Act.eval, d10, kh]) rfl⟩
      · replace ho := op_at ho (by rfl)
        subst ho
        have d7 : a.tmps.getD 34 undef = (.string ⟨(l.take b).toArray⟩) := hd 7 (by kernel_rfl)
        have d11 : a.tmps.getD 38 undef = (.string ⟨(l.take b).toArray⟩) := hd 11 (by kernel_rfl)
        have d4 : a.tmps.getD 31 undef = (.bool true) := hd 4 (by kernel_rfl)
        refine ⟨(fun j b h => by cases h; exact d4), FlowOp.pure _ (by simp [go_sem, Act.eval, d7, d11]) rfl⟩
      · replace ho := op_at ho (by rfl)
        subst ho
        have d4 : a.tmps.getD 31 undef = (.bool true) := hd 4 (by kernel_rfl)
        have d12 : a.tmps.getD 39 undef = (.bool true) := hd 12 (by kernel_rfl)
        refine ⟨(fun j b h => by cases h), FlowOp.pure _ (by simp [go_sem, Act.eval, d4, d12]) rfl⟩
      · replace ho := op_at ho (by rfl)
        subst ho
        have d13 : a.tmps.getD 40 undef = (.bool true) := hd 13 (by kernel_rfl)
        refine ⟨(fun j b h => by cases h), FlowOp.pure _ (by simp [go_sem, Act.eval, d13]) rfl⟩
      · replace ho := op_at ho (by rfl)
        subst ho
        have d14 : a.tmps.getD 41 undef = (.bool true) := hd 14 (by kernel_rfl)
        refine ⟨(fun j b h => by cases h; exact d14), FlowOp.call 28 #[] (by simp [go_sem, Act.eval]) ?_⟩
        refine (awake_true W).mono ?_
        rintro e W' ⟨rfl, hBe⟩
        exact ⟨_, rfl, hBe, rfl⟩
      · replace ho := op_at ho (by rfl)
        subst ho
        have d14 : a.tmps.getD 41 undef = (.bool true) := hd 14 (by kernel_rfl)
        have d15 : a.tmps.getD 42 undef = (.bool true) := hd 15 (by kernel_rfl)
        refine ⟨(fun j b h => by cases h), FlowOp.pure _ (by simp [go_sem, Act.eval, d14, d15]) rfl⟩
      · replace ho := op_at ho (by rfl)
        subst ho
        have d16 : a.tmps.getD 43 undef = (.bool true) := hd 16 (by kernel_rfl)
        refine ⟨(fun j b h => by cases h), FlowOp.pure _ (by simp [go_sem, Act.eval, d16]) rfl⟩
    · intro vs4 W4 hB4 hv
      have h0 : vs4 0 = (.int .i64 (b : Int)) := hv 0 (show 0 < 18 by decide)
      have h1 : vs4 1 = (.slice ao l.length cap) := hv 1 (show 1 < 18 by decide)
      have h2 : vs4 2 = (.int .i64 (l.length : Int)) := hv 2 (show 2 < 18 by decide)
      have h3 : vs4 3 = (.bool true) := hv 3 (show 3 < 18 by decide)
      have h4 : vs4 4 = (.bool true) := hv 4 (show 4 < 18 by decide)
      have h5 : vs4 5 = (.slice lo fl lcap) := hv 5 (show 5 < 18 by decide)
      have h6 : (fun zv zw => Bts zw zw.heap.size zv (l.take b)) (vs4 6) W4 := hv 6 (show 6 < 18 by decide)
      have h7 : vs4 7 = (.string ⟨(l.take b).toArray⟩) := hv 7 (show 7 < 18 by decide)
      have h8 : vs4 8 = (.slice ao l.length cap) := hv 8 (show 8 < 18 by decide)
      have h9 : vs4 9 = (.int .i64 (b : Int)) := hv 9 (show 9 < 18 by decide)
      have h10 : vs4 10 = vc := hv 10 (show 10 < 18 by decide)
      have h11 : vs4 11 = (.string ⟨(l.take b).toArray⟩) := hv 11 (show 11 < 18 by decide)
      have h12 : vs4 12 = (.bool true) := hv 12 (show 12 < 18 by decide)
      have h13 : vs4 13 = (.bool true) := hv 13 (show 13 < 18 by decide)
      have h14 : vs4 14 = (.bool true) := hv 14 (show 14 < 18 by decide)
      have h15 : vs4 15 = (.bool true) := hv 15 (show 15 < 18 by decide)
      have h16 : vs4 16 = (.bool true) := hv 16 (show 16 < 18 by decide)
      have h17 : vs4 17 = (.bool true) := hv 17 (show 17 < 18 by decide)
      clear hv
      show (_ : Exit → Act → World → Prop) Exit.normal (puts _ vs4 18 _) W4
      simp only [puts, h0, h1, h2, h3, h4, h5, h7, h8, h9, h10, h11, h12, h13, h14, h15, h16, h17]
      clear h0 h1 h2 h3 h4 h5 h7 h8 h9 h10 h11 h12 h13 h14 h15 h16 h17
      clear hcut hcb hlb
      go_simp
      go_wp2
      go_ret
      exact ⟨rfl, HB1.out.trans (hB4.mono HB1.out.size)⟩
  · have he := herr hc
    simp only [Prod.mk.injEq] at he
    obtain ⟨rfl, rfl, _⟩ := he
    have e1 : ((code : Int) == 0) = false := by rw [beq_eq_false_iff_ne]; omega
    have e2 : ((code : Int) != 0) = true := by rw [bne_iff_ne]; omega
    clear hc herr hform hlen
    go_enter Tryd.func11, Tryd.ntmps11
    go_wp2_with fail
    refine c1.mono ?_
    rintro e w1 ⟨lv, rfl, hB1, hO1⟩
    obtain ⟨lo, lcap, rfl⟩ := owns_form hO1
    have c2 := awake_true w1
    have HB1 := Lib.hid hB1
    clear c1 hO1 hB1
    go_wp2_with fail
    refine c2.mono ?_
    rintro e w2 ⟨rfl, hB2⟩
    clear c2
    go_wp2
    go_ret
    exact ⟨rfl, HB1.out.trans (hB2.mono HB1.out.size)⟩

end Go.Proofs.YtmekpmboghmfpaaDoor
