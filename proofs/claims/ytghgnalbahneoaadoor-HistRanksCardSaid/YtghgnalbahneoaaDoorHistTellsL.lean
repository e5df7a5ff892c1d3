/- HistTells: the law, walked (by program: wip/tools/gen_histtells.py). -/
import Derived.Test.YtghgnalbahneoaaDoorHist16
import Derived.Test.YtghgnalbahneoaaDoorHist21
import Derived.Test.YtghgnalbahneoaaDoorHist22
import Derived.Test.YtghgnalbahneoaaDoorFlow2
namespace Go.Proofs.YtghgnalbahneoaaDoor
open Go.RowKit

theorem cnt_sum0 {cs : List Int} (h : CntIn cs) (k : Nat) (hk : k ≤ cs.length) : 0 ≤ (cs.take k).sum := (sum_in cs _ h k hk).1
/-- a rank at or below the sum is passed in some range -/
theorem past_all {cs : List Int} {r : Int} (hn : 0 < cs.length) (hr : r ≤ cs.sum) (hP : Past cs r cs.length) : False := by
  obtain ⟨k, hk⟩ : ∃ k, cs.length = k + 1 := ⟨cs.length - 1, by omega⟩
  have h1 := hP k (by omega)
  have h2 := sum_snoc cs k (by omega)
  rw [← hk, List.take_length] at h2
  omega
theorem sum_ge1 {cs : List Int} (h : CntIn cs) (h0 : cs.sum ≠ 0) : 1 ≤ cs.sum := by
  have := cnt_sum0 h cs.length (Nat.le_refl _)
  rw [List.take_length] at this
  omega
/-- the two Quantiles answer the same -/
theorem quant_same {bs cs : List Int} {num den c1 c2 : Int} {e1 e2 : Ending} (hf : FitH bs cs) (h1 : QuantR bs cs num den c1 e1) (h2 : QuantR bs cs num den c2 e2) : ∃ b1 l1 b2 l2 c, e1 = .returned (.tuple #[rgV b1 l1 b2 l2, .int .i64 c]) ∧ e2 = .returned (.tuple #[rgV b1 l1 b2 l2, .int .i64 c]) := by
  have hn : 0 < cs.length := by have := hf.2.1; omega
  rcases h1 with ⟨a1, rfl⟩ | ⟨a1, z1, rfl⟩ | ⟨a1, z1, h1⟩
  · rcases h2 with ⟨a2, rfl⟩ | ⟨a2, z2, rfl⟩ | ⟨a2, z2, h2⟩
    · exact ⟨_, _, _, _, _, rfl, rfl⟩
    · omega
    · omega
  · rcases h2 with ⟨a2, rfl⟩ | ⟨a2, z2, rfl⟩ | ⟨a2, z2, h2⟩
    · omega
    · exact ⟨_, _, _, _, _, rfl, rfl⟩
    · exact absurd z1 z2
  · have hs := sum_ge1 hf.cnt z1
    have hr := (rank_le num den cs.sum (by omega) (by omega) (by omega) hs).2
    rcases h1 with ⟨k1, hk1, p1, q1, rfl⟩ | ⟨p1, rfl⟩
    · rcases h2 with ⟨a2, rfl⟩ | ⟨a2, z2, rfl⟩ | ⟨a2, z2, ⟨k2, hk2, p2, q2, rfl⟩ | ⟨p2, rfl⟩⟩
      · omega
      · exact absurd z2 z1
      · have : k1 = k2 := by
          rcases Nat.lt_trichotomy k1 k2 with h | h | h
          · have := p2 k1 h; omega
          · exact h
          · have := p1 k2 h; omega
        subst this
        exact ⟨_, _, _, _, _, rfl, rfl⟩
      · exact (past_all hn hr p2).elim
    · exact (past_all hn hr p1).elim

attribute [local irreducible] textF sureF mostB

set_option maxRecDepth 100000 in
set_option maxHeartbeats 1000000 in
theorem law_HistTells (vb vc : Value) (bs cs : List Int) (num den x z : Int) (w : World) (hb : Its w w.heap.size vb bs) (hc : Its w w.heap.size vc cs) (h64 : In64 bs) (hz0 : -9223372036854775808 ≤ z) (hz1 : z ≤ 9223372036854775807) (ht : TabT w) :
    Calls Tryd.prog 3 #[hiV vb vc, .int .i64 num, .int .i64 den, .int .i64 x, .int .i64 z] w fun e w' => e = .returned (.bool true) ∧ Below w.heap.size w w' := by
  obtain ⟨g0, k0⟩ := hist_new w vb vc
  have L := Lib.hid g0
  have K := Lib.hid k0
  have HB := Lib.hid (hb.kept g0)
  have HC := Lib.hid (hc.kept g0)
  have HT := Lib.hid (ht.below g0)
  have H64 := Lib.hid h64
  have HZ := Lib.hid (And.intro hz0 hz1)
  clear g0 k0 ht h64 hz0 hz1
  obtain ⟨ab, capb, hvb, -⟩ := hb.slice
  obtain ⟨ac, capc, hvc, -⟩ := hc.slice
  subst hvb hvc
  obtain ⟨nb, hnb⟩ : ∃ n, n = bs.length := ⟨_, rfl⟩
  obtain ⟨nc, hnc⟩ : ∃ n, n = cs.length := ⟨_, rfl⟩
  rw [← hnb, ← hnc] at K HB HC L HT ⊢
  clear hb hc hnb hnc
  have a0 := hiO_0 K.out
  have a1 := hiO_1 K.out
  have hfi := rfit_any (.slice ab nb capb) (.slice ac nc capc) bs cs _ HB.out HC.out
  by_cases hfit : FitH bs cs
  · rw [fitHB_t hfit] at hfi
    have HF := Lib.hid hfit
    clear hfit
    go_enter Tryd.func3, Tryd.ntmps3
    go_wp2_with (fail)
    refine (hfi).mono ?_
    rintro e w1 ⟨rfl, hB1⟩
    replace L := Lib.hid (L.out.trans (hB1.mono L.out.size))
    replace K := Lib.hid (stays K.out hB1)
    replace HB := Lib.hid (HB.out.kept hB1)
    replace HC := Lib.hid (HC.out.kept hB1)
    replace HT := Lib.hid (HT.out.below hB1)
    clear a0 a1 hB1
    clear hfi
    generalize w1 = W0 at *
    have a0 := hiO_0 K.out
    have a1 := hiO_1 K.out
    have HQ1 := Lib.hid (quant_any (.slice ab nb capb) (.slice ac nc capc) bs cs num den W0 HB.out HC.out HF.out)
    go_wp2_with (fail)
    refine HQ1.out.mono ?_
    rintro e w1 ⟨hQ1, hB1⟩
    have HR1 : Hid (QuantR bs cs num den 0 e) := hQ1
    obtain ⟨b1, l1, b2, l2, c, he⟩ : ∃ b1 l1 b2 l2 c, e = .returned (.tuple #[rgV b1 l1 b2 l2, .int .i64 c]) := by
      obtain ⟨b1, l1, b2, l2, c, h, -⟩ := quant_same HF.out hQ1 hQ1
      exact ⟨b1, l1, b2, l2, c, h⟩
    subst he
    replace L := Lib.hid (L.out.trans (hB1.mono L.out.size))
    replace K := Lib.hid (stays K.out hB1)
    replace HB := Lib.hid (HB.out.kept hB1)
    replace HC := Lib.hid (HC.out.kept hB1)
    replace HT := Lib.hid (HT.out.below hB1)
    clear a0 a1 hB1 hQ1 HQ1
    have g2 := bel_alloc (o := .cells #[.bool b1, .int .i64 l1, .bool b2, .int .i64 l2] 28) (Below.refl w1.heap.size w1) (Nat.le_refl _)
    have KR1 := Lib.hid (heap_alloc_new w1 (.cells #[.bool b1, .int .i64 l1, .bool b2, .int .i64 l2] 28))
    replace L := Lib.hid (L.out.trans (g2.mono L.out.size))
    replace K := Lib.hid (stays K.out g2)
    replace HB := Lib.hid (HB.out.kept g2)
    replace HC := Lib.hid (HC.out.kept g2)
    replace HT := Lib.hid (HT.out.below g2)
    clear g2
    have a0 := hiO_0 K.out
    have a1 := hiO_1 K.out
    have HQ2 := Lib.hid (rquant_any (.slice ab nb capb) (.slice ac nc capc) bs cs num den _ HB.out HC.out HF.out)
    simp only [rgV]
    go_wp2_with (fail)
    refine HQ2.out.mono ?_
    rintro e w2 ⟨hQ2, hB1⟩
    obtain ⟨x1, y1, x2, y2, c', he1, he2⟩ := quant_same HF.out HR1.out hQ2
    have heq : (b1 = x1 ∧ l1 = y1 ∧ b2 = x2 ∧ l2 = y2) ∧ c = c' := by simpa [rgV] using he1
    obtain ⟨⟨rfl, rfl, rfl, rfl⟩, rfl⟩ := heq
    subst he2
    replace L := Lib.hid (L.out.trans (hB1.mono L.out.size))
    replace K := Lib.hid (stays K.out hB1)
    replace KR1 := Lib.hid (stays KR1.out hB1)
    replace HB := Lib.hid (HB.out.kept hB1)
    replace HC := Lib.hid (HC.out.kept hB1)
    replace HT := Lib.hid (HT.out.below hB1)
    clear a0 a1 hB1 hQ2 HQ2 he1 HR1
    generalize w1.heap.size = r1 at *
    have g2 := bel_alloc (o := .cells #[.bool b1, .int .i64 l1, .bool b2, .int .i64 l2] 28) (Below.refl w2.heap.size w2) (Nat.le_refl _)
    have KR2 := Lib.hid (heap_alloc_new w2 (.cells #[.bool b1, .int .i64 l1, .bool b2, .int .i64 l2] 28))
    replace L := Lib.hid (L.out.trans (g2.mono L.out.size))
    replace K := Lib.hid (stays K.out g2)
    replace KR1 := Lib.hid (stays KR1.out g2)
    replace HB := Lib.hid (HB.out.kept g2)
    replace HC := Lib.hid (HC.out.kept g2)
    replace HT := Lib.hid (HT.out.below g2)
    clear g2
    have a0 := hiO_0 K.out
    have a1 := hiO_1 K.out
    have q0 := cell_of_row _ _ 0 _ _ _ KR1.out
    have q1 := cell_of_row _ _ 1 _ _ _ KR1.out
    have q2 := cell_of_row _ _ 2 _ _ _ KR1.out
    have q3 := cell_of_row _ _ 3 _ _ _ KR1.out
    have HX1 := Lib.hid (below_any (.slice ab nb capb) (.slice ac nc capc) bs cs x _ HB.out HC.out HF.out)
    simp only [rgV]
    go_wp2_with (fail)
    refine (HX1.out).mono ?_
    rintro e w1 ⟨rfl, hB1⟩
    replace L := Lib.hid (L.out.trans (hB1.mono L.out.size))
    replace K := Lib.hid (stays K.out hB1)
    replace HB := Lib.hid (HB.out.kept hB1)
    replace HC := Lib.hid (HC.out.kept hB1)
    replace HT := Lib.hid (HT.out.below hB1)
    clear a0 a1 hB1
    clear HX1 q0 q1 q2 q3 KR1 KR2
    generalize w1 = W0 at *
    have a0 := hiO_0 K.out
    have a1 := hiO_1 K.out
    have HX2 := Lib.hid (rbelow_any (.slice ab nb capb) (.slice ac nc capc) bs cs x W0 HB.out HC.out HF.out)
    go_wp2_with (fail)
    refine (HX2.out).mono ?_
    rintro e w1 ⟨rfl, hB1⟩
    replace L := Lib.hid (L.out.trans (hB1.mono L.out.size))
    replace K := Lib.hid (stays K.out hB1)
    replace HB := Lib.hid (HB.out.kept hB1)
    replace HC := Lib.hid (HC.out.kept hB1)
    replace HT := Lib.hid (HT.out.below hB1)
    clear a0 a1 hB1
    clear HX2
    generalize w1 = W1 at *
    have a0 := hiO_0 K.out
    have a1 := hiO_1 K.out
    go_wp2_with (fail)
    generalize w2.heap.size = r2 at *
    try generalize W1 = W2 at *
    clear a0 a1
    refine wp_flow2 (by kernel_rfl) (by kernel_rfl) (fun i => if i = 20 then 10 else 57 + i) (by kernel_rfl) (by kernel_rfl) (by kernel_rfl) (fun i v W => ([(fun zv _ => zv = (.int .i64 (sureF bs cs x cs.length))), (fun zv _ => zv = (.int .i64 (sureF bs cs x cs.length))), (fun zv _ => zv = (.bool true)), (fun zv _ => zv = (.bool true)), (fun zv _ => zv = (.int .i64 (mostB bs cs x cs.length))), (fun zv _ => zv = (.int .i64 (mostB bs cs x cs.length))), (fun zv _ => zv = (.bool true)), (fun zv _ => zv = (.bool true)), (fun zv _ => zv = (.bool true)), (fun zv _ => zv = (.agg #[(.slice ab nb capb), (.slice ac nc capc)])), (fun zv _ => zv = (.int .i64 z)), (fun zv _ => zv = (.string ⟨(textF bs cs z).toArray⟩)), (fun zv _ => zv = (.agg #[(.slice ab nb capb), (.slice ac nc capc)])), (fun zv _ => zv = (.int .i64 z)), (fun zv _ => zv = (.string ⟨(textF bs cs z).toArray⟩)), (fun zv _ => zv = (.bool true)), (fun zv _ => zv = (.bool true)), (fun zv _ => zv = (.bool true)), (fun zv _ => zv = (.bool true)), (fun zv _ => zv = (.bool true)), (fun zv _ => zv = (.bool true))] : List (Value → World → Prop)).getD i (fun _ _ => True) v W) ?_ ?_ (by kernel_rfl) ?_
    · intro i hi
      replace hi : i < 21 := hi
      rcases (show i = 0 ∨ i = 1 ∨ i = 2 ∨ i = 3 ∨ i = 4 ∨ i = 5 ∨ i = 6 ∨ i = 7 ∨ i = 8 ∨ i = 9 ∨ i = 10 ∨ i = 11 ∨ i = 12 ∨ i = 13 ∨ i = 14 ∨ i = 15 ∨ i = 16 ∨ i = 17 ∨ i = 18 ∨ i = 19 ∨ i = 20 by omega) with rfl | rfl | rfl | rfl | rfl | rfl | rfl | rfl | rfl | rfl | rfl | rfl | rfl | rfl | rfl | rfl | rfl | rfl | rfl | rfl | rfl
      · exact Stays.eq _
      · exact Stays.eq _
      · exact Stays.eq _
      · exact Stays.eq _
      · exact Stays.eq _
      · exact Stays.eq _
      · exact Stays.eq _
      · exact Stays.eq _
      · exact Stays.eq _
      · exact Stays.eq _
      · exact Stays.eq _
      · exact Stays.eq _
      · exact Stays.eq _
      · exact Stays.eq _
      · exact Stays.eq _
      · exact Stays.eq _
      · exact Stays.eq _
      · exact Stays.eq _
      · exact Stays.eq _
      · exact Stays.eq _
      · exact Stays.eq _
    · intro i o a W hi ho hB hf hd
      replace hi : i < 21 := hi
      rcases (show i = 0 ∨ i = 1 ∨ i = 2 ∨ i = 3 ∨ i = 4 ∨ i = 5 ∨ i = 6 ∨ i = 7 ∨ i = 8 ∨ i = 9 ∨ i = 10 ∨ i = 11 ∨ i = 12 ∨ i = 13 ∨ i = 14 ∨ i = 15 ∨ i = 16 ∨ i = 17 ∨ i = 18 ∨ i = 19 ∨ i = 20 by omega) with rfl | rfl | rfl | rfl | rfl | rfl | rfl | rfl | rfl | rfl | rfl | rfl | rfl | rfl | rfl | rfl | rfl | rfl | rfl | rfl | rfl
      · replace ho := op_at ho (by rfl)
        subst ho
        have f15 : a.tmps.getD 15 undef = (.int .i64 (sureF bs cs x cs.length)) := hf 15 (by kernel_rfl)
        refine .inl ⟨(fun j b h => by cases h), FlowOp.pure _ (by simp [go_sem, Act.eval, f15]) rfl⟩
      · replace ho := op_at ho (by rfl)
        subst ho
        have f17 : a.tmps.getD 17 undef = (.int .i64 (sureF bs cs x cs.length)) := hf 17 (by kernel_rfl)
        refine .inl ⟨(fun j b h => by cases h), FlowOp.pure _ (by simp [go_sem, Act.eval, f17]) rfl⟩
      · replace ho := op_at ho (by rfl)
        subst ho
        have d0 : a.tmps.getD 57 undef = (.int .i64 (sureF bs cs x cs.length)) := hd 0 (by kernel_rfl)
        have d1 : a.tmps.getD 58 undef = (.int .i64 (sureF bs cs x cs.length)) := hd 1 (by kernel_rfl)
        refine .inl ⟨(fun j b h => by cases h), FlowOp.pure _ (by simp [go_sem, Act.eval, d0, d1]) rfl⟩
      · replace ho := op_at ho (by rfl)
        subst ho
        have d2 : a.tmps.getD 59 undef = (.bool true) := hd 2 (by kernel_rfl)
        refine .inl ⟨(fun j b h => by cases h), FlowOp.pure _ (by simp [go_sem, Act.eval, d2]) rfl⟩
      · replace ho := op_at ho (by rfl)
        subst ho
        have f16 : a.tmps.getD 16 undef = (.int .i64 (mostB bs cs x cs.length)) := hf 16 (by kernel_rfl)
        have d3 : a.tmps.getD 60 undef = (.bool true) := hd 3 (by kernel_rfl)
        refine .inl ⟨(fun j b h => by cases h; exact d3), FlowOp.pure _ (by simp [go_sem, Act.eval, f16]) rfl⟩
      · replace ho := op_at ho (by rfl)
        subst ho
        have f18 : a.tmps.getD 18 undef = (.int .i64 (mostB bs cs x cs.length)) := hf 18 (by kernel_rfl)
        have d3 : a.tmps.getD 60 undef = (.bool true) := hd 3 (by kernel_rfl)
        refine .inl ⟨(fun j b h => by cases h; exact d3), FlowOp.pure _ (by simp [go_sem, Act.eval, f18]) rfl⟩
      · replace ho := op_at ho (by rfl)
        subst ho
        have d4 : a.tmps.getD 61 undef = (.int .i64 (mostB bs cs x cs.length)) := hd 4 (by kernel_rfl)
        have d5 : a.tmps.getD 62 undef = (.int .i64 (mostB bs cs x cs.length)) := hd 5 (by kernel_rfl)
        have d3 : a.tmps.getD 60 undef = (.bool true) := hd 3 (by kernel_rfl)
        refine .inl ⟨(fun j b h => by cases h; exact d3), FlowOp.pure _ (by simp [go_sem, Act.eval, d4, d5]) rfl⟩
      · replace ho := op_at ho (by rfl)
        subst ho
        have d3 : a.tmps.getD 60 undef = (.bool true) := hd 3 (by kernel_rfl)
        have d6 : a.tmps.getD 63 undef = (.bool true) := hd 6 (by kernel_rfl)
        refine .inl ⟨(fun j b h => by cases h), FlowOp.pure _ (by simp [go_sem, Act.eval, d3, d6]) rfl⟩
      · replace ho := op_at ho (by rfl)
        subst ho
        have d7 : a.tmps.getD 64 undef = (.bool true) := hd 7 (by kernel_rfl)
        refine .inl ⟨(fun j b h => by cases h), FlowOp.pure _ (by simp [go_sem, Act.eval, d7]) rfl⟩
      · replace ho := op_at ho (by rfl)
        subst ho
        have f5 : a.tmps.getD 5 undef = (.pointer (some ⟨w.heap.size, 0, none⟩)) := hf 5 (by kernel_rfl)
        have d8 : a.tmps.getD 65 undef = (.bool true) := hd 8 (by kernel_rfl)
        have c0 := hiO_0 (stays K.out hB)
        have c1 := hiO_1 (stays K.out hB)
        refine .inl ⟨(fun j b h => by cases h; exact d8), FlowOp.pure _ (by simp [go_sem, Act.eval, f5, c0, c1]) rfl⟩
      · replace ho := op_at ho (by rfl)
        subst ho
        have f4 : a.tmps.getD 4 undef = (.int .i64 z) := hf 4 (by kernel_rfl)
        have d8 : a.tmps.getD 65 undef = (.bool true) := hd 8 (by kernel_rfl)
        refine .inl ⟨(fun j b h => by cases h; exact d8), FlowOp.pure _ (by simp [go_sem, Act.eval, f4]) rfl⟩
      · replace ho := op_at ho (by rfl)
        subst ho
        have d9 : a.tmps.getD 66 undef = (.agg #[(.slice ab nb capb), (.slice ac nc capc)]) := hd 9 (by kernel_rfl)
        have d10 : a.tmps.getD 67 undef = (.int .i64 z) := hd 10 (by kernel_rfl)
        have d8 : a.tmps.getD 65 undef = (.bool true) := hd 8 (by kernel_rfl)
        refine .inl ⟨(fun j b h => by cases h; exact d8), FlowOp.call 14 #[(hiV (.slice ab nb capb) (.slice ac nc capc)), (.int .i64 z)] (by simp [go_sem, Act.eval, d9, d10]) ?_⟩
        refine (textH_any _ _ bs cs z W (HB.out.below hB hB.size) (HC.out.below hB hB.size) HF.out H64.out (HT.out.below hB)).mono ?_
        rintro e W' ⟨rfl, hBe⟩
        exact ⟨_, rfl, hBe, rfl⟩
      · replace ho := op_at ho (by rfl)
        subst ho
        have f5 : a.tmps.getD 5 undef = (.pointer (some ⟨w.heap.size, 0, none⟩)) := hf 5 (by kernel_rfl)
        have d8 : a.tmps.getD 65 undef = (.bool true) := hd 8 (by kernel_rfl)
        have c0 := hiO_0 (stays K.out hB)
        have c1 := hiO_1 (stays K.out hB)
        refine .inl ⟨(fun j b h => by cases h; exact d8), FlowOp.pure _ (by simp [go_sem, Act.eval, f5, c0, c1]) rfl⟩
      · replace ho := op_at ho (by rfl)
        subst ho
        have f4 : a.tmps.getD 4 undef = (.int .i64 z) := hf 4 (by kernel_rfl)
        have d8 : a.tmps.getD 65 undef = (.bool true) := hd 8 (by kernel_rfl)
        refine .inl ⟨(fun j b h => by cases h; exact d8), FlowOp.pure _ (by simp [go_sem, Act.eval, f4]) rfl⟩
      · replace ho := op_at ho (by rfl)
        subst ho
        have d12 : a.tmps.getD 69 undef = (.agg #[(.slice ab nb capb), (.slice ac nc capc)]) := hd 12 (by kernel_rfl)
        have d13 : a.tmps.getD 70 undef = (.int .i64 z) := hd 13 (by kernel_rfl)
        have d8 : a.tmps.getD 65 undef = (.bool true) := hd 8 (by kernel_rfl)
        refine .inl ⟨(fun j b h => by cases h; exact d8), FlowOp.call 15 #[(hiV (.slice ab nb capb) (.slice ac nc capc)), (.int .i64 z)] (by simp [go_sem, Act.eval, d12, d13]) ?_⟩
        refine (rtextH_any _ _ bs cs z W (HB.out.below hB hB.size) (HC.out.below hB hB.size) HF.out H64.out HZ.out.1 HZ.out.2 (HT.out.below hB)).mono ?_
        rintro e W' ⟨rfl, hBe⟩
        exact ⟨_, rfl, hBe, rfl⟩
      · replace ho := op_at ho (by rfl)
        subst ho
        have d11 : a.tmps.getD 68 undef = (.string ⟨(textF bs cs z).toArray⟩) := hd 11 (by kernel_rfl)
        have d14 : a.tmps.getD 71 undef = (.string ⟨(textF bs cs z).toArray⟩) := hd 14 (by kernel_rfl)
        have d8 : a.tmps.getD 65 undef = (.bool true) := hd 8 (by kernel_rfl)
        refine .inl ⟨(fun j b h => by cases h; exact d8), FlowOp.pure _ (by simp [go_sem, Act.eval, d11, d14]) rfl⟩
      · replace ho := op_at ho (by rfl)
        subst ho
        have d8 : a.tmps.getD 65 undef = (.bool true) := hd 8 (by kernel_rfl)
        have d15 : a.tmps.getD 72 undef = (.bool true) := hd 15 (by kernel_rfl)
        refine .inl ⟨(fun j b h => by cases h), FlowOp.pure _ (by simp [go_sem, Act.eval, d8, d15]) rfl⟩
      · replace ho := op_at ho (by rfl)
        subst ho
        have d16 : a.tmps.getD 73 undef = (.bool true) := hd 16 (by kernel_rfl)
        refine .inl ⟨(fun j b h => by cases h), FlowOp.pure _ (by simp [go_sem, Act.eval, d16]) rfl⟩
      · replace ho := op_at ho (by rfl)
        subst ho
        have d17 : a.tmps.getD 74 undef = (.bool true) := hd 17 (by kernel_rfl)
        refine .inl ⟨(fun j b h => by cases h; exact d17), FlowOp.call 9 #[] (by simp [go_sem, Act.eval]) ?_⟩
        refine (awake_any W (HT.out.below hB)).mono ?_
        rintro e W' ⟨rfl, hBe⟩
        exact ⟨_, rfl, hBe, rfl⟩
      · replace ho := op_at ho (by rfl)
        subst ho
        have d17 : a.tmps.getD 74 undef = (.bool true) := hd 17 (by kernel_rfl)
        have d18 : a.tmps.getD 75 undef = (.bool true) := hd 18 (by kernel_rfl)
        refine .inl ⟨(fun j b h => by cases h), FlowOp.pure _ (by simp [go_sem, Act.eval, d17, d18]) rfl⟩
      · replace ho := op_at ho (by rfl)
        subst ho
        have d19 : a.tmps.getD 76 undef = (.bool true) := hd 19 (by kernel_rfl)
        refine .inl ⟨(fun j b h => by cases h), FlowOp.pure _ (by simp [go_sem, Act.eval, d19]) rfl⟩
    · intro vs9 W9 hB9 hv
      have h0 : vs9 0 = (.int .i64 (sureF bs cs x cs.length)) := hv 0 (show 0 < 21 by decide)
      have h1 : vs9 1 = (.int .i64 (sureF bs cs x cs.length)) := hv 1 (show 1 < 21 by decide)
      have h2 : vs9 2 = (.bool true) := hv 2 (show 2 < 21 by decide)
      have h3 : vs9 3 = (.bool true) := hv 3 (show 3 < 21 by decide)
      have h4 : vs9 4 = (.int .i64 (mostB bs cs x cs.length)) := hv 4 (show 4 < 21 by decide)
      have h5 : vs9 5 = (.int .i64 (mostB bs cs x cs.length)) := hv 5 (show 5 < 21 by decide)
      have h6 : vs9 6 = (.bool true) := hv 6 (show 6 < 21 by decide)
      have h7 : vs9 7 = (.bool true) := hv 7 (show 7 < 21 by decide)
      have h8 : vs9 8 = (.bool true) := hv 8 (show 8 < 21 by decide)
      have h9 : vs9 9 = (.agg #[(.slice ab nb capb), (.slice ac nc capc)]) := hv 9 (show 9 < 21 by decide)
      have h10 : vs9 10 = (.int .i64 z) := hv 10 (show 10 < 21 by decide)
      have h11 : vs9 11 = (.string ⟨(textF bs cs z).toArray⟩) := hv 11 (show 11 < 21 by decide)
      have h12 : vs9 12 = (.agg #[(.slice ab nb capb), (.slice ac nc capc)]) := hv 12 (show 12 < 21 by decide)
      have h13 : vs9 13 = (.int .i64 z) := hv 13 (show 13 < 21 by decide)
      have h14 : vs9 14 = (.string ⟨(textF bs cs z).toArray⟩) := hv 14 (show 14 < 21 by decide)
      have h15 : vs9 15 = (.bool true) := hv 15 (show 15 < 21 by decide)
      have h16 : vs9 16 = (.bool true) := hv 16 (show 16 < 21 by decide)
      have h17 : vs9 17 = (.bool true) := hv 17 (show 17 < 21 by decide)
      have h18 : vs9 18 = (.bool true) := hv 18 (show 18 < 21 by decide)
      have h19 : vs9 19 = (.bool true) := hv 19 (show 19 < 21 by decide)
      have h20 : vs9 20 = (.bool true) := hv 20 (show 20 < 21 by decide)
      clear hv
      show (_ : Exit → Act → World → Prop) Exit.normal (puts _ vs9 21 _) W9
      simp only [puts, h0, h1, h2, h3, h4, h5, h6, h7, h8, h9, h10, h11, h12, h13, h14, h15, h16, h17, h18, h19, h20]
      clear h0 h1 h2 h3 h4 h5 h6 h7 h8 h9 h10 h11 h12 h13 h14 h15 h16 h17 h18 h19 h20
      go_wp2
      go_ret
      exact ⟨by kernel_rfl, L.out.trans (hB9.mono L.out.size)⟩
  · rw [fitHB_f hfit] at hfi
    clear hfit
    go_enter Tryd.func3, Tryd.ntmps3
    go_wp2_with (fail)
    refine hfi.mono ?_
    rintro e w1 ⟨rfl, hB1⟩
    have ha := Lib.hid (awake_any w1 (HT.out.below hB1))
    have L1 := Lib.hid (L.out.trans (hB1.mono L.out.size))
    clear hfi hB1 a0 a1
    go_wp2_with (fail)
    refine ha.out.mono ?_
    rintro e w2 ⟨rfl, hB2⟩
    have L2 := Lib.hid (L1.out.trans (hB2.mono L1.out.size))
    clear hB2 ha
    go_wp2
    go_ret
    exact ⟨rfl, L2.out⟩

end Go.Proofs.YtghgnalbahneoaaDoor
