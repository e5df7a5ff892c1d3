/- HistMakes: the law, walked (by program: wip/tools/gen_histmakes.py). -/
import Derived.Test.YtghgnalbahneoaaDoorHist22
import Derived.Test.YtghgnalbahneoaaDoorHist24
import Derived.Test.YtghgnalbahneoaaDoorHist21
import Derived.Test.YtghgnalbahneoaaDoorFlow2
namespace Go.Proofs.YtghgnalbahneoaaDoor
open Go.RowKit

/-- what New, Of and Even answer, as rows that read and a code -/
noncomputable def newB (l : List Int) : List Int := if risB l then l else []
noncomputable def newC (l : List Int) : List Int := if risB l then List.replicate (l.length + 1) 0 else []
noncomputable def newE (l : List Int) : Int := if risB l then 0 else 20
noncomputable def ofC (bs l : List Int) : List Int := if risB bs then cntF bs l else []
def evenE (f d n : Int) : Int := if n < 1 ∨ 64 < n ∨ d < 1 then 31 else if 9223372036854775807 < f + d * (n - 1) then 10 else 0
def evenL (f d n : Int) : List Int := if evenE f d n = 0 then evenF f d n.toNat else []
theorem new_reads {l : List Int} {B : Nat} {e : Ending} {W : World} (h : NewR l B e W) : ∃ vb vc, e = .returned (.tuple #[hiV vb vc, .int .i64 (newE l)]) ∧ Its W W.heap.size vb (newB l) ∧ Its W W.heap.size vc (newC l) := by
  rcases h with ⟨h, rfl⟩ | ⟨h, vb, vc, rfl, ho⟩
  · have hr := risB_f h
    exact ⟨.slice none 0 0, .slice none 0 0, by simp [newE, hr], by simp [newB, hr]; exact Its.nil _ _, by simp [newC, hr]; exact Its.nil _ _⟩
  · have hr := risB_t h
    exact ⟨vb, vc, by simp [newE, hr], by simp [newB, hr]; exact ho.b.its, by simp [newC, hr]; exact ho.c.its⟩
theorem of_reads {bs l : List Int} {B : Nat} {e : Ending} {W : World} (h : OfR bs l B e W) : ∃ vb vc, e = .returned (.tuple #[hiV vb vc, .int .i64 (newE bs)]) ∧ OwnI W B vb (newB bs) ∧ OwnI W B vc (ofC bs l) := by
  rcases h with ⟨h, rfl⟩ | ⟨h, vb, vc, rfl, ho⟩
  · have hr := risB_f h
    exact ⟨.slice none 0 0, .slice none 0 0, by simp [newE, hr], by simp [newB, hr]; exact OwnI.nil _ _, by simp [ofC, hr]; exact OwnI.nil _ _⟩
  · have hr := risB_t h
    exact ⟨vb, vc, by simp [newE, hr], by simp [newB, hr]; exact ho.b, by simp [ofC, hr]; exact ho.c⟩
theorem even_reads {f d n : Int} {B : Nat} {e : Ending} {W : World} (h : EvenR f d n B e W) : ∃ v, e = .returned (.tuple #[v, .int .i64 (evenE f d n)]) ∧ Its W W.heap.size v (evenL f d n) := by
  rcases h with ⟨h, rfl⟩ | ⟨h1, h2, h3, h4, rfl⟩ | ⟨h1, h2, h3, h4, v, rfl, ho⟩
  · have e1 : evenE f d n = 31 := by unfold evenE; rw [if_pos h]
    exact ⟨_, by rw [e1], by unfold evenL; rw [e1]; exact Its.nil _ _⟩
  · have e1 : evenE f d n = 10 := by unfold evenE; rw [if_neg (by omega), if_pos h4]
    exact ⟨_, by rw [e1], by unfold evenL; rw [e1]; exact Its.nil _ _⟩
  · have e1 : evenE f d n = 0 := by unfold evenE; rw [if_neg (by omega), if_neg (by omega)]
    exact ⟨_, by rw [e1], by unfold evenL; rw [e1]; exact ho.its⟩
/-- the two fields of a histogram's box turn -/
theorem hist_set {W : World} {k : Nat} {a b : Value} (c d : Value) (h : W.heap[k]? = some (hiO a b)) : ((W.setCell ⟨k, 0, none⟩ c).setCell ⟨k, 1, none⟩ d).heap[k]? = some (hiO c d) :=
  heap_setCell_same _ k 1 _ _ _ (heap_setCell_same W k 0 _ _ _ h)
theorem hist_set_other {W : World} {k q : Nat} (c d : Value) (h : q ≠ k) : ((W.setCell ⟨k, 0, none⟩ c).setCell ⟨k, 1, none⟩ d).heap[q]? = W.heap[q]? := by
  rw [Below.heap_setCell _ _ _ _ h, Below.heap_setCell _ _ _ _ h]
attribute [local irreducible] newB newC newE ofC evenE evenL

set_option maxRecDepth 100000 in
set_option maxHeartbeats 4000000 in
theorem law_HistMakes (vb vc vd vl : Value) (bs cs ds ls : List Int) (f d n : Int) (w : World) (hb : Its w w.heap.size vb bs) (hc : Its w w.heap.size vc cs) (hd : Its w w.heap.size vd ds) (hl : Its w w.heap.size vl ls)
    (hf0 : -9223372036854775808 ≤ f) (hf1 : f ≤ 9223372036854775807) (hd1 : d ≤ 9223372036854775807) (hn0 : -9223372036854775808 ≤ n) (hn1 : n ≤ 9223372036854775807) (hdl : ds.length ≤ 140737488355328) (hll : ls.length ≤ 1099511627776) (ht : TabT w) :
    Calls Tryd.prog 5 #[hiV vb vc, vd, vl, .int .i64 f, .int .i64 d, .int .i64 n] w fun e w' => e = .returned (.bool true) ∧ Below w.heap.size w w' := by
  obtain ⟨g0, k0⟩ := hist_new w vb vc
  have L := Lib.hid g0
  have K := Lib.hid k0
  have HB := Lib.hid (hb.kept g0)
  have HC := Lib.hid (hc.kept g0)
  have HD := Lib.hid hd
  have HLs := Lib.hid hl
  have HT := Lib.hid ht
  have HDL := Lib.hid hdl
  have HLL := Lib.hid hll
  have HEV := Lib.hid (fun W => even_any f d n W hf0 hf1 hd1 hn0 hn1)
  have HEW := Lib.hid (fun W => reven_any f d n W hf0 hf1 hd1 hn0 hn1)
  clear g0 k0 ht hdl hll hf0 hf1 hd1 hn0 hn1
  obtain ⟨ab, capb, hvb, -⟩ := hb.slice
  obtain ⟨ac, capc, hvc, -⟩ := hc.slice
  obtain ⟨ad, capd, hvd, -⟩ := hd.slice
  obtain ⟨al, capl, hvl, -⟩ := hl.slice
  subst hvb hvc hvd hvl
  obtain ⟨nb, hnb⟩ : ∃ n, n = bs.length := ⟨_, rfl⟩
  obtain ⟨nc, hnc⟩ : ∃ n, n = cs.length := ⟨_, rfl⟩
  obtain ⟨nd, hnd⟩ : ∃ n, n = ds.length := ⟨_, rfl⟩
  obtain ⟨nl, hnl⟩ : ∃ n, n = ls.length := ⟨_, rfl⟩
  rw [← hnb, ← hnc] at K HB HC L ⊢
  rw [← hnd] at HD ⊢
  rw [← hnl] at HLs ⊢
  clear hb hc hd hl hnb hnc hnd hnl
  go_enter Tryd.func5, Tryd.ntmps5
  go_wp2_with (fail)
  generalize w.alloc (.cells #[.slice ab nb capb, .slice ac nc capc] 24) = W0 at *
  refine wp_flow2 (by kernel_rfl) (by kernel_rfl) (fun i => 19 + i) (by kernel_rfl) (by kernel_rfl) (by kernel_rfl) (fun i v W => ([(fun zv _ => zv = (.agg #[(.slice ab nb capb), (.slice ac nc capc)])), (fun zv _ => zv = (.bool (fitHB bs cs))), (fun zv _ => zv = (.agg #[(.slice ab nb capb), (.slice ac nc capc)])), (fun zv _ => zv = (.bool (fitHB bs cs))), (fun zv _ => zv = (.bool false))] : List (Value → World → Prop)).getD i (fun _ _ => True) v W) ?_ ?_ (by kernel_rfl) ?_
  · intro i hi
    replace hi : i < 5 := hi
    rcases (show i = 0 ∨ i = 1 ∨ i = 2 ∨ i = 3 ∨ i = 4 by omega) with rfl | rfl | rfl | rfl | rfl
    · exact Stays.eq _
    · exact Stays.eq _
    · exact Stays.eq _
    · exact Stays.eq _
    · exact Stays.eq _
  · intro i o a W hi ho hB hf hd
    replace hi : i < 5 := hi
    rcases (show i = 0 ∨ i = 1 ∨ i = 2 ∨ i = 3 ∨ i = 4 by omega) with rfl | rfl | rfl | rfl | rfl
    · replace ho := op_at ho (by rfl)
      subst ho
      have f6 : a.tmps.getD 6 undef = (.pointer (some ⟨w.heap.size, 0, none⟩)) := hf 6 (by kernel_rfl)
      have c0 := hiO_0 (stays K.out hB)
      have c1 := hiO_1 (stays K.out hB)
      refine .inl ⟨(fun j b h => by cases h), FlowOp.pure _ (by simp [go_sem, Act.eval, f6, c0, c1]) rfl⟩
    · replace ho := op_at ho (by rfl)
      subst ho
      have d0 : a.tmps.getD 19 undef = (.agg #[(.slice ab nb capb), (.slice ac nc capc)]) := hd 0 (by kernel_rfl)
      refine .inl ⟨(fun j b h => by cases h), FlowOp.call 18 #[(hiV (.slice ab nb capb) (.slice ac nc capc))] (by simp [go_sem, Act.eval, d0]) ?_⟩
      refine (fit_any _ _ bs cs W (HB.out.below hB hB.size) (HC.out.below hB hB.size)).mono ?_
      rintro e W' ⟨rfl, hBe⟩
      exact ⟨_, rfl, hBe, rfl⟩
    · replace ho := op_at ho (by rfl)
      subst ho
      have f6 : a.tmps.getD 6 undef = (.pointer (some ⟨w.heap.size, 0, none⟩)) := hf 6 (by kernel_rfl)
      have c0 := hiO_0 (stays K.out hB)
      have c1 := hiO_1 (stays K.out hB)
      refine .inl ⟨(fun j b h => by cases h), FlowOp.pure _ (by simp [go_sem, Act.eval, f6, c0, c1]) rfl⟩
    · replace ho := op_at ho (by rfl)
      subst ho
      have d2 : a.tmps.getD 21 undef = (.agg #[(.slice ab nb capb), (.slice ac nc capc)]) := hd 2 (by kernel_rfl)
      refine .inl ⟨(fun j b h => by cases h), FlowOp.call 8 #[(hiV (.slice ab nb capb) (.slice ac nc capc))] (by simp [go_sem, Act.eval, d2]) ?_⟩
      refine (rfit_any _ _ bs cs W (HB.out.below hB hB.size) (HC.out.below hB hB.size)).mono ?_
      rintro e W' ⟨rfl, hBe⟩
      exact ⟨_, rfl, hBe, rfl⟩
    · replace ho := op_at ho (by rfl)
      subst ho
      have d1 : a.tmps.getD 20 undef = (.bool (fitHB bs cs)) := hd 1 (by kernel_rfl)
      have d3 : a.tmps.getD 22 undef = (.bool (fitHB bs cs)) := hd 3 (by kernel_rfl)
      refine .inl ⟨(fun j b h => by cases h), FlowOp.pure _ (by simp [go_sem, Act.eval, d1, d3]) rfl⟩
  · intro vs1 W1 hB1 hv
    have h0 : vs1 0 = (.agg #[(.slice ab nb capb), (.slice ac nc capc)]) := hv 0 (show 0 < 5 by decide)
    have h1 : vs1 1 = (.bool (fitHB bs cs)) := hv 1 (show 1 < 5 by decide)
    have h2 : vs1 2 = (.agg #[(.slice ab nb capb), (.slice ac nc capc)]) := hv 2 (show 2 < 5 by decide)
    have h3 : vs1 3 = (.bool (fitHB bs cs)) := hv 3 (show 3 < 5 by decide)
    have h4 : vs1 4 = (.bool false) := hv 4 (show 4 < 5 by decide)
    clear hv
    show (_ : Exit → Act → World → Prop) Exit.normal (puts _ vs1 5 _) W1
    simp only [puts, h0, h1, h2, h3, h4]
    clear h0 h1 h2 h3 h4
    have L1 := Lib.hid (L.out.trans (hB1.mono L.out.size))
    clear hB1 K HB HC L
    have hcon := Lib.hid (new_any (.slice ad nd capd) ds W1 (HD.out.below L1.out L1.out.size))
    go_wp2_with (fail)
    refine hcon.out.mono ?_
    rintro e w2 ⟨hR, hB⟩
    clear hcon
    obtain ⟨v1, v2, rfl, j1, j2⟩ := new_reads hR
    obtain ⟨xA, cxA, hv1, -⟩ := j1.slice
    obtain ⟨yA, cyA, hv2, -⟩ := j2.slice
    subst hv1 hv2
    have L2a := Lib.hid (L1.out.trans (hB.mono L1.out.size))
    obtain ⟨g2, kA⟩ := hist_new w2 (.slice xA (newB ds).length cxA) (.slice yA (newC ds).length cyA)
    have IA := Lib.hid (j1.kept g2)
    have JA := Lib.hid (j2.kept g2)
    have KA := Lib.hid kA
    have L2 := Lib.hid (L2a.out.trans (g2.mono L2a.out.size))
    have hAw : Hid (w.heap.size ≤ w2.heap.size) := L2a.out.size
    clear hR hB j1 j2 g2 kA L2a
    have hcon := Lib.hid (rnew_any (.slice ad nd capd) ds _ (HD.out.below L2.out L2.out.size))
    go_wp2_with (fail)
    refine hcon.out.mono ?_
    rintro e w3 ⟨hR, hB⟩
    clear hcon
    obtain ⟨v1, v2, rfl, j1, j2⟩ := new_reads hR
    obtain ⟨xB, cxB, hv1, -⟩ := j1.slice
    obtain ⟨yB, cyB, hv2, -⟩ := j2.slice
    subst hv1 hv2
    have L3a := Lib.hid (L2.out.trans (hB.mono L2.out.size))
    replace IA := Lib.hid (IA.out.kept hB)
    replace JA := Lib.hid (JA.out.kept hB)
    replace KA := Lib.hid (stays KA.out hB)
    generalize w2.heap.size = pA at *
    have hAB : Hid (pA < w3.heap.size) := (Array.getElem?_eq_some_iff.1 KA.out).1
    have hBw : Hid (w.heap.size ≤ w3.heap.size) := L3a.out.size
    obtain ⟨g2, kB⟩ := hist_new w3 (.slice xB (newB ds).length cxB) (.slice yB (newC ds).length cyB)
    replace IA := Lib.hid (IA.out.kept g2)
    replace JA := Lib.hid (JA.out.kept g2)
    replace KA := Lib.hid (stays KA.out g2)
    have IB := Lib.hid (j1.kept g2)
    have JB := Lib.hid (j2.kept g2)
    have KB := Lib.hid kB
    have L3 := Lib.hid (L3a.out.trans (g2.mono L3a.out.size))
    clear hR hB j1 j2 g2 kB L3a
    have hsm := same_any _ _ _ _ (newB ds) (newC ds) (newB ds) (newC ds) _ IA.out JA.out IB.out JB.out
    rw [decide_eq_true rfl, decide_eq_true rfl, Bool.and_self] at hsm
    have cA0 := hiO_0 KA.out
    have cA1 := hiO_1 KA.out
    have cB0 := hiO_0 KB.out
    have cB1 := hiO_1 KB.out
    have hcon := Lib.hid (hsm)
    go_wp2_with (fail)
    refine hcon.out.mono ?_
    rintro e w4 ⟨rfl, hB⟩
    clear hcon
    have L4 := Lib.hid (L3.out.trans (hB.mono L3.out.size))
    replace KA := Lib.hid (stays KA.out hB)
    replace KB := Lib.hid (stays KB.out hB)
    generalize w3.heap.size = pB at *
    clear hB hsm IA JA IB JB cA0 cA1 cB0 cB1
    have hcon := Lib.hid (HEV.out w4)
    go_wp2_with (fail)
    refine hcon.out.mono ?_
    rintro e w5 ⟨hR, hB⟩
    clear hcon
    obtain ⟨v1, rfl, j1⟩ := even_reads hR
    obtain ⟨xE, cxE, hv1, -⟩ := j1.slice
    subst hv1
    have IE := Lib.hid j1
    have L5 := Lib.hid (L4.out.trans (hB.mono L4.out.size))
    replace KA := Lib.hid (stays KA.out hB)
    replace KB := Lib.hid (stays KB.out hB)
    clear hR hB j1
    have hcon := Lib.hid (HEW.out w5)
    go_wp2_with (fail)
    refine hcon.out.mono ?_
    rintro e w6 ⟨hR, hB⟩
    clear hcon
    obtain ⟨v1, rfl, j1⟩ := even_reads hR
    obtain ⟨xF, cxF, hv1, -⟩ := j1.slice
    subst hv1
    have IF := Lib.hid j1
    replace IE := Lib.hid (IE.out.kept hB)
    have L6 := Lib.hid (L5.out.trans (hB.mono L5.out.size))
    replace KA := Lib.hid (stays KA.out hB)
    replace KB := Lib.hid (stays KB.out hB)
    clear hR hB j1
    have hin := ints_any _ _ (evenL f d n) (evenL f d n) w6 IE.out IF.out
    rw [decide_eq_true rfl] at hin
    have hcon := Lib.hid (hin)
    go_wp2_with (fail)
    refine hcon.out.mono ?_
    rintro e w7 ⟨rfl, dn, rfl⟩
    clear hcon
    have hB := bdN w6.heap.size w6 dn
    have L7 := Lib.hid (L6.out.trans (hB.mono L6.out.size))
    replace KA := Lib.hid (stays KA.out hB)
    replace KB := Lib.hid (stays KB.out hB)
    clear hB hin IE IF
    generalize w6.drewN dn = W7 at *
    have hcon := Lib.hid (bucket_any (.slice ad nd capd) ds f W7 (HD.out.below L7.out L7.out.size) HDL.out)
    go_wp2_with (fail)
    refine hcon.out.mono ?_
    rintro e w8 ⟨rfl, hB⟩
    clear hcon
    have L8 := Lib.hid (L7.out.trans (hB.mono L7.out.size))
    replace KA := Lib.hid (stays KA.out hB)
    replace KB := Lib.hid (stays KB.out hB)
    clear hB
    have hcon := Lib.hid (rbucket_any (.slice ad nd capd) ds f w8 (HD.out.below L8.out L8.out.size))
    go_wp2_with (fail)
    refine hcon.out.mono ?_
    rintro e w8' ⟨rfl, rfl⟩
    clear hcon
    have hcon := Lib.hid (of_any (.slice ad nd capd) (.slice al nl capl) ds ls w8 (HD.out.below L8.out L8.out.size) (HLs.out.below L8.out L8.out.size) HLL.out HDL.out)
    go_wp2_with (fail)
    refine hcon.out.mono ?_
    rintro e w9 ⟨hR, hB⟩
    clear hcon
    obtain ⟨v1, v2, rfl, j1, j2⟩ := of_reads hR
    obtain ⟨xG, cxG, hv1, -⟩ := j1.its.slice
    obtain ⟨yG, cyG, hv2, -⟩ := j2.its.slice
    subst hv1 hv2
    have z8A : Hid (pA < w8.heap.size) := (Array.getElem?_eq_some_iff.1 KA.out).1
    have z8B : Hid (pB < w8.heap.size) := (Array.getElem?_eq_some_iff.1 KB.out).1
    have L9 := Lib.hid (L8.out.trans (hB.mono L8.out.size))
    replace KA := Lib.hid (stays KA.out hB)
    replace KB := Lib.hid (stays KB.out hB)
    have r0 := hiO_0 KA.out
    have r1 := hiO_1 KA.out
    have z0 := hiF_0 KA.out
    have z1 := hiF_1 KA.out
    have hne : pB ≠ pA := Nat.ne_of_gt hAB.out
    have KA1 := Lib.hid (hist_set (.slice xG (newB ds).length cxG) (.slice yG (ofC ds ls).length cyG) KA.out)
    have KB1 := Lib.hid ((hist_set_other (.slice xG (newB ds).length cxG) (.slice yG (ofC ds ls).length cyG) hne).trans KB.out)
    have IG := Lib.hid (OwnI.set (o := 1) (u := (.slice yG (ofC ds ls).length cyG)) (OwnI.set (o := 0) (u := (.slice xG (newB ds).length cxG)) j1 z8A.out) z8A.out)
    have JG := Lib.hid (OwnI.set (o := 1) (u := (.slice yG (ofC ds ls).length cyG)) (OwnI.set (o := 0) (u := (.slice xG (newB ds).length cxG)) j2 z8A.out) z8A.out)
    have M9 : Hid (Below w.heap.size w ((w9.setCell ⟨pA, 0, none⟩ (.slice xG (newB ds).length cxG)).setCell ⟨pA, 1, none⟩ (.slice yG (ofC ds ls).length cyG))) := bel_set hAw.out (bel_set hAw.out L9.out)
    clear hR hB j1 j2 KA KB L9 hne
    have hcon := Lib.hid (rof_any (.slice ad nd capd) (.slice al nl capl) ds ls _ (HD.out.below M9.out M9.out.size) (HLs.out.below M9.out M9.out.size) HLL.out HDL.out)
    go_wp2_with (fail)
    refine hcon.out.mono ?_
    rintro e w10 ⟨hR, hB⟩
    clear hcon
    obtain ⟨v1, v2, rfl, j1, j2⟩ := of_reads hR
    obtain ⟨xH, cxH, hv1, -⟩ := j1.its.slice
    obtain ⟨yH, cyH, hv2, -⟩ := j2.its.slice
    subst hv1 hv2
    have z9B : Hid (pB < ((w9.setCell ⟨pA, 0, none⟩ (.slice xG (newB ds).length cxG)).setCell ⟨pA, 1, none⟩ (.slice yG (ofC ds ls).length cyG)).heap.size) := (Array.getElem?_eq_some_iff.1 KB1.out).1
    have L10 := Lib.hid (M9.out.trans (hB.mono M9.out.size))
    replace KA1 := Lib.hid (stays KA1.out hB)
    replace KB1 := Lib.hid (stays KB1.out hB)
    replace IG := Lib.hid (OwnI.below IG.out hB)
    replace JG := Lib.hid (OwnI.below JG.out hB)
    clear r0 r1 z0 z1
    have r0 := hiO_0 KB1.out
    have r1 := hiO_1 KB1.out
    have z0 := hiF_0 KB1.out
    have z1 := hiF_1 KB1.out
    have hne : pA ≠ pB := Nat.ne_of_lt hAB.out
    have KB2 := Lib.hid (hist_set (.slice xH (newB ds).length cxH) (.slice yH (ofC ds ls).length cyH) KB1.out)
    have KA2 := Lib.hid ((hist_set_other (.slice xH (newB ds).length cxH) (.slice yH (ofC ds ls).length cyH) hne).trans KA1.out)
    have IG2 := (OwnI.set (o := 1) (u := (.slice yH (ofC ds ls).length cyH)) (OwnI.set (o := 0) (u := (.slice xH (newB ds).length cxH)) IG.out z8B.out) z8B.out).its
    have JG2 := (OwnI.set (o := 1) (u := (.slice yH (ofC ds ls).length cyH)) (OwnI.set (o := 0) (u := (.slice xH (newB ds).length cxH)) JG.out z8B.out) z8B.out).its
    have IH2 := (OwnI.set (o := 1) (u := (.slice yH (ofC ds ls).length cyH)) (OwnI.set (o := 0) (u := (.slice xH (newB ds).length cxH)) j1 z9B.out) z9B.out).its
    have JH2 := (OwnI.set (o := 1) (u := (.slice yH (ofC ds ls).length cyH)) (OwnI.set (o := 0) (u := (.slice xH (newB ds).length cxH)) j2 z9B.out) z9B.out).its
    have M10 : Hid (Below w.heap.size w ((w10.setCell ⟨pB, 0, none⟩ (.slice xH (newB ds).length cxH)).setCell ⟨pB, 1, none⟩ (.slice yH (ofC ds ls).length cyH))) := bel_set hBw.out (bel_set hBw.out L10.out)
    have hsm := same_any _ _ _ _ (newB ds) (ofC ds ls) (newB ds) (ofC ds ls) _ IG2 JG2 IH2 JH2
    rw [decide_eq_true rfl, decide_eq_true rfl, Bool.and_self] at hsm
    have a0 := hiO_0 KA2.out
    have a1 := hiO_1 KA2.out
    have b0 := hiO_0 KB2.out
    have b1 := hiO_1 KB2.out
    have hsm := Lib.hid hsm
    clear hR hB j1 j2 KA1 KB1 L10 hne IG JG IG2 JG2 IH2 JH2
    have hcon := Lib.hid (hsm.out)
    go_wp2_with (fail)
    refine hcon.out.mono ?_
    rintro e w11 ⟨rfl, hB⟩
    clear hcon
    have L11 := Lib.hid (M10.out.trans (hB.mono M10.out.size))
    clear hB hsm a0 a1 b0 b1 r0 r1 z0 z1
    have ha := Lib.hid (awake_any w11 (HT.out.below L11.out))
    go_wp2_with (fail)
    refine ha.out.mono ?_
    rintro e wq ⟨rfl, hBq⟩
    have Lq := Lib.hid (L11.out.trans (hBq.mono L11.out.size))
    clear ha hBq
    go_wp2
    go_ret
    exact ⟨by first | rfl | kernel_rfl, Lq.out⟩

end Go.Proofs.YtghgnalbahneoaaDoor
