/- Histograms: Of on both sides (by program: wip/tools/gen_hist8.py). -/
import Derived.Test.YtghgnalbahneoaaDoorHist7
namespace Go.Proofs.YtghgnalbahneoaaDoor
open Go.RowKit

/-- t more in place k -/
def addAt (cs : List Int) (k : Nat) (t : Int) : List Int := cs.set k (cs.getD k 0 + t)
theorem addAt_length (cs : List Int) (k : Nat) (t : Int) : (addAt cs k t).length = cs.length := by unfold addAt; simp
theorem addAt_getD (cs : List Int) (k : Nat) (t : Int) (hk : k < cs.length) (j : Nat) : (addAt cs k t).getD j 0 = cs.getD j 0 + if j = k then t else 0 := by
  unfold addAt
  simp only [List.getD_eq_getElem?_getD, List.getElem?_set]
  by_cases h : k = j
  · subst h; simp [hk]
  · rw [if_neg h, if_neg (fun e => h e.symm)]; simp
/-- the counts of some values -/
def cntF (bs l : List Int) : List Int := l.foldl (fun cs x => addAt cs (bucketF bs x) 1) (List.replicate (bs.length + 1) 0)
theorem cntF_nil (bs : List Int) : cntF bs [] = List.replicate (bs.length + 1) 0 := rfl
theorem cntF_app1 (bs l : List Int) (x : Int) : cntF bs (l ++ [x]) = addAt (cntF bs l) (bucketF bs x) 1 := by unfold cntF; rw [List.foldl_append]; rfl
theorem list_snoc {α : Type} (P : List α → Prop) (h0 : P []) (h1 : ∀ l x, P l → P (l ++ [x])) (l : List α) : P l := by
  have key : ∀ r : List α, P r.reverse := by
    intro r
    induction r with
    | nil => exact h0
    | cons x r ih => rw [List.reverse_cons]; exact h1 _ _ ih
  simpa using key l.reverse
theorem cntF_length (bs l : List Int) : (cntF bs l).length = bs.length + 1 := by
  refine list_snoc (fun l => (cntF bs l).length = bs.length + 1) (by simp [cntF_nil]) ?_ l
  intro l x ih
  rw [cntF_app1, addAt_length, ih]
theorem cntF_in (bs l : List Int) : ∀ j, 0 ≤ (cntF bs l).getD j 0 ∧ (cntF bs l).getD j 0 ≤ l.length := by
  refine list_snoc (fun l => ∀ j, 0 ≤ (cntF bs l).getD j 0 ∧ (cntF bs l).getD j 0 ≤ l.length) ?_ ?_ l
  · intro j
    rw [cntF_nil, List.getD_eq_getElem?_getD, List.getElem?_replicate]
    split <;> simp
  · intro l x ih j
    have := ih j
    rw [cntF_app1, addAt_getD _ _ _ (by rw [cntF_length]; have := bucketF_le bs x; omega)]
    simp only [List.length_append, List.length_cons, List.length_nil]
    split <;> omega
theorem take_snoc (l : List Int) (k : Nat) (hk : k < l.length) : l.take (k + 1) = l.take k ++ [l.getD k 0] := by
  rw [List.take_add_one]
  simp [List.getD, hk]
theorem cntF_take (bs l : List Int) (k : Nat) (hk : k < l.length) : cntF bs (l.take (k + 1)) = addAt (cntF bs (l.take k)) (bucketF bs (l.getD k 0)) 1 := by rw [take_snoc l k hk, cntF_app1]
/-- what Of answers -/
def OfR (bs l : List Int) (B : Nat) (e : Ending) (w' : World) : Prop := (¬ Rising bs ∧ e = .returned (.tuple #[hiV (.slice none 0 0) (.slice none 0 0), .int .i64 20])) ∨ (Rising bs ∧ ∃ vb vc, e = .returned (.tuple #[hiV vb vc, .int .i64 0]) ∧ HOwn w' B vb vc bs (cntF bs l))
/-- in the rounds of Of -/
structure OfSt (w W : World) (g : Nat) (vb vc : Value) (bs cs : List Int) : Prop where
  low : Below w.heap.size w W
  box : W.heap[g]? = some (hiO vb vc)
  res : W.heap[w.heap.size]? = some (hiO (.slice none 0 0) (.slice none 0 0))
  own : HOwn W (w.heap.size + 1) vb vc bs cs
  siz : w.heap.size + 1 ≤ W.heap.size
  ne : vc.ownBlock ≠ some g
theorem OfSt.put {w W W' : World} {g : Nat} {vb vc : Value} {bs cs cs' : List Int} (h : OfSt w W g vb vc bs cs) (hb : Below (w.heap.size + 1) W W') (hf : ∀ j, j < W.heap.size → vc.ownBlock ≠ some j → W'.heap[j]? = W.heap[j]?) (ho : HOwn W' (w.heap.size + 1) vb vc bs cs') : OfSt w W' g vb vc bs cs' :=
  ⟨h.low.trans (hb.mono (Nat.le_succ _)), (hf g (Array.getElem?_eq_some_iff.1 h.box).1 h.ne).trans h.box, (hb.block _ (Nat.lt_succ_self _)).trans h.res, ho, Nat.le_trans h.siz hb.size, h.ne⟩
theorem OfSt.below {w W W' : World} {g : Nat} {vb vc : Value} {bs cs : List Int} (h : OfSt w W g vb vc bs cs) (hb : Below W.heap.size W W') : OfSt w W' g vb vc bs cs :=
  ⟨h.low.trans (hb.mono h.low.size), stays h.box hb, stays h.res hb, h.own.below hb, Nat.le_trans h.siz hb.size, h.ne⟩
theorem hiO_0S {W : World} {k i : Nat} {u a b : Value} (h : W.heap[k]? = some (hiO a b)) : (W.setCell ⟨k, i, none⟩ u).heap[k]? = some (.cells (#[a, b].setIfInBounds i u) 24 (0, 0)) := heap_setCell_same W k i #[a, b] _ u h

set_option maxRecDepth 100000 in
set_option maxHeartbeats 1000000 in
theorem of_any (vh vl : Value) (bs l : List Int) (w : World) (hi : Its w w.heap.size vh bs) (hj : Its w w.heap.size vl l) (hl : l.length ≤ 1099511627776) (hbl : bs.length ≤ 140737488355328) : Calls Tryd.prog 16 #[vh, vl] w fun e w' => OfR bs l w.heap.size e w' ∧ Below w.heap.size w w' := by
  obtain ⟨g0, k0⟩ := hist_new w (.slice none 0 0) (.slice none 0 0)
  have L := Lib.hid g0
  have K := Lib.hid k0
  have HI := Lib.hid hi
  have HJ := Lib.hid hj
  clear g0 k0
  go_enter Tryd.func16, Tryd.ntmps16
  go_wp2_with (fail)
  refine (new_any _ _ _ (HI.out.kept L.out)).mono ?_
  rintro e w1 ⟨hR, hB1⟩
  replace L := Lib.hid (L.out.trans (hB1.mono L.out.size))
  replace K := Lib.hid (stays K.out hB1)
  rcases hR with ⟨hnr, rfl⟩ | ⟨hr, vb, vc, rfl, ho⟩
  · have HN := Lib.hid hnr
    clear hnr hB1
    obtain ⟨g2, k2⟩ := hist_new w1 (.slice none 0 0) (.slice none 0 0)
    replace L := Lib.hid (L.out.trans (g2.mono L.out.size))
    replace K := Lib.hid (stays K.out g2)
    have a0 := hiO_0 K.out
    have a1 := hiO_1 K.out
    have f0 := hiF_0 K.out
    have f1 := hiF_1 K.out
    have b0 := hiO_0 k2
    have b1 := hiO_1 k2
    clear g2 k2
    go_wp2
    exact bodyPost_ret (v := .tuple #[hiV (.slice none 0 0) (.slice none 0 0), .int .i64 20]) (by simp [results, Tryd.results16, go_sem, *]) rfl ⟨.inl ⟨HN.out, rfl⟩, bel_set (Nat.le_refl _) (bel_set (Nat.le_refl _) L.out)⟩
  · obtain ⟨gb, cpb, hvb, -, -, -⟩ := ho.b.blk hr.1
    obtain ⟨gc, cpc, hvc, -, -, -⟩ := ho.c.blk (by simp)
    subst hvb hvc
    generalize hnc : (List.replicate (bs.length + 1) (0 : Int)).length = nc at ho ⊢
    rw [List.length_replicate] at hnc
    generalize hnb : bs.length = nb at ho hbl ⊢
    have NB : Hid (nb = bs.length) := hnb.symm
    have NC : Hid (nc = bs.length + 1) := hnc.symm
    clear hnb hnc
    obtain ⟨g2, k2⟩ := hist_new w1 (.slice (some ⟨gb, 0, none⟩) nb cpb) (.slice (some ⟨gc, 0, none⟩) nc cpc)
    have hst : OfSt w (w1.alloc (.cells #[.slice (some ⟨gb, 0, none⟩) nb cpb, .slice (some ⟨gc, 0, none⟩) nc cpc] 24)) w1.heap.size (.slice (some ⟨gb, 0, none⟩) nb cpb) (.slice (some ⟨gc, 0, none⟩) nc cpc) bs (cntF bs (l.take 0)) := by
      refine ⟨L.out.trans (g2.mono L.out.size), k2, stays K.out g2, ?_, ?_, ?_⟩
      · have := ho.below g2
        rw [show (w.alloc (.cells #[.slice none 0 0, .slice none 0 0] 24)).heap.size = w.heap.size + 1 by simp] at this
        rw [List.take_zero, cntF_nil, ← NB.out]
        exact this
      · have := hB1.size
        have := g2.size
        simp at *
        omega
      · obtain ⟨gc', cpc', hvc, -, hlt, -⟩ := ho.c.blk (by simp)
        rw [hvc]
        intro he
        simp only [Value.ownBlock, Option.some.injEq] at he
        omega
    have HS := Lib.hid hst
    have HR := Lib.hid hr
    clear g2 k2 ho hr hst hB1 K L
    have a0 := hiO_0 HS.out.res
    have a1 := hiO_1 HS.out.res
    have f0 := hiF_0 HS.out.res
    have f1 := hiF_1 HS.out.res
    have b0 := hiO_0 HS.out.box
    have b1 := hiO_1 HS.out.box
    obtain ⟨ao, cap, hvl, hll⟩ := hj.slice
    subst hvl
    obtain ⟨n, hn⟩ : ∃ n, n = l.length := ⟨_, rfl⟩
    rw [← hn] at HJ hll hl ⊢
    have HN := Lib.hid hn
    clear hn hj hi
    go_wp2
    clear a0 a1 f0 f1 b0 b1
    generalize w1.alloc (.cells #[.slice (some ⟨gb, 0, none⟩) nb cpb, .slice (some ⟨gc, 0, none⟩) nc cpc] 24) = W0 at *
    generalize w1.heap.size = g at *
    go_loopw [21] (fun i wr => ∃ k : Nat, k ≤ n ∧ i = .int .i64 (k : Int) ∧ Hid (OfSt w wr g (.slice (some ⟨gb, 0, none⟩) nb cpb) (.slice (some ⟨gc, 0, none⟩) nc cpc) bs (cntF bs (l.take k)))) (fun i _ => n - (intOf i).toNat)
    case atStart => exact ⟨0, Nat.zero_le _, rfl, HS⟩
    case round =>
      obtain ⟨k, hk, rfl, HS⟩ := hrel
      by_cases hlt : k < n
      · obtain ⟨x, hx⟩ : ∃ x, x = l.getD k 0 := ⟨_, rfl⟩
        obtain ⟨ba, off, hao, hbl2, hcell⟩ : ∃ b off, ao = some ⟨b, off, none⟩ ∧ b < w.heap.size ∧ w.cell? ⟨b, off + k, none⟩ = some (.int .i64 x) := by
          rcases HJ.out.form with ⟨h0, -⟩ | ⟨hpos, b, off, cap', he, -, -, hb, hc⟩
          · exfalso; rw [h0] at HN; have := HN.out; simp at this; omega
          · cases he
            exact ⟨b, off, rfl, hb, by rw [hx]; exact hc k (by have := HN.out; omega)⟩
        subst hao
        have e1 := (HS.out.low.cell (p := ⟨ba, off + k, none⟩) hbl2).trans hcell
        obtain ⟨m, hm⟩ : ∃ m, m = bucketF bs x := ⟨_, rfl⟩
        have HM := Lib.hid hm
        have HX := Lib.hid hx
        clear hm hx hcell
        go_wp2_with (fail)
        refine wp_flow_tail (by kernel_rfl) (by kernel_rfl) 4 (by decide) (by kernel_rfl) (fun i => 25 + i) (by kernel_rfl) (by kernel_rfl) (by kernel_rfl) (fun i v W => ([(fun zv _ => zv = (.agg #[(.slice (some ⟨gb, 0, none⟩) nb cpb), (.slice (some ⟨gc, 0, none⟩) nc cpc)])), (fun zv _ => zv = vh), (fun zv _ => zv = (.int .i64 x)), (fun zv _ => zv = (.int .i64 (m : Int)))] : List (Value → World → Prop)).getD i (fun _ _ => True) v W) ?_ (fun i => false) ?_ (by kernel_rfl) ?_
        · intro i hi
          replace hi : i < 4 := hi
          rcases (show i = 0 ∨ i = 1 ∨ i = 2 ∨ i = 3 by omega) with rfl | rfl | rfl | rfl
          · exact Stays.eq _
          · exact Stays.eq _
          · exact Stays.eq _
          · exact Stays.eq _
        · intro i o a W hi ho hB hf hd hq
          replace hi : i < 4 := hi
          rcases (show i = 0 ∨ i = 1 ∨ i = 2 ∨ i = 3 by omega) with rfl | rfl | rfl | rfl
          · replace ho := op_at ho (by rfl)
            subst ho
            have f6 : a.tmps.getD 6 undef = (.pointer (some ⟨g, 0, none⟩)) := hf 6 (by kernel_rfl)
            have c0 := hiO_0 (stays HS.out.box hB)
            have c1 := hiO_1 (stays HS.out.box hB)
            refine .inl ⟨(fun j b h => by cases h), FlowOp.pure _ (by simp [go_sem, Act.eval, f6, c0, c1]) ⟨rfl, fun h => by cases h⟩⟩
          · replace ho := op_at ho (by rfl)
            subst ho
            have f0 : a.tmps.getD 0 undef = vh := hf 0 (by kernel_rfl)
            refine .inl ⟨(fun j b h => by cases h), FlowOp.pure _ (by simp [go_sem, Act.eval, f0]) ⟨rfl, fun h => by cases h⟩⟩
          · replace ho := op_at ho (by rfl)
            subst ho
            have f9 : a.tmps.getD 9 undef = (.int .i64 x) := hf 9 (by kernel_rfl)
            refine .inl ⟨(fun j b h => by cases h), FlowOp.pure _ (by simp [go_sem, Act.eval, f9]) ⟨rfl, fun h => by cases h⟩⟩
          · replace ho := op_at ho (by rfl)
            subst ho
            have d1 : a.tmps.getD 26 undef = vh := hd 1 (by kernel_rfl)
            have d2 : a.tmps.getD 27 undef = (.int .i64 x) := hd 2 (by kernel_rfl)
            refine .inl ⟨(fun j b h => by cases h), FlowOp.call 25 #[vh, (.int .i64 x)] (by simp [go_sem, Act.eval, d1, d2]) ?_⟩
            refine (bucket_any _ bs x W (HI.out.below (HS.out.low.trans (hB.mono HS.out.low.size)) (Nat.le_trans HS.out.low.size hB.size)) (by have := NB.out; omega)).mono ?_
            rintro e W' ⟨rfl, hBe⟩
            rw [← HM.out]
            exact ⟨_, rfl, hBe, rfl, fun h => by cases h⟩
        · intro vs4 W4 hB4 hv hSS
          have h0 : vs4 0 = (.agg #[(.slice (some ⟨gb, 0, none⟩) nb cpb), (.slice (some ⟨gc, 0, none⟩) nc cpc)]) := hv 0 (show 0 < 4 by decide)
          have h1 : vs4 1 = vh := hv 1 (show 1 < 4 by decide)
          have h2 : vs4 2 = (.int .i64 x) := hv 2 (show 2 < 4 by decide)
          have h3 : vs4 3 = (.int .i64 (m : Int)) := hv 3 (show 3 < 4 by decide)
          clear hv
          simp only [List.drop_succ_cons, List.drop_zero]
          simp only [puts, h0, h1, h2, h3]
          clear h0 h1 h2 h3
          clear hSS
          have HS4 := Lib.hid (HS.out.below hB4)
          clear hB4 HS e1
          have hm := bucketF_le bs x
          rw [← HM.out, ← NB.out] at hm
          have hin := cntF_in bs (l.take k) m
          rw [List.length_take, ← HN.out, Nat.min_eq_left hk] at hin
          have hpu := put_any (.slice (some ⟨gb, 0, none⟩) nb cpb) (.slice (some ⟨gc, 0, none⟩) nc cpc) bs (cntF bs (l.take k)) m 1 W4 (w.heap.size + 1) HS4.out.own HS4.out.siz (by rw [cntF_length, ← NB.out]; omega) hin.1 (by omega) (by omega) (by omega)
          go_simp
          gi_wp2_with (fail)
          refine ⟨trivial, ?_⟩
          refine (callsIn_wide.2 hpu).mono ?_
          rintro e W5 ⟨hP, hBe, hF⟩
          rcases hP with ⟨hbad, -, -⟩ | ⟨-, rfl, hO⟩
          · exfalso; omega
          · have HS5 : Hid (OfSt w W5 g (.slice (some ⟨gb, 0, none⟩) nb cpb) (.slice (some ⟨gc, 0, none⟩) nc cpc) bs (cntF bs (l.take (k + 1)))) := by
              show OfSt _ _ _ _ _ _ _
              rw [cntF_take bs l k (by have := HN.out; omega), ← HX.out, ← HM.out]
              exact HS4.out.put hBe hF hO
            clear hBe hF hO hpu hin
            gi_wp2
            go_wp2
            go_roundw
            case rel => exact ⟨k + 1, by omega, by go_num, HS5⟩
            case measure => simp [intOf]; omega
      · have hkn : k = n := by omega
        subst hkn
        have a0 := hiO_0 HS.out.res
        have a1 := hiO_1 HS.out.res
        have f0 := hiF_0 HS.out.res
        have f1 := hiF_1 HS.out.res
        have b0 := hiO_0 HS.out.box
        have b1 := hiO_1 HS.out.box
        go_wp2
        refine bodyPost_ret (v := .tuple #[hiV (.slice (some ⟨gb, 0, none⟩) nb cpb) (.slice (some ⟨gc, 0, none⟩) nc cpc), .int .i64 0]) (by simp [results, Tryd.results16, go_sem, *]) rfl ⟨.inr ⟨HR.out, _, _, rfl, ?_⟩, ?_⟩
        · have hall : l.take k = l := List.take_of_length_le (by have := HN.out; omega)
          have ho := HS.out.own
          rw [hall] at ho
          exact HOwn.mono (HOwn.set (HOwn.set ho (by omega)) (by omega)) (by omega)
        · exact bel_set (Nat.le_refl _) (bel_set (Nat.le_refl _) HS.out.low)
set_option maxRecDepth 100000 in
set_option maxHeartbeats 1000000 in
theorem rof_any (vh vl : Value) (bs l : List Int) (w : World) (hi : Its w w.heap.size vh bs) (hj : Its w w.heap.size vl l) (hl : l.length ≤ 1099511627776) (hbl : bs.length ≤ 140737488355328) : Calls Tryd.prog 27 #[vh, vl] w fun e w' => OfR bs l w.heap.size e w' ∧ Below w.heap.size w w' := by
  obtain ⟨g0, k0⟩ := hist_new w (.slice none 0 0) (.slice none 0 0)
  have L := Lib.hid g0
  have K := Lib.hid k0
  have HI := Lib.hid hi
  have HJ := Lib.hid hj
  clear g0 k0
  go_enter Tryd.func27, Tryd.ntmps27
  go_wp2_with (fail)
  refine (rnew_any _ _ _ (HI.out.kept L.out)).mono ?_
  rintro e w1 ⟨hR, hB1⟩
  replace L := Lib.hid (L.out.trans (hB1.mono L.out.size))
  replace K := Lib.hid (stays K.out hB1)
  rcases hR with ⟨hnr, rfl⟩ | ⟨hr, vb, vc, rfl, ho⟩
  · have HN := Lib.hid hnr
    clear hnr hB1
    obtain ⟨g2, k2⟩ := hist_new w1 (.slice none 0 0) (.slice none 0 0)
    replace L := Lib.hid (L.out.trans (g2.mono L.out.size))
    replace K := Lib.hid (stays K.out g2)
    have a0 := hiO_0 K.out
    have a1 := hiO_1 K.out
    have f0 := hiF_0 K.out
    have f1 := hiF_1 K.out
    have b0 := hiO_0 k2
    have b1 := hiO_1 k2
    clear g2 k2
    go_wp2
    go_loopw [8] (fun i wr => i = .int .i64 0 ∧ wr = w1.alloc (.cells #[.slice none 0 0, .slice none 0 0] 24)) (fun _ _ => 0)
    case atStart => exact ⟨rfl, rfl⟩
    case round =>
    obtain ⟨rfl, rfl⟩ := hrel
    go_wp2
    exact bodyPost_ret (v := .tuple #[hiV (.slice none 0 0) (.slice none 0 0), .int .i64 20]) (by simp [results, Tryd.results27, go_sem, *]) rfl ⟨.inl ⟨HN.out, rfl⟩, bel_set (Nat.le_refl _) (bel_set (Nat.le_refl _) L.out)⟩
  · obtain ⟨gb, cpb, hvb, -, -, -⟩ := ho.b.blk hr.1
    obtain ⟨gc, cpc, hvc, -, -, -⟩ := ho.c.blk (by simp)
    subst hvb hvc
    generalize hnc : (List.replicate (bs.length + 1) (0 : Int)).length = nc at ho ⊢
    rw [List.length_replicate] at hnc
    generalize hnb : bs.length = nb at ho hbl ⊢
    have NB : Hid (nb = bs.length) := hnb.symm
    have NC : Hid (nc = bs.length + 1) := hnc.symm
    clear hnb hnc
    obtain ⟨g2, k2⟩ := hist_new w1 (.slice (some ⟨gb, 0, none⟩) nb cpb) (.slice (some ⟨gc, 0, none⟩) nc cpc)
    have hst : OfSt w (w1.alloc (.cells #[.slice (some ⟨gb, 0, none⟩) nb cpb, .slice (some ⟨gc, 0, none⟩) nc cpc] 24)) w1.heap.size (.slice (some ⟨gb, 0, none⟩) nb cpb) (.slice (some ⟨gc, 0, none⟩) nc cpc) bs (cntF bs (l.take 0)) := by
      refine ⟨L.out.trans (g2.mono L.out.size), k2, stays K.out g2, ?_, ?_, ?_⟩
      · have := ho.below g2
        rw [show (w.alloc (.cells #[.slice none 0 0, .slice none 0 0] 24)).heap.size = w.heap.size + 1 by simp] at this
        rw [List.take_zero, cntF_nil, ← NB.out]
        exact this
      · have := hB1.size
        have := g2.size
        simp at *
        omega
      · obtain ⟨gc', cpc', hvc, -, hlt, -⟩ := ho.c.blk (by simp)
        rw [hvc]
        intro he
        simp only [Value.ownBlock, Option.some.injEq] at he
        omega
    have HS := Lib.hid hst
    have HR := Lib.hid hr
    clear g2 k2 ho hr hst hB1 K L
    have a0 := hiO_0 HS.out.res
    have a1 := hiO_1 HS.out.res
    have f0 := hiF_0 HS.out.res
    have f1 := hiF_1 HS.out.res
    have b0 := hiO_0 HS.out.box
    have b1 := hiO_1 HS.out.box
    obtain ⟨ao, cap, hvl, hll⟩ := hj.slice
    subst hvl
    obtain ⟨n, hn⟩ : ∃ n, n = l.length := ⟨_, rfl⟩
    rw [← hn] at HJ hll hl ⊢
    have HN := Lib.hid hn
    clear hn hj hi
    go_wp2
    clear a0 a1 f0 f1 b0 b1
    generalize w1.alloc (.cells #[.slice (some ⟨gb, 0, none⟩) nb cpb, .slice (some ⟨gc, 0, none⟩) nc cpc] 24) = W0 at *
    generalize w1.heap.size = g at *
    go_loopw [8] (fun i wr => ∃ k : Nat, k ≤ n ∧ i = .int .i64 (k : Int) ∧ Hid (OfSt w wr g (.slice (some ⟨gb, 0, none⟩) nb cpb) (.slice (some ⟨gc, 0, none⟩) nc cpc) bs (cntF bs (l.take k)))) (fun i _ => n - (intOf i).toNat)
    case atStart => exact ⟨0, Nat.zero_le _, rfl, HS⟩
    case round =>
      obtain ⟨k, hk, rfl, HS⟩ := hrel
      have b0 := hiO_0 HS.out.box
      have b1 := hiO_1 HS.out.box
      by_cases hlt : k < n
      · obtain ⟨x, hx⟩ : ∃ x, x = l.getD k 0 := ⟨_, rfl⟩
        obtain ⟨ba, off, hao, hbl2, hcell⟩ : ∃ b off, ao = some ⟨b, off, none⟩ ∧ b < w.heap.size ∧ w.cell? ⟨b, off + k, none⟩ = some (.int .i64 x) := by
          rcases HJ.out.form with ⟨h0, -⟩ | ⟨hpos, b, off, cap', he, -, -, hb, hc⟩
          · exfalso; rw [h0] at HN; have := HN.out; simp at this; omega
          · cases he
            exact ⟨b, off, rfl, hb, by rw [hx]; exact hc k (by have := HN.out; omega)⟩
        subst hao
        have e1 := (HS.out.low.cell (p := ⟨ba, off + k, none⟩) hbl2).trans hcell
        obtain ⟨m, hm⟩ : ∃ m, m = bucketF bs x := ⟨_, rfl⟩
        have HM := Lib.hid hm
        have HX := Lib.hid hx
        clear hm hx hcell
        have hbk := rbucket_any vh bs x wr (HI.out.below HS.out.low HS.out.low.size)
        rw [← HM.out] at hbk
        have hm := bucketF_le bs x
        rw [← HM.out, ← NB.out] at hm
        have hin := cntF_in bs (l.take k) m
        rw [List.length_take, ← HN.out, Nat.min_eq_left hk] at hin
        have hmc : (m : Int) < (nc : Int) := by have := NC.out; have := NB.out; omega
        have c0 := OwnI.cellAt HS.out.own.c (by rw [cntF_length]; exact NC.out) m (by omega)
        have z0 := OwnI.frozenAt HS.out.own.c (by rw [cntF_length]; exact NC.out) m
        obtain ⟨c, hc⟩ : ∃ c, c = (cntF bs (l.take k)).getD m 0 := ⟨_, rfl⟩
        rw [← hc] at c0 hin
        have HC := Lib.hid hc
        clear hc
        have hw : IntKind.i64.wrap (c + 1) = c + 1 := by rw [IntKind.wrap_i64]; omega
        have HS5 : Hid (OfSt w (wr.setCell ⟨gc, m, none⟩ (.int .i64 (c + 1))) g (.slice (some ⟨gb, 0, none⟩) nb cpb) (.slice (some ⟨gc, 0, none⟩) nc cpc) bs (cntF bs (l.take (k + 1)))) := by
          show OfSt _ _ _ _ _ _ _
          obtain ⟨gc', cpc', hvc, hgc, -, -⟩ := HS.out.own.c.blk (by rw [cntF_length]; omega)
          have hgc2 : w.heap.size + 1 ≤ gc := by cases hvc; exact hgc
          have hso := HS.out.own.stored (by rw [cntF_length]; exact NC.out) m (c + 1)
          rw [cntF_take bs l k (by have := HN.out; omega), ← HX.out, ← HM.out]
          unfold addAt
          rw [← HC.out]
          exact HS.out.put (bel_set hgc2 (Below.refl _ _)) (fun j _ hne => Below.heap_setCell _ _ _ _ (fun e => hne (by rw [e]; rfl))) hso
        go_wp2_with (fail)
        refine hbk.mono ?_
        rintro e W5 ⟨rfl, rfl⟩
        clear hbk
        go_wp2
        go_roundw
        case rel => exact ⟨k + 1, by omega, by go_num, HS5⟩
        case measure => simp [intOf]; omega
      · have hkn : k = n := by omega
        subst hkn
        have a0 := hiO_0 HS.out.res
        have a1 := hiO_1 HS.out.res
        have f0 := hiF_0 HS.out.res
        have f1 := hiF_1 HS.out.res
        go_wp2
        refine bodyPost_ret (v := .tuple #[hiV (.slice (some ⟨gb, 0, none⟩) nb cpb) (.slice (some ⟨gc, 0, none⟩) nc cpc), .int .i64 0]) (by simp [results, Tryd.results27, go_sem, *]) rfl ⟨.inr ⟨HR.out, _, _, rfl, ?_⟩, ?_⟩
        · have hall : l.take k = l := List.take_of_length_le (by have := HN.out; omega)
          have ho := HS.out.own
          rw [hall] at ho
          exact HOwn.mono (HOwn.set (HOwn.set ho (by omega)) (by omega)) (by omega)
        · exact bel_set (Nat.le_refl _) (bel_set (Nat.le_refl _) HS.out.low)

end Go.Proofs.YtghgnalbahneoaaDoor
