/- Histograms: Total and Add on both sides (by program: wip/tools/gen_hist10.py). -/
import Derived.Test.YtghgnalbahneoaaDoorHist9
namespace Go.Proofs.YtghgnalbahneoaaDoor
open Go.RowKit

theorem sum_snoc (cs : List Int) (k : Nat) (hk : k < cs.length) : (cs.take (k + 1)).sum = (cs.take k).sum + cs.getD k 0 := by
  rw [take_snoc cs k hk, List.sum_append]; simp
theorem sum_in (cs : List Int) (M : Nat) (h : ∀ j, 0 ≤ cs.getD j 0 ∧ cs.getD j 0 ≤ M) (k : Nat) (hk : k ≤ cs.length) : 0 ≤ (cs.take k).sum ∧ (cs.take k).sum ≤ (k : Int) * (M : Int) := by
  induction k with
  | zero => simp
  | succ k ih =>
    have := ih (by omega)
    have h1 := h k
    rw [sum_snoc cs k (by omega), Int.natCast_add, Int.add_mul]
    simp only [Int.natCast_one, Int.one_mul]
    omega
/-- counts that are in bounds -/
def CntIn (cs : List Int) : Prop := ∀ j, 0 ≤ cs.getD j 0 ∧ cs.getD j 0 ≤ ((1099511627776 : Nat) : Int)
theorem FitH.cnt {bs cs : List Int} (h : FitH bs cs) : CntIn cs := by
  intro j
  by_cases hj : j < cs.length
  · have := h.2.2 cs[j] (List.getElem_mem hj)
    simp [List.getD, hj]
    omega
  · simp [List.getD, hj]

set_option maxRecDepth 100000 in
set_option maxHeartbeats 1000000 in
theorem total_any (vb vc : Value) (bs cs : List Int) (w : World) (hc : Its w w.heap.size vc cs) (hl : cs.length ≤ 1000) (hin : CntIn cs) : Calls Tryd.prog 29 #[hiV vb vc] w fun e w' => e = .returned (.int .i64 cs.sum) ∧ Below w.heap.size w w' := by
  obtain ⟨g0, k0⟩ := hist_new w vb vc
  have L := Lib.hid g0
  have K := Lib.hid k0
  have HC := Lib.hid (hc.kept g0)
  have HIN := Lib.hid hin
  clear g0 k0 hin
  obtain ⟨ac, cap, hv, -⟩ := hc.slice
  subst hv
  obtain ⟨n, hn⟩ : ∃ n, n = cs.length := ⟨_, rfl⟩
  rw [← hn] at HC hl K L ⊢
  have HN := Lib.hid hn
  clear hn hc
  go_enter Tryd.func29, Tryd.ntmps29
  go_wp2_with (fail)
  try generalize w.alloc (.cells #[vb, .slice ac n cap] 24) = W0 at *
  have a1 := hiO_1 K.out
  try go_wp2
  go_loop [3, 9] (fun c i => ∃ (k : Nat) (s : Int), k ≤ n ∧ i = .int .i64 (k : Int) ∧ c = .int .i64 s ∧ Hid (s = (cs.take k).sum)) (fun _ i => n - (intOf i).toNat)
  case atStart => exact ⟨0, 0, Nat.zero_le _, rfl, rfl, by show _ = _; simp⟩
  case round =>
    obtain ⟨k, s, hk, rfl, rfl, HS⟩ := hrel
    by_cases hlt : k < n
    · obtain ⟨b, off, hao, e1⟩ : ∃ b off, ac = some ⟨b, off, none⟩ ∧ W0.cell? ⟨b, off + k, none⟩ = some (.int .i64 (cs.getD k 0)) := by
        rcases HC.out.form with ⟨h0, -⟩ | ⟨hpos, b, off, cap', he, -, -, hb, hcc⟩
        · exfalso; rw [h0] at HN; have := HN.out; simp at this; omega
        · exact ⟨b, off, (Value.slice.inj he).1, hcc k (by have := HN.out; omega)⟩
      subst hao
      have hs1 := sum_in cs _ HIN.out k (by have := HN.out; omega)
      have hs2 := HIN.out k
      have hsn := sum_snoc cs k (by have := HN.out; omega)
      rw [← HS.out] at hs1 hsn
      obtain ⟨y, hy⟩ : ∃ y, y = cs.getD k 0 := ⟨_, rfl⟩
      rw [← hy] at e1 hs2 hsn
      have HM : Hid (s + y = (cs.take (k + 1)).sum) := hsn.symm
      have hw : IntKind.i64.wrap (s + y) = s + y := by rw [IntKind.wrap_i64]; omega
      clear hy hsn
      go_wp2
      go_round
      case rel => exact ⟨k + 1, s + y, by omega, by go_num, rfl, HM⟩
      case measure => simp [intOf]; omega
    · have HF : Hid (s = cs.sum) := by show _ = _; rw [HS.out, List.take_of_length_le (by have := HN.out; omega)]
      go_wp2
      go_ret
      rw [← HF.out]
      exact ⟨rfl, L.out⟩

set_option maxRecDepth 100000 in
set_option maxHeartbeats 1000000 in
theorem rtotal_any (vb vc : Value) (bs cs : List Int) (w : World) (hc : Its w w.heap.size vc cs) (hl : cs.length ≤ 1000) (hin : CntIn cs) : Calls Tryd.prog 34 #[hiV vb vc] w fun e w' => e = .returned (.int .i64 cs.sum) ∧ Below w.heap.size w w' := by
  obtain ⟨g0, k0⟩ := hist_new w vb vc
  have L := Lib.hid g0
  have K := Lib.hid k0
  have HC := Lib.hid (hc.kept g0)
  have HIN := Lib.hid hin
  clear g0 k0 hin
  obtain ⟨ac, cap, hv, -⟩ := hc.slice
  subst hv
  obtain ⟨n, hn⟩ : ∃ n, n = cs.length := ⟨_, rfl⟩
  rw [← hn] at HC hl K L ⊢
  have HN := Lib.hid hn
  clear hn hc
  go_enter Tryd.func34, Tryd.ntmps34
  go_wp2_with (fail)
  try generalize w.alloc (.cells #[vb, .slice ac n cap] 24) = W0 at *
  have a1 := hiO_1 K.out
  try go_wp2
  go_loop [3, 4] (fun c i => ∃ (k : Nat) (s : Int), k ≤ n ∧ i = .int .i64 (k : Int) ∧ c = .int .i64 s ∧ Hid (s = (cs.take k).sum)) (fun _ i => n - (intOf i).toNat)
  case atStart => exact ⟨0, 0, Nat.zero_le _, rfl, rfl, by show _ = _; simp⟩
  case round =>
    obtain ⟨k, s, hk, rfl, rfl, HS⟩ := hrel
    by_cases hlt : k < n
    · obtain ⟨b, off, hao, e1⟩ : ∃ b off, ac = some ⟨b, off, none⟩ ∧ W0.cell? ⟨b, off + k, none⟩ = some (.int .i64 (cs.getD k 0)) := by
        rcases HC.out.form with ⟨h0, -⟩ | ⟨hpos, b, off, cap', he, -, -, hb, hcc⟩
        · exfalso; rw [h0] at HN; have := HN.out; simp at this; omega
        · exact ⟨b, off, (Value.slice.inj he).1, hcc k (by have := HN.out; omega)⟩
      subst hao
      have hs1 := sum_in cs _ HIN.out k (by have := HN.out; omega)
      have hs2 := HIN.out k
      have hsn := sum_snoc cs k (by have := HN.out; omega)
      rw [← HS.out] at hs1 hsn
      obtain ⟨y, hy⟩ : ∃ y, y = cs.getD k 0 := ⟨_, rfl⟩
      rw [← hy] at e1 hs2 hsn
      have HM : Hid (s + y = (cs.take (k + 1)).sum) := hsn.symm
      have hw : IntKind.i64.wrap (s + y) = s + y := by rw [IntKind.wrap_i64]; omega
      clear hy hsn
      go_wp2
      go_round
      case rel => exact ⟨k + 1, s + y, by omega, by go_num, rfl, HM⟩
      case measure => simp [intOf]; omega
    · have HF : Hid (s = cs.sum) := by show _ = _; rw [HS.out, List.take_of_length_le (by have := HN.out; omega)]
      go_wp2
      go_ret
      rw [← HF.out]
      exact ⟨rfl, L.out⟩

/-- what Add answers -/
def AddR (bs cs : List Int) (x t : Int) (B : Nat) (e : Ending) (w' : World) : Prop :=
  (t < 0 ∧ e = .returned (.tuple #[hiV (.slice none 0 0) (.slice none 0 0), .int .i64 31])) ∨
  (0 ≤ t ∧ 1099511627776 < cs.getD (bucketF bs x) 0 + t ∧ e = .returned (.tuple #[hiV (.slice none 0 0) (.slice none 0 0), .int .i64 10])) ∨
  (0 ≤ t ∧ cs.getD (bucketF bs x) 0 + t ≤ 1099511627776 ∧ ∃ vb vc, e = .returned (.tuple #[hiV vb vc, .int .i64 0]) ∧ HOwn w' B vb vc bs (addAt cs (bucketF bs x) t))

set_option maxRecDepth 100000 in
set_option maxHeartbeats 1000000 in
theorem add_any (vb vc : Value) (bs cs : List Int) (x t : Int) (w : World) (hb : Its w w.heap.size vb bs) (hc : Its w w.heap.size vc cs) (hfit : FitH bs cs) (ht0 : -9223372036854775808 ≤ t) (ht1 : t ≤ 9223372036854775807) : Calls Tryd.prog 32 #[hiV vb vc, .int .i64 x, .int .i64 t] w fun e w' => AddR bs cs x t w.heap.size e w' ∧ Below w.heap.size w w' := by
  obtain ⟨g0, k0⟩ := hist_new w vb vc
  obtain ⟨g1, k1⟩ := hist_new (w.alloc (.cells #[vb, vc] 24)) (.slice none 0 0) (.slice none 0 0)
  have L := Lib.hid (g0.trans (g1.mono g0.size))
  have KH := Lib.hid (stays k0 g1)
  have HB := Lib.hid ((hb.kept g0).kept g1)
  have HC := Lib.hid ((hc.kept g0).kept g1)
  rw [show (w.alloc (.cells #[vb, vc] 24)).heap.size = w.heap.size + 1 by simp] at k1
  have KR := Lib.hid k1
  clear g0 g1 k0 k1
  obtain ⟨ab, capb, hvb, -⟩ := hb.slice
  obtain ⟨ac, capc, hvc, -⟩ := hc.slice
  subst hvb hvc
  have hin := hfit.cnt
  have hl1 := hfit.1.2.1
  have hl0 := hfit.1.1
  have hlc := hfit.2.1
  obtain ⟨nb, hnb⟩ : ∃ n, n = bs.length := ⟨_, rfl⟩
  obtain ⟨nc, hnc⟩ : ∃ n, n = cs.length := ⟨_, rfl⟩
  have PB : Hid (0 < bs.length) := hl0
  have PC : Hid (0 < cs.length) := by show _ < _; omega
  rw [← hnb, ← hnc] at KH KR HB HC L ⊢
  rw [← hnb] at hl1 hlc hl0
  rw [← hnc] at hlc
  have NB := Lib.hid hnb
  have NC := Lib.hid hnc
  have HIN := Lib.hid hin
  have HT := Lib.hid (And.intro ht0 ht1)
  have HLL : Hid (0 < nb ∧ nb ≤ 64 ∧ nc = nb + 1) := ⟨hl0, hl1, hlc⟩
  clear hb hc hnb hnc hfit hin ht0 ht1 hl0 hl1 hlc
  have a0 := hiO_0 KH.out
  have a1 := hiO_1 KH.out
  go_enter Tryd.func32, Tryd.ntmps32
  go_wp2_with (fail)
  refine (own_any _ _ bs cs _ HB.out HC.out PB.out (by have := NB.out; have := HLL.out; omega) PC.out (by have := NC.out; have := HLL.out; omega)).mono ?_
  rintro e w1 ⟨⟨ub, uc, rfl, ho⟩, hB1⟩
  obtain ⟨gb, cpb, hvb, -, -, -⟩ := ho.b.blk PB.out
  obtain ⟨gc, cpc, hvc, -, hgc, -⟩ := ho.c.blk PC.out
  rw [← NB.out] at hvb
  rw [← NC.out] at hvc
  subst hvb hvc
  obtain ⟨g2, k2⟩ := hist_new w1 (.slice (some ⟨gb, 0, none⟩) nb cpb) (.slice (some ⟨gc, 0, none⟩) nc cpc)
  replace L := Lib.hid ((L.out.trans (hB1.mono L.out.size)).trans (g2.mono (Nat.le_trans L.out.size hB1.size)))
  replace KH := Lib.hid (stays (stays KH.out hB1) g2)
  replace KR := Lib.hid (stays (stays KR.out hB1) g2)
  replace HB := Lib.hid ((HB.out.kept hB1).kept g2)
  have KB := Lib.hid k2
  have HO : Hid (HOwn (w1.alloc (.cells #[(.slice (some ⟨gb, 0, none⟩) nb cpb), (.slice (some ⟨gc, 0, none⟩) nc cpc)] 24)) (w.heap.size + 2) (.slice (some ⟨gb, 0, none⟩) nb cpb) (.slice (some ⟨gc, 0, none⟩) nc cpc) bs cs) := by
    have := ho.below g2
    simp only [World.size_alloc] at this
    exact this
  have hne : ((.slice (some ⟨gc, 0, none⟩) nc cpc) : Value).ownBlock ≠ some w1.heap.size := by
    intro he
    simp only [Value.ownBlock, Option.some.injEq] at he
    omega
  have hsz : w.heap.size + 2 ≤ (w1.alloc (.cells #[(.slice (some ⟨gb, 0, none⟩) nb cpb), (.slice (some ⟨gc, 0, none⟩) nc cpc)] 24)).heap.size := by
    have := hB1.size
    simp at this ⊢
    omega
  clear ho hB1 g2 k2 HC a0 a1 hgc
  have a0 := hiO_0 KR.out
  have a1 := hiO_1 KR.out
  have f0 := hiF_0 KR.out
  have f1 := hiF_1 KR.out
  have b0 := hiO_0 KB.out
  have b1 := hiO_1 KB.out
  by_cases ht : t < 0
  · go_wp2
    exact bodyPost_ret (v := .tuple #[hiV (.slice none 0 0) (.slice none 0 0), .int .i64 31]) (by simp [results, Tryd.results32, go_sem, *]) rfl ⟨.inl ⟨ht, rfl⟩, bel_set (by omega) (bel_set (by omega) L.out)⟩
  · go_wp2_with (fail)
    clear a0 a1 f0 f1 b0 b1
    generalize w1.alloc (.cells #[(.slice (some ⟨gb, 0, none⟩) nb cpb), (.slice (some ⟨gc, 0, none⟩) nc cpc)] 24) = W0 at *
    generalize w1.heap.size = g at *
    obtain ⟨m, hm⟩ : ∃ m, m = bucketF bs x := ⟨_, rfl⟩
    have HM := Lib.hid hm
    clear hm
    refine wp_flow_tail (by kernel_rfl) (by kernel_rfl) 6 (by decide) (by kernel_rfl) (fun i => 16 + i) (by kernel_rfl) (by kernel_rfl) (by kernel_rfl) (fun i v W => ([(fun zv _ => zv = (.agg #[(.slice (some ⟨gb, 0, none⟩) nb cpb), (.slice (some ⟨gc, 0, none⟩) nc cpc)])), (fun zv _ => zv = (.pointer (some ⟨w.heap.size, 0, none⟩))), (fun zv _ => zv = (.slice ab nb capb)), (fun zv _ => zv = (.int .i64 x)), (fun zv _ => zv = (.int .i64 (m : Int))), (fun zv _ => zv = (.int .i64 t))] : List (Value → World → Prop)).getD i (fun _ _ => True) v W) ?_ (fun i => false) ?_ (by kernel_rfl) ?_
    · intro i hi
      replace hi : i < 6 := hi
      rcases (show i = 0 ∨ i = 1 ∨ i = 2 ∨ i = 3 ∨ i = 4 ∨ i = 5 by omega) with rfl | rfl | rfl | rfl | rfl | rfl
      · exact Stays.eq _
      · exact Stays.eq _
      · exact Stays.eq _
      · exact Stays.eq _
      · exact Stays.eq _
      · exact Stays.eq _
    · intro i o a W hi ho hB hf hd hq
      replace hi : i < 6 := hi
      rcases (show i = 0 ∨ i = 1 ∨ i = 2 ∨ i = 3 ∨ i = 4 ∨ i = 5 by omega) with rfl | rfl | rfl | rfl | rfl | rfl
      · replace ho := op_at ho (by rfl)
        subst ho
        have f8 : a.tmps.getD 8 undef = (.pointer (some ⟨g, 0, none⟩)) := hf 8 (by kernel_rfl)
        have c0 := hiO_0 (stays KB.out hB)
        have c1 := hiO_1 (stays KB.out hB)
        refine .inl ⟨(fun j b h => by cases h), FlowOp.pure _ (by simp [go_sem, Act.eval, f8, c0, c1]) ⟨rfl, fun h => by cases h⟩⟩
      · replace ho := op_at ho (by rfl)
        subst ho
        have f3 : a.tmps.getD 3 undef = (.pointer (some ⟨w.heap.size, 0, none⟩)) := hf 3 (by kernel_rfl)
        refine .inl ⟨(fun j b h => by cases h), FlowOp.pure _ (by simp [go_sem, Act.eval, f3]) ⟨rfl, fun h => by cases h⟩⟩
      · replace ho := op_at ho (by rfl)
        subst ho
        have d1 : a.tmps.getD 17 undef = (.pointer (some ⟨w.heap.size, 0, none⟩)) := hd 1 (by kernel_rfl)
        have c2 := hiO_0 (stays KH.out hB)
        refine .inl ⟨(fun j b h => by cases h), FlowOp.pure _ (by simp [go_sem, Act.eval, d1, c2]) ⟨rfl, fun h => by cases h⟩⟩
      · replace ho := op_at ho (by rfl)
        subst ho
        have f1 : a.tmps.getD 1 undef = (.int .i64 x) := hf 1 (by kernel_rfl)
        refine .inl ⟨(fun j b h => by cases h), FlowOp.pure _ (by simp [go_sem, Act.eval, f1]) ⟨rfl, fun h => by cases h⟩⟩
      · replace ho := op_at ho (by rfl)
        subst ho
        have d2 : a.tmps.getD 18 undef = (.slice ab nb capb) := hd 2 (by kernel_rfl)
        have d3 : a.tmps.getD 19 undef = (.int .i64 x) := hd 3 (by kernel_rfl)
        refine .inl ⟨(fun j b h => by cases h), FlowOp.call 25 #[(.slice ab nb capb), (.int .i64 x)] (by simp [go_sem, Act.eval, d2, d3]) ?_⟩
        refine (bucket_any _ bs x W (HB.out.below hB hB.size) (by have := NB.out; have := HLL.out; omega)).mono ?_
        rintro e W' ⟨rfl, hBe⟩
        rw [← HM.out]
        exact ⟨_, rfl, hBe, rfl, fun h => by cases h⟩
      · replace ho := op_at ho (by rfl)
        subst ho
        have f2 : a.tmps.getD 2 undef = (.int .i64 t) := hf 2 (by kernel_rfl)
        refine .inl ⟨(fun j b h => by cases h), FlowOp.pure _ (by simp [go_sem, Act.eval, f2]) ⟨rfl, fun h => by cases h⟩⟩
    · intro vs4 W4 hB4 hv hSS
      have h0 : vs4 0 = (.agg #[(.slice (some ⟨gb, 0, none⟩) nb cpb), (.slice (some ⟨gc, 0, none⟩) nc cpc)]) := hv 0 (show 0 < 6 by decide)
      have h1 : vs4 1 = (.pointer (some ⟨w.heap.size, 0, none⟩)) := hv 1 (show 1 < 6 by decide)
      have h2 : vs4 2 = (.slice ab nb capb) := hv 2 (show 2 < 6 by decide)
      have h3 : vs4 3 = (.int .i64 x) := hv 3 (show 3 < 6 by decide)
      have h4 : vs4 4 = (.int .i64 (m : Int)) := hv 4 (show 4 < 6 by decide)
      have h5 : vs4 5 = (.int .i64 t) := hv 5 (show 5 < 6 by decide)
      clear hv
      simp only [List.drop_succ_cons, List.drop_zero]
      simp only [puts, h0, h1, h2, h3, h4, h5]
      clear h0 h1 h2 h3 h4 h5
      clear hSS
      have HO4 := Lib.hid (HO.out.below hB4)
      have KB4 := Lib.hid (stays KB.out hB4)
      have KR4 := Lib.hid (stays KR.out hB4)
      have hsz4 := Nat.le_trans hsz hB4.size
      have L4 := Lib.hid (L.out.trans (hB4.mono L.out.size))
      have hm := bucketF_le bs x
      rw [← HM.out, ← NB.out] at hm
      have HPU := Lib.hid (put_any (.slice (some ⟨gb, 0, none⟩) nb cpb) (.slice (some ⟨gc, 0, none⟩) nc cpc) bs cs m t W4 (w.heap.size + 2) HO4.out hsz4 (by rw [← NC.out]; have := HLL.out; omega) (HIN.out m).1 (HIN.out m).2 ht HT.out.2)
      clear hB4
      have hti : decide (t < 0) = false := decide_eq_false (by omega)
      go_simp
      gi_wp2_with (fail)
      refine ⟨trivial, ?_⟩
      refine (callsIn_wide.2 HPU.out).mono ?_
      rintro e W5 ⟨hP, hBe, hF⟩
      have HF := Lib.hid (hF g (Array.getElem?_eq_some_iff.1 KB4.out).1 hne)
      have KR5 := Lib.hid ((hBe.block _ (show w.heap.size + 1 < w.heap.size + 2 by omega)).trans KR4.out)
      have L5 := Lib.hid (L4.out.trans (hBe.mono (by omega)))
      have a0 := hiO_0 KR5.out
      have a1 := hiO_1 KR5.out
      have f0 := hiF_0 KR5.out
      have f1 := hiF_1 KR5.out
      clear hBe hF
      rcases hP with ⟨hbad, rfl, -⟩ | ⟨hgood, rfl, hO⟩
      · have HBAD := Lib.hid hbad
        clear hbad
        gi_wp2
        go_wp2
        exact bodyPost_ret (v := .tuple #[hiV (.slice none 0 0) (.slice none 0 0), .int .i64 10]) (by simp [results, Tryd.results32, go_sem, *]) rfl ⟨.inr (.inl ⟨ht, by rw [← HM.out]; exact HBAD.out, rfl⟩), bel_set (by omega) (bel_set (by omega) L5.out)⟩
      · have HG := Lib.hid hgood
        have HO5 := Lib.hid hO
        have KB5 := Lib.hid (HF.out.trans KB4.out)
        have b0 := hiO_0 KB5.out
        have b1 := hiO_1 KB5.out
        clear hgood hO
        gi_wp2
        go_wp2
        refine bodyPost_ret (v := .tuple #[hiV (.slice (some ⟨gb, 0, none⟩) nb cpb) (.slice (some ⟨gc, 0, none⟩) nc cpc), .int .i64 0]) (by simp [results, Tryd.results32, go_sem, *]) rfl ⟨.inr (.inr ⟨ht, by rw [← HM.out]; exact HG.out, _, _, rfl, ?_⟩), bel_set (by omega) (bel_set (by omega) L5.out)⟩
        rw [← HM.out]
        exact HOwn.mono (HOwn.set (HOwn.set HO5.out (by omega)) (by omega)) (by omega)

/-- no row of numbers lies where a histogram's box is -/
theorem OwnI.notbox {w : World} {B b : Nat} {v va vb : Value} {xs : List Int} (h : OwnI w B v xs) (hb : w.heap[b]? = some (hiO va vb)) : v.ownBlock ≠ some b := by
  intro he
  rcases h.2 with ⟨hv, -⟩ | ⟨g, cap, cur, hv, -, hg, -⟩
  · rw [hv] at he; cases he
  · rw [hv] at he
    obtain rfl : g = b := by simpa [Value.ownBlock] using he
    rw [hg] at hb
    simp [hiO] at hb

set_option maxRecDepth 100000 in
set_option maxHeartbeats 1000000 in
theorem radd_any (vb vc : Value) (bs cs : List Int) (x t : Int) (w : World) (hb : Its w w.heap.size vb bs) (hc : Its w w.heap.size vc cs) (hfit : FitH bs cs) (ht0 : -9223372036854775808 ≤ t) (ht1 : t ≤ 9223372036854775807) : Calls Tryd.prog 33 #[hiV vb vc, .int .i64 x, .int .i64 t] w fun e w' => AddR bs cs x t w.heap.size e w' ∧ Below w.heap.size w w' := by
  obtain ⟨g0, k0⟩ := hist_new w vb vc
  obtain ⟨g1, k1⟩ := hist_new (w.alloc (.cells #[vb, vc] 24)) (.slice none 0 0) (.slice none 0 0)
  have L := Lib.hid (g0.trans (g1.mono g0.size))
  have KH := Lib.hid (stays k0 g1)
  have HB := Lib.hid ((hb.kept g0).kept g1)
  have HC := Lib.hid ((hc.kept g0).kept g1)
  rw [show (w.alloc (.cells #[vb, vc] 24)).heap.size = w.heap.size + 1 by simp] at k1
  have KR := Lib.hid k1
  clear g0 g1 k0 k1
  obtain ⟨ab, capb, hvb, -⟩ := hb.slice
  obtain ⟨ac, capc, hvc, -⟩ := hc.slice
  subst hvb hvc
  have hin := hfit.cnt
  have hl1 := hfit.1.2.1
  have hl0 := hfit.1.1
  have hlc := hfit.2.1
  obtain ⟨nb, hnb⟩ : ∃ n, n = bs.length := ⟨_, rfl⟩
  obtain ⟨nc, hnc⟩ : ∃ n, n = cs.length := ⟨_, rfl⟩
  have PB : Hid (0 < bs.length) := hl0
  have PC : Hid (0 < cs.length) := by show _ < _; omega
  rw [← hnb, ← hnc] at KH KR HB HC L ⊢
  rw [← hnb] at hl1 hlc hl0
  rw [← hnc] at hlc
  have NB := Lib.hid hnb
  have NC := Lib.hid hnc
  have HIN := Lib.hid hin
  have HT := Lib.hid (And.intro ht0 ht1)
  have HLL : Hid (0 < nb ∧ nb ≤ 64 ∧ nc = nb + 1) := ⟨hl0, hl1, hlc⟩
  clear hb hc hnb hnc hfit hin ht0 ht1 hl0 hl1 hlc
  have a0 := hiO_0 KH.out
  have a1 := hiO_1 KH.out
  have a2 := hiO_0 KR.out
  have a3 := hiO_1 KR.out
  have f0 := hiF_0 KR.out
  have f1 := hiF_1 KR.out
  by_cases ht : t < 0
  · have hti : decide (t < 0) = true := decide_eq_true ht
    go_enter Tryd.func33, Tryd.ntmps33
    go_wp2
    exact bodyPost_ret (v := .tuple #[hiV (.slice none 0 0) (.slice none 0 0), .int .i64 31]) (by simp [results, Tryd.results33, go_sem, *]) rfl ⟨.inl ⟨ht, rfl⟩, L.out⟩
  · have hti : decide (t < 0) = false := decide_eq_false ht
    have HT0 := Lib.hid (Int.not_lt.1 ht)
    have hbk := rbucket_any _ bs x _ HB.out
    obtain ⟨m, hm⟩ : ∃ m, m = bucketF bs x := ⟨_, rfl⟩
    have hmle := bucketF_le bs x
    rw [← hm] at hbk hmle
    have HM := Lib.hid hm
    obtain ⟨c, hc⟩ : ∃ c, c = cs.getD m 0 := ⟨_, rfl⟩
    have hcin := HIN.out m
    rw [← hc] at hcin
    have HMC : Hid (m < nc) := by have := HLL.out; have := NB.out; show _ < _; omega
    obtain ⟨bc, oc, hac, hbc, hcell⟩ : ∃ b off, ac = some ⟨b, off, none⟩ ∧ b < ((w.alloc (.cells #[(.slice ab nb capb), .slice ac nc capc] 24)).alloc (.cells #[.slice none 0 0, .slice none 0 0] 24)).heap.size ∧ ((w.alloc (.cells #[(.slice ab nb capb), .slice ac nc capc] 24)).alloc (.cells #[.slice none 0 0, .slice none 0 0] 24)).cell? ⟨b, off + m, none⟩ = some (.int .i64 c) := by
      rcases HC.out.form with ⟨h0, -⟩ | ⟨hpos, b, off, cap', he, -, -, hb, hcc⟩
      · exfalso; rw [h0] at PC; have := PC.out; simp at this
      · exact ⟨b, off, (Value.slice.inj he).1, hb, by rw [hc]; exact hcc m (by have := NC.out; have := HMC.out; omega)⟩
    subst hac
    have hmn : 0 ≤ (m : Int) ∧ (m : Int) < (nc : Int) := by have := HMC.out; omega
    have hw1 : IntKind.i64.wrap (1099511627776 - c) = 1099511627776 - c := by rw [IntKind.wrap_i64]; omega
    have HCC := Lib.hid hc
    have HCI := Lib.hid hcin
    clear hm hc hcin hmle hbc
    by_cases hov : 1099511627776 < c + t
    · have hgt : decide (1099511627776 - c < t) = true := by rw [decide_eq_true_iff]; omega
      have HOV := Lib.hid hov
      clear hov ht
      go_enter Tryd.func33, Tryd.ntmps33
      go_wp2_with (fail)
      refine hbk.mono ?_
      rintro e w1 ⟨rfl, rfl⟩
      clear hbk
      go_wp2
      exact bodyPost_ret (v := .tuple #[hiV (.slice none 0 0) (.slice none 0 0), .int .i64 10]) (by simp [results, Tryd.results33, go_sem, *]) rfl ⟨.inr (.inl ⟨HT0.out, by rw [← HM.out, ← HCC.out]; exact HOV.out, rfl⟩), L.out⟩
    · have hgt : decide (1099511627776 - c < t) = false := by rw [decide_eq_false_iff_not]; omega
      have hw2 : IntKind.i64.wrap (c + t) = c + t := by rw [IntKind.wrap_i64]; have := HT0.out; have := HCI.out; omega
      have HOV := Lib.hid hov
      clear hov ht
      go_enter Tryd.func33, Tryd.ntmps33
      go_wp2_with (fail)
      refine hbk.mono ?_
      rintro e w1 ⟨rfl, rfl⟩
      clear hbk
      go_wp2_with (fail)
      clear a0 a1 a2 a3 f0 f1 hcell
      generalize (w.alloc (.cells #[(.slice ab nb capb), .slice (some ⟨bc, oc, none⟩) nc capc] 24)).alloc (.cells #[.slice none 0 0, .slice none 0 0] 24) = W0 at *
      refine wp_flow_tail (by kernel_rfl) (by kernel_rfl) 8 (by decide) (by kernel_rfl) (fun i => if i = 7 then 9 else 26 + i) (by kernel_rfl) (by kernel_rfl) (by kernel_rfl) (fun i v W => ([(fun zv _ => zv = (.pointer (some ⟨w.heap.size, 0, none⟩))), (fun zv _ => zv = (.slice ab nb capb)), (fun zv W => OwnI W W0.heap.size zv bs), (fun zv _ => zv = (.pointer (some ⟨w.heap.size, 1, none⟩))), (fun zv _ => zv = (.slice (some ⟨bc, oc, none⟩) nc capc)), (fun zv W => OwnI W W0.heap.size zv cs), (fun zv W => ∃ ub uc, zv = .agg #[ub, uc] ∧ HOwn W W0.heap.size ub uc bs cs), (fun zv W => ∃ b, zv = .pointer (some ⟨b, 0, none⟩) ∧ W0.heap.size ≤ b ∧ W.heap[b]? = some (hiO (.slice none 0 0) (.slice none 0 0)))] : List (Value → World → Prop)).getD i (fun _ _ => True) v W) ?_ (fun i => false || i == 2 || i == 5) ?_ (by kernel_rfl) ?_
      · intro i hi
        replace hi : i < 8 := hi
        rcases (show i = 0 ∨ i = 1 ∨ i = 2 ∨ i = 3 ∨ i = 4 ∨ i = 5 ∨ i = 6 ∨ i = 7 by omega) with rfl | rfl | rfl | rfl | rfl | rfl | rfl | rfl
        · exact Stays.eq _
        · exact Stays.eq _
        · exact (fun v W W2 h hb => OwnI.below h hb)
        · exact Stays.eq _
        · exact Stays.eq _
        · exact (fun v W W2 h hb => OwnI.below h hb)
        · exact (fun v W W2 h hb => by obtain ⟨ub, uc, h1, h2⟩ := h; exact ⟨ub, uc, h1, h2.below hb⟩)
        · exact (fun v W W2 h hb => by obtain ⟨b, h1, h2, h3⟩ := h; exact ⟨b, h1, h2, stays h3 hb⟩)
      · intro i o a W hi ho hB hf hd hq
        replace hi : i < 8 := hi
        rcases (show i = 0 ∨ i = 1 ∨ i = 2 ∨ i = 3 ∨ i = 4 ∨ i = 5 ∨ i = 6 ∨ i = 7 by omega) with rfl | rfl | rfl | rfl | rfl | rfl | rfl | rfl
        · replace ho := op_at ho (by rfl)
          subst ho
          have f3 : a.tmps.getD 3 undef = (.pointer (some ⟨w.heap.size, 0, none⟩)) := hf 3 (by kernel_rfl)
          refine .inl ⟨(fun j b h => by cases h), FlowOp.pure _ (by simp [go_sem, Act.eval, f3]) ⟨rfl, fun h => by cases h⟩⟩
        · replace ho := op_at ho (by rfl)
          subst ho
          have d0 : a.tmps.getD 26 undef = (.pointer (some ⟨w.heap.size, 0, none⟩)) := hd 0 (by kernel_rfl)
          have c2 := hiO_0 (stays KH.out hB)
          refine .inl ⟨(fun j b h => by cases h), FlowOp.pure _ (by simp [go_sem, Act.eval, d0, c2]) ⟨rfl, fun h => by cases h⟩⟩
        · replace ho := op_at ho (by rfl)
          subst ho
          have d1 : a.tmps.getD 27 undef = (.slice ab nb capb) := hd 1 (by kernel_rfl)
          refine .inl ⟨(fun j b h => by cases h), FlowOp.call 53 #[(.slice ab nb capb)] (by simp [go_sem, Act.eval, d1]) ?_⟩
          refine (copied_any _ _ W (HB.out.below hB hB.size) (by have := NB.out; have := HLL.out; omega)).mono ?_
          rintro e W' ⟨v', rfl, hO, hBe⟩
          refine ⟨_, rfl, hBe, hO.mono hB.size, fun _ g hg => ?_⟩
          obtain ⟨g2, cap2, rfl, h1, h2, -⟩ := hO.blk PB.out
          cases hg
          exact ⟨h1, h2⟩
        · replace ho := op_at ho (by rfl)
          subst ho
          have f3 : a.tmps.getD 3 undef = (.pointer (some ⟨w.heap.size, 0, none⟩)) := hf 3 (by kernel_rfl)
          refine .inl ⟨(fun j b h => by cases h), FlowOp.pure _ (by simp [go_sem, Act.eval, f3]) ⟨rfl, fun h => by cases h⟩⟩
        · replace ho := op_at ho (by rfl)
          subst ho
          have d3 : a.tmps.getD 29 undef = (.pointer (some ⟨w.heap.size, 1, none⟩)) := hd 3 (by kernel_rfl)
          have c2 := hiO_1 (stays KH.out hB)
          refine .inl ⟨(fun j b h => by cases h), FlowOp.pure _ (by simp [go_sem, Act.eval, d3, c2]) ⟨rfl, fun h => by cases h⟩⟩
        · replace ho := op_at ho (by rfl)
          subst ho
          have d4 : a.tmps.getD 30 undef = (.slice (some ⟨bc, oc, none⟩) nc capc) := hd 4 (by kernel_rfl)
          refine .inl ⟨(fun j b h => by cases h), FlowOp.call 53 #[(.slice (some ⟨bc, oc, none⟩) nc capc)] (by simp [go_sem, Act.eval, d4]) ?_⟩
          refine (copied_any _ _ W (HC.out.below hB hB.size) (by have := NC.out; have := HLL.out; omega)).mono ?_
          rintro e W' ⟨v', rfl, hO, hBe⟩
          refine ⟨_, rfl, hBe, hO.mono hB.size, fun _ g hg => ?_⟩
          obtain ⟨g2, cap2, rfl, h1, h2, -⟩ := hO.blk PC.out
          cases hg
          exact ⟨h1, h2⟩
        · replace ho := op_at ho (by rfl)
          subst ho
          have d2 : (fun zv W => OwnI W W0.heap.size zv bs) (a.tmps.getD 28 undef) W := hd 2 (by kernel_rfl)
          obtain ⟨x2, e2⟩ : ∃ x, a.tmps.getD 28 undef = x := ⟨_, rfl⟩
          rw [e2] at d2
          have d5 : (fun zv W => OwnI W W0.heap.size zv cs) (a.tmps.getD 31 undef) W := hd 5 (by kernel_rfl)
          obtain ⟨x5, e5⟩ : ∃ x, a.tmps.getD 31 undef = x := ⟨_, rfl⟩
          rw [e5] at d5
          obtain ⟨g2, cap2, hv2, -, -, -⟩ := d2.blk PB.out
          obtain ⟨g5, cap5, hv5, -, -, -⟩ := d5.blk PC.out
          have hne : x2.ownBlock ≠ x5.ownBlock := fun he => hq 2 5 (by kernel_rfl) (by kernel_rfl) (by decide) rfl rfl g2 (by show (a.tmps.getD 28 undef).ownBlock = _; rw [e2, hv2]; rfl) (by show (a.tmps.getD 31 undef).ownBlock = _; rw [e5, ← he, hv2]; rfl)
          subst hv2 hv5
          rw [Array.getD_eq_getD_getElem?] at e2 e5
          refine .inl ⟨(fun j b h => by cases h), FlowOp.pure _ (by simp [go_sem, Act.eval, e2, e5]) ⟨⟨_, _, rfl, d2, d5, hne⟩, fun h => by cases h⟩⟩
        · replace ho := op_at ho (by rfl)
          subst ho
          refine .inl ⟨(fun j b h => by cases h), .inl ⟨_, W.alloc (.cells #[.slice none 0 0, .slice none 0 0] 24), (by simp [go_sem, Act.eval]), bel_alloc (Below.refl _ _) (Nat.le_refl _), ⟨W.heap.size, rfl, hB.size, heap_alloc_new _ _⟩, fun h => by cases h⟩⟩
      · intro vs4 W4 hB4 hv hSS
        have h0 : vs4 0 = (.pointer (some ⟨w.heap.size, 0, none⟩)) := hv 0 (show 0 < 8 by decide)
        have h1 : vs4 1 = (.slice ab nb capb) := hv 1 (show 1 < 8 by decide)
        have h2 : (fun zv W => OwnI W W0.heap.size zv bs) (vs4 2) W4 := hv 2 (show 2 < 8 by decide)
        have h3 : vs4 3 = (.pointer (some ⟨w.heap.size, 1, none⟩)) := hv 3 (show 3 < 8 by decide)
        have h4 : vs4 4 = (.slice (some ⟨bc, oc, none⟩) nc capc) := hv 4 (show 4 < 8 by decide)
        have h5 : (fun zv W => OwnI W W0.heap.size zv cs) (vs4 5) W4 := hv 5 (show 5 < 8 by decide)
        have h6 : (fun zv W => ∃ ub uc, zv = .agg #[ub, uc] ∧ HOwn W W0.heap.size ub uc bs cs) (vs4 6) W4 := hv 6 (show 6 < 8 by decide)
        have h7 : (fun zv W => ∃ b, zv = .pointer (some ⟨b, 0, none⟩) ∧ W0.heap.size ≤ b ∧ W.heap[b]? = some (hiO (.slice none 0 0) (.slice none 0 0))) (vs4 7) W4 := hv 7 (show 7 < 8 by decide)
        clear hv
        simp only [List.drop_succ_cons, List.drop_zero]
        simp only [puts, h0, h1, h3, h4]
        clear h0 h1 h3 h4
        clear h2 h5 hSS
        obtain ⟨ub, uc, e6, hH⟩ := h6
        obtain ⟨b, e7, hb0, hbox⟩ := h7
        rw [e6, e7]
        clear e6 e7
        obtain ⟨gb, cpb, hvb, -, -, -⟩ := hH.b.blk PB.out
        obtain ⟨gc, cpc, hvc, hgc0, -, -⟩ := hH.c.blk PC.out
        rw [← NB.out] at hvb
        rw [← NC.out] at hvc
        subst hvb hvc
        have hsz := (Array.getElem?_eq_some_iff.1 KR.out).1
        have nb1 := OwnI.notbox hH.b hbox
        have nc1 := OwnI.notbox hH.c hbox
        have h1 := heap_setCell_same W4 b 0 _ _ (.slice (some ⟨gb, 0, none⟩) nb cpb) hbox
        have h2 := heap_setCell_same _ b 1 _ _ (.slice (some ⟨gc, 0, none⟩) nc cpc) h1
        have KB1 : Hid (((W4.setCell ⟨b, 0, none⟩ (.slice (some ⟨gb, 0, none⟩) nb cpb)).setCell ⟨b, 1, none⟩ (.slice (some ⟨gc, 0, none⟩) nc cpc)).heap[b]? = some (hiO (.slice (some ⟨gb, 0, none⟩) nb cpb) (.slice (some ⟨gc, 0, none⟩) nc cpc))) := h2
        have HO1 : Hid (HOwn ((W4.setCell ⟨b, 0, none⟩ (.slice (some ⟨gb, 0, none⟩) nb cpb)).setCell ⟨b, 1, none⟩ (.slice (some ⟨gc, 0, none⟩) nc cpc)) W0.heap.size (.slice (some ⟨gb, 0, none⟩) nb cpb) (.slice (some ⟨gc, 0, none⟩) nc cpc) bs cs) := ⟨(hH.b.other nb1).other nb1, (hH.c.other nc1).other nc1, hH.ne⟩
        have G1 : Hid (Below W0.heap.size W0 ((W4.setCell ⟨b, 0, none⟩ (.slice (some ⟨gb, 0, none⟩) nb cpb)).setCell ⟨b, 1, none⟩ (.slice (some ⟨gc, 0, none⟩) nc cpc))) := bel_set hb0 (bel_set hb0 hB4)
        have NC1 := Lib.hid nc1
        have HB0 := Lib.hid hb0
        have HG0 := Lib.hid hgc0
        have HSZ := Lib.hid hsz
        have r0 := hiO_0 hbox
        have r1 := hiO_1 hbox
        have z0 := hiF_0 hbox
        have z1 := hiF_1 hbox
        clear h1 h2 hH nb1 nc1 hB4 hb0 hgc0 hsz hbox
        go_simp
        gi_wp2
        clear r0 r1 z0 z1
        generalize (W4.setCell ⟨b, 0, none⟩ (.slice (some ⟨gb, 0, none⟩) nb cpb)).setCell ⟨b, 1, none⟩ (.slice (some ⟨gc, 0, none⟩) nc cpc) = W5 at *
        have b1 := hiO_1 KB1.out
        have cc := OwnI.cellAt HO1.out.c NC.out m HMC.out
        rw [← HCC.out] at cc
        have cz := OwnI.frozenAt HO1.out.c NC.out m
        go_wp2
        go_region
        obtain ⟨W6, hW6⟩ : ∃ W6, W6 = (W5.setCell ⟨gc, m, none⟩ (.int .i64 (c + t))).drew := ⟨_, rfl⟩
        rw [← hW6]
        have KB6 : Hid (W6.heap[b]? = some (hiO (.slice (some ⟨gb, 0, none⟩) nb cpb) (.slice (some ⟨gc, 0, none⟩) nc cpc))) := by
          rw [hW6]
          exact (Below.heap_setCell _ _ _ _ (fun e => NC1.out (by rw [e]; rfl))).trans KB1.out
        have HO6 : Hid (HOwn W6 W0.heap.size (.slice (some ⟨gb, 0, none⟩) nb cpb) (.slice (some ⟨gc, 0, none⟩) nc cpc) bs (cs.set m (c + t))) := by
          rw [hW6]
          exact (HO1.out.stored NC.out m (c + t)).below (Below.refl _ _).drew
        have G6 : Hid (Below W0.heap.size W0 W6) := by
          rw [hW6]
          exact (bel_set HG0.out G1.out).drew
        clear hW6 b1 cc cz
        have KR6 := Lib.hid (stays KR.out G6.out)
        have a0 := hiO_0 KR6.out
        have a1 := hiO_1 KR6.out
        have f0 := hiF_0 KR6.out
        have f1 := hiF_1 KR6.out
        have b0 := hiO_0 KB6.out
        have b1 := hiO_1 KB6.out
        have hL := L.out.size
        have hsz := HSZ.out
        go_wp2
        refine bodyPost_ret (v := .tuple #[hiV (.slice (some ⟨gb, 0, none⟩) nb cpb) (.slice (some ⟨gc, 0, none⟩) nc cpc), .int .i64 0]) (by simp [results, Tryd.results33, go_sem, *]) rfl ⟨.inr (.inr ⟨HT0.out, by rw [← HM.out, ← HCC.out]; exact HOV.out, _, _, rfl, ?_⟩), bel_set (by omega) (bel_set (by omega) (L.out.trans (G6.out.mono hL)))⟩
        rw [← HM.out]
        unfold addAt
        rw [← HCC.out]
        exact HOwn.mono (HOwn.set (HOwn.set HO6.out (by omega)) (by omega)) (by omega)


end Go.Proofs.YtghgnalbahneoaaDoor
