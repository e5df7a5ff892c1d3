/- Histograms: rows that are the same; a value in a row (by program: wip/tools/gen_hist11.py). -/
import Derived.Test.YtghgnalbahneoaaDoorHist10
namespace Go.Proofs.YtghgnalbahneoaaDoor
open Go.RowKit

theorem take_ext (a b : List Int) (k : Nat) (ha : k < a.length) (hb : k < b.length) (h : a.take k = b.take k) (he : a.getD k 0 = b.getD k 0) : a.take (k + 1) = b.take (k + 1) := by
  rw [take_snoc a k ha, take_snoc b k hb, h, he]

set_option maxRecDepth 100000 in
set_option maxHeartbeats 1000000 in
theorem equal_any (va vb : Value) (a b : List Int) (w : World) (hia : Its w w.heap.size va a) (hib : Its w w.heap.size vb b) : Calls Tryd.prog 57 #[va, vb] w fun e w' => e = .returned (.bool (decide (a = b))) ∧ ∃ n, w' = w.drewN n := by
  obtain ⟨aa, ca, hva, hla⟩ := hia.slice
  obtain ⟨ab, cb, hvb, hlb⟩ := hib.slice
  subst hva hvb
  have HIA := Lib.hid hia
  have HIB := Lib.hid hib
  obtain ⟨n, hn⟩ : ∃ n, n = a.length := ⟨_, rfl⟩
  obtain ⟨m, hm⟩ : ∃ n, n = b.length := ⟨_, rfl⟩
  rw [← hn] at HIA hla ⊢
  rw [← hm] at HIB hlb ⊢
  have HN := Lib.hid hn
  have HM := Lib.hid hm
  clear hn hm hia hib
  by_cases hnm : n = m
  · subst hnm
    go_enter Tryd.func57, Tryd.ntmps57
    go_wp2
    go_loopw [13] (fun i wr => ∃ k : Nat, k ≤ n ∧ i = .int .i64 (k : Int) ∧ Hid (a.take k = b.take k) ∧ Hid (∃ d, wr = w.drewN d)) (fun i _ => n - (intOf i).toNat)
    case atStart => exact ⟨0, Nat.zero_le _, rfl, rfl, 0, rfl⟩
    case round =>
      obtain ⟨k, hk, rfl, HK, HW⟩ := hrel
      obtain ⟨d, rfl⟩ := HW.out
      by_cases hlt : k < n
      · obtain ⟨x, hx⟩ : ∃ x, x = a.getD k 0 := ⟨_, rfl⟩
        obtain ⟨y, hy⟩ : ∃ y, y = b.getD k 0 := ⟨_, rfl⟩
        obtain ⟨b1, o1, h1, e1⟩ : ∃ b off, aa = some ⟨b, off, none⟩ ∧ w.cell? ⟨b, off + k, none⟩ = some (.int .i64 x) := by
          rcases HIA.out.form with ⟨h0, -⟩ | ⟨hpos, b, off, cap', he, -, -, hb, hcc⟩
          · exfalso; rw [h0] at HN; have := HN.out; simp at this; omega
          · exact ⟨b, off, (Value.slice.inj he).1, by rw [hx]; exact hcc k (by have := HN.out; omega)⟩
        obtain ⟨b2, o2, h2, e2⟩ : ∃ b off, ab = some ⟨b, off, none⟩ ∧ w.cell? ⟨b, off + k, none⟩ = some (.int .i64 y) := by
          rcases HIB.out.form with ⟨h0, -⟩ | ⟨hpos, b, off, cap', he, -, -, hb, hcc⟩
          · exfalso; rw [h0] at HM; have := HM.out; simp at this; omega
          · exact ⟨b, off, (Value.slice.inj he).1, by rw [hy]; exact hcc k (by have := HM.out; omega)⟩
        subst h1 h2
        have HX := Lib.hid hx
        have HY := Lib.hid hy
        have hki : 0 ≤ (k : Int) ∧ (k : Int) < (n : Int) := by omega
        clear hx hy
        by_cases hxy : x = y
        · have HK2 : Hid (a.take (k + 1) = b.take (k + 1)) := take_ext a b k (by have := HN.out; omega) (by have := HM.out; omega) HK.out (by rw [← HX.out, ← HY.out]; exact hxy)
          subst hxy
          go_wp2
          go_quiet (fail)
          go_wp2
          go_roundw
          case rel => exact ⟨k + 1, by omega, by go_num, HK2, _, rfl⟩
          case measure => simp [intOf]; omega
        · have HF : Hid (decide (a = b) = false) := decide_eq_false (fun h => hxy (by rw [HX.out, HY.out, h]))
          have hne : (x != y) = true := by rw [bne_iff_ne]; exact hxy
          go_wp2
          go_quiet (fail)
          go_wp2
          go_ret
          rw [HF.out]
          exact ⟨rfl, _, World.drewN_drewN _ _ _⟩
      · have HF : Hid (decide (a = b) = true) := decide_eq_true (by
          have := HK.out
          rwa [List.take_of_length_le (by have := HN.out; omega), List.take_of_length_le (by have := HM.out; omega)] at this)
        go_wp2
        go_ret
        rw [HF.out]
        exact ⟨rfl, _, rfl⟩
  · have HF : Hid (decide (a = b) = false) := decide_eq_false (fun h => hnm (by rw [HN.out, HM.out, h]))
    have hne : ((n : Int) != (m : Int)) = true := by rw [bne_iff_ne]; omega
    go_enter Tryd.func57, Tryd.ntmps57
    go_wp2
    go_ret
    rw [HF.out]
    exact ⟨rfl, 0, rfl⟩

set_option maxRecDepth 100000 in
set_option maxHeartbeats 1000000 in
theorem ints_any (va vb : Value) (a b : List Int) (w : World) (hia : Its w w.heap.size va a) (hib : Its w w.heap.size vb b) : Calls Tryd.prog 24 #[va, vb] w fun e w' => e = .returned (.bool (decide (a = b))) ∧ ∃ n, w' = w.drewN n := by
  obtain ⟨aa, ca, hva, hla⟩ := hia.slice
  obtain ⟨ab, cb, hvb, hlb⟩ := hib.slice
  subst hva hvb
  have HIA := Lib.hid hia
  have HIB := Lib.hid hib
  obtain ⟨n, hn⟩ : ∃ n, n = a.length := ⟨_, rfl⟩
  obtain ⟨m, hm⟩ : ∃ n, n = b.length := ⟨_, rfl⟩
  rw [← hn] at HIA hla ⊢
  rw [← hm] at HIB hlb ⊢
  have HN := Lib.hid hn
  have HM := Lib.hid hm
  clear hn hm hia hib
  by_cases hnm : n = m
  · subst hnm
    go_enter Tryd.func24, Tryd.ntmps24
    go_wp2
    go_loopw [13] (fun i wr => ∃ k : Nat, k ≤ n ∧ i = .int .i64 (k : Int) ∧ Hid (a.take k = b.take k) ∧ Hid (∃ d, wr = w.drewN d)) (fun i _ => n - (intOf i).toNat)
    case atStart => exact ⟨0, Nat.zero_le _, rfl, rfl, 0, rfl⟩
    case round =>
      obtain ⟨k, hk, rfl, HK, HW⟩ := hrel
      obtain ⟨d, rfl⟩ := HW.out
      by_cases hlt : k < n
      · obtain ⟨x, hx⟩ : ∃ x, x = a.getD k 0 := ⟨_, rfl⟩
        obtain ⟨y, hy⟩ : ∃ y, y = b.getD k 0 := ⟨_, rfl⟩
        obtain ⟨b1, o1, h1, e1⟩ : ∃ b off, aa = some ⟨b, off, none⟩ ∧ w.cell? ⟨b, off + k, none⟩ = some (.int .i64 x) := by
          rcases HIA.out.form with ⟨h0, -⟩ | ⟨hpos, b, off, cap', he, -, -, hb, hcc⟩
          · exfalso; rw [h0] at HN; have := HN.out; simp at this; omega
          · exact ⟨b, off, (Value.slice.inj he).1, by rw [hx]; exact hcc k (by have := HN.out; omega)⟩
        obtain ⟨b2, o2, h2, e2⟩ : ∃ b off, ab = some ⟨b, off, none⟩ ∧ w.cell? ⟨b, off + k, none⟩ = some (.int .i64 y) := by
          rcases HIB.out.form with ⟨h0, -⟩ | ⟨hpos, b, off, cap', he, -, -, hb, hcc⟩
          · exfalso; rw [h0] at HM; have := HM.out; simp at this; omega
          · exact ⟨b, off, (Value.slice.inj he).1, by rw [hy]; exact hcc k (by have := HM.out; omega)⟩
        subst h1 h2
        have HX := Lib.hid hx
        have HY := Lib.hid hy
        have hki : 0 ≤ (k : Int) ∧ (k : Int) < (n : Int) := by omega
        clear hx hy
        by_cases hxy : x = y
        · have HK2 : Hid (a.take (k + 1) = b.take (k + 1)) := take_ext a b k (by have := HN.out; omega) (by have := HM.out; omega) HK.out (by rw [← HX.out, ← HY.out]; exact hxy)
          subst hxy
          go_wp2
          go_quiet (fail)
          go_wp2
          go_roundw
          case rel => exact ⟨k + 1, by omega, by go_num, HK2, _, rfl⟩
          case measure => simp [intOf]; omega
        · have HF : Hid (decide (a = b) = false) := decide_eq_false (fun h => hxy (by rw [HX.out, HY.out, h]))
          have hne : (x != y) = true := by rw [bne_iff_ne]; exact hxy
          go_wp2
          go_quiet (fail)
          go_wp2
          go_ret
          rw [HF.out]
          exact ⟨rfl, _, World.drewN_drewN _ _ _⟩
      · have HF : Hid (decide (a = b) = true) := decide_eq_true (by
          have := HK.out
          rwa [List.take_of_length_le (by have := HN.out; omega), List.take_of_length_le (by have := HM.out; omega)] at this)
        go_wp2
        go_ret
        rw [HF.out]
        exact ⟨rfl, _, rfl⟩
  · have HF : Hid (decide (a = b) = false) := decide_eq_false (fun h => hnm (by rw [HN.out, HM.out, h]))
    have hne : ((n : Int) != (m : Int)) = true := by rw [bne_iff_ne]; omega
    go_enter Tryd.func24, Tryd.ntmps24
    go_wp2
    go_ret
    rw [HF.out]
    exact ⟨rfl, 0, rfl⟩

set_option maxRecDepth 100000 in
set_option maxHeartbeats 1000000 in
theorem has_any (v : Value) (l : List Int) (x : Int) (w : World) (hi : Its w w.heap.size v l) : Calls Tryd.prog 61 #[v, .int .i64 x] w fun e w' => e = .returned (.bool (decide (x ∈ l))) ∧ w = w' := by
  obtain ⟨ao, cap, hv, hl⟩ := hi.slice
  subst hv
  have HI := Lib.hid hi
  obtain ⟨n, hn⟩ : ∃ n, n = l.length := ⟨_, rfl⟩
  rw [← hn] at HI hl ⊢
  have HN := Lib.hid hn
  have HL := Lib.hid hl
  clear hn hi hl
  go_enter Tryd.func61, Tryd.ntmps61
  go_wp2
  go_loop [5] (fun i => ∃ k : Nat, k ≤ n ∧ i = .int .i64 (k : Int) ∧ Hid (x ∉ l.take k)) (fun i => n - (intOf i).toNat)
  case atStart => exact ⟨0, Nat.zero_le _, rfl, by show ¬ _; simp⟩
  case round =>
    obtain ⟨k, hk, rfl, HK⟩ := hrel
    have hnl := HL.out
    by_cases hlt : k < n
    · obtain ⟨y, hy⟩ : ∃ y, y = l.getD k 0 := ⟨_, rfl⟩
      obtain ⟨b1, o1, h1, e1⟩ : ∃ b off, ao = some ⟨b, off, none⟩ ∧ w.cell? ⟨b, off + k, none⟩ = some (.int .i64 y) := by
        rcases HI.out.form with ⟨h0, -⟩ | ⟨hpos, b, off, cap', he, -, -, hb, hcc⟩
        · exfalso; rw [h0] at HN; have := HN.out; simp at this; omega
        · exact ⟨b, off, (Value.slice.inj he).1, by rw [hy]; exact hcc k (by have := HN.out; omega)⟩
      subst h1
      have hkl : k < l.length := by have := HN.out; omega
      have hym : y ∈ l := by
        rw [hy]; simp [List.getD, hkl]
      have HT : Hid (l.take (k + 1) = l.take k ++ [y]) := by show _ = _; rw [take_snoc l k hkl, hy]
      have HYM := Lib.hid hym
      clear hy hym hkl
      by_cases hxy : y = x
      · subst hxy
        go_wp2
        go_ret
        exact ⟨by rw [decide_eq_true HYM.out]; rfl, rfl⟩
      · have hne : (y == x) = false := by rw [beq_eq_false_iff_ne]; exact hxy
        have hne2 : (x == y) = false := by rw [beq_eq_false_iff_ne]; exact fun h => hxy h.symm
        have HK2 : Hid (x ∉ l.take (k + 1)) := by
          show ¬ _
          rw [HT.out]
          intro hm
          rcases List.mem_append.1 hm with h | h
          · exact HK.out h
          · simp at h; exact hxy h.symm
        go_wp2
        go_round
        case rel => exact ⟨k + 1, by omega, by go_num, HK2⟩
        case measure => simp [intOf]; omega
    · have HF : Hid (x ∉ l) := by
        have := HK.out
        rw [List.take_of_length_le (by have := HN.out; omega)] at this
        exact this
      go_wp2
      go_ret
      exact ⟨by rw [decide_eq_false HF.out]; rfl, rfl⟩

set_option maxRecDepth 100000 in
set_option maxHeartbeats 1000000 in
theorem index_any (v : Value) (l : List Int) (x : Int) (w : World) (hi : Its w w.heap.size v l) : Calls Tryd.prog 71 #[v, .int .i64 x] w fun e w' => (∃ j : Int, e = .returned (.int .i64 j) ∧ (0 ≤ j ↔ x ∈ l) ∧ -9223372036854775808 ≤ j) ∧ w = w' := by
  obtain ⟨ao, cap, hv, hl⟩ := hi.slice
  subst hv
  have HI := Lib.hid hi
  obtain ⟨n, hn⟩ : ∃ n, n = l.length := ⟨_, rfl⟩
  rw [← hn] at HI hl ⊢
  have HN := Lib.hid hn
  have HL := Lib.hid hl
  clear hn hi hl
  go_enter Tryd.func71, Tryd.ntmps71
  go_wp2
  go_loop [8] (fun i => ∃ k : Nat, k ≤ n ∧ i = .int .i64 (k : Int) ∧ Hid (x ∉ l.take k)) (fun i => n - (intOf i).toNat)
  case atStart => exact ⟨0, Nat.zero_le _, rfl, by show ¬ _; simp⟩
  case round =>
    obtain ⟨k, hk, rfl, HK⟩ := hrel
    have hnl := HL.out
    by_cases hlt : k < n
    · obtain ⟨y, hy⟩ : ∃ y, y = l.getD k 0 := ⟨_, rfl⟩
      obtain ⟨b1, o1, h1, e1⟩ : ∃ b off, ao = some ⟨b, off, none⟩ ∧ w.cell? ⟨b, off + k, none⟩ = some (.int .i64 y) := by
        rcases HI.out.form with ⟨h0, -⟩ | ⟨hpos, b, off, cap', he, -, -, hb, hcc⟩
        · exfalso; rw [h0] at HN; have := HN.out; simp at this; omega
        · exact ⟨b, off, (Value.slice.inj he).1, by rw [hy]; exact hcc k (by have := HN.out; omega)⟩
      subst h1
      have hkl : k < l.length := by have := HN.out; omega
      have hym : y ∈ l := by
        rw [hy]; simp [List.getD, hkl]
      have HT : Hid (l.take (k + 1) = l.take k ++ [y]) := by show _ = _; rw [take_snoc l k hkl, hy]
      have HYM := Lib.hid hym
      clear hy hym hkl
      by_cases hxy : y = x
      · subst hxy
        go_wp2
        go_ret
        exact ⟨⟨(k : Int), rfl, ⟨fun _ => HYM.out, fun _ => by omega⟩, by omega⟩, rfl⟩
      · have hne : (y == x) = false := by rw [beq_eq_false_iff_ne]; exact hxy
        have hne2 : (x == y) = false := by rw [beq_eq_false_iff_ne]; exact fun h => hxy h.symm
        have HK2 : Hid (x ∉ l.take (k + 1)) := by
          show ¬ _
          rw [HT.out]
          intro hm
          rcases List.mem_append.1 hm with h | h
          · exact HK.out h
          · simp at h; exact hxy h.symm
        go_wp2
        go_round
        case rel => exact ⟨k + 1, by omega, by go_num, HK2⟩
        case measure => simp [intOf]; omega
    · have HF : Hid (x ∉ l) := by
        have := HK.out
        rw [List.take_of_length_le (by have := HN.out; omega)] at this
        exact this
      go_wp2
      go_ret
      exact ⟨⟨-1, rfl, ⟨fun h => by omega, fun h => absurd h HF.out⟩, by omega⟩, rfl⟩

theorem contains_any (v : Value) (l : List Int) (x : Int) (w : World) (hi : Its w w.heap.size v l) : Calls Tryd.prog 60 #[v, .int .i64 x] w fun e w' => e = .returned (.bool (decide (x ∈ l))) ∧ w = w' := by
  have hx := index_any v l x w hi
  go_enter Tryd.func60, Tryd.ntmps60
  go_wp2_with (fail)
  refine hx.mono ?_
  rintro e w1 ⟨⟨j, rfl, hj, -⟩, rfl⟩
  have HJ : Hid (decide (0 ≤ j) = decide (x ∈ l)) := by show _ = _; rw [decide_eq_decide]; exact hj
  clear hj hx
  go_wp2
  go_ret
  rw [← HJ.out]
  exact ⟨rfl, rfl⟩
set_option maxRecDepth 100000 in
set_option maxHeartbeats 1000000 in
theorem same_any (va vb vc vd : Value) (a b c d : List Int) (w : World) (ha : Its w w.heap.size va a) (hb : Its w w.heap.size vb b) (hc : Its w w.heap.size vc c) (hd : Its w w.heap.size vd d) : Calls Tryd.prog 21 #[hiV va vb, hiV vc vd] w fun e w' => e = .returned (.bool (decide (a = c) && decide (b = d))) ∧ Below w.heap.size w w' := by
  obtain ⟨g0, k0⟩ := hist_new w va vb
  obtain ⟨g1, k1⟩ := hist_new (w.alloc (.cells #[va, vb] 24)) vc vd
  have L := Lib.hid (g0.trans (g1.mono g0.size))
  have KA := Lib.hid (stays k0 g1)
  have HA := Lib.hid ((ha.kept g0).kept g1)
  have HB := Lib.hid ((hb.kept g0).kept g1)
  have HC := Lib.hid ((hc.kept g0).kept g1)
  have HD := Lib.hid ((hd.kept g0).kept g1)
  rw [show (w.alloc (.cells #[va, vb] 24)).heap.size = w.heap.size + 1 by simp] at k1
  have KB := Lib.hid k1
  clear g0 g1 k0 k1 ha hb hc hd
  have a0 := hiO_0 KA.out
  have a1 := hiO_1 KA.out
  have b0 := hiO_0 KB.out
  have b1 := hiO_1 KB.out
  have c1 := ints_any va vc a c _ HA.out HC.out
  go_enter Tryd.func21, Tryd.ntmps21
  cases hac : decide (a = c)
  · rw [hac] at c1
    go_wp2_with (fail)
    refine c1.mono ?_
    rintro e w1 ⟨rfl, n, rfl⟩
    go_wp2
    go_ret
    exact ⟨by simp, bel_drew L.out⟩
  · rw [hac] at c1
    go_wp2_with (fail)
    refine c1.mono ?_
    rintro e w1 ⟨rfl, n, rfl⟩
    have c2 := ints_any vb vd b d _ (HB.out.kept (bdN _ _ n)) (HD.out.kept (bdN _ _ n))
    go_wp2_with (fail)
    refine c2.mono ?_
    rintro e w2 ⟨rfl, n2, rfl⟩
    go_wp2
    go_ret
    exact ⟨by simp, bel_drew L.out⟩

end Go.Proofs.YtghgnalbahneoaaDoor
