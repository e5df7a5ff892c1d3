/- Contracts: From on both sides (by program: wip/tools/gen_from.py). -/
import Derived.Test.YtckedklopgnloaaDoorFracFromM
import Derived.Test.YtckedklopgnloaaDoorFracLaw
namespace Go.Proofs.YtckedklopgnloaaDoor
open Go.RowKit

/-- a slice of numbers that is read -/
def Its (w : World) (B : Nat) (v : Value) (l : List Int) : Prop :=
  ∃ ao cap, v = .slice ao l.length cap ∧ l.length ≤ cap ∧ l.length ≤ 9223372036854775807 ∧ (l ≠ [] → ∃ b off, ao = some ⟨b, off, none⟩ ∧ b < B ∧ ∀ i, i < l.length → w.cell? ⟨b, off + i, none⟩ = some (.int .i64 (l.getD i 0)))
theorem Its.below {w w' : World} {B B' : Nat} {v : Value} {l : List Int} (h : Its w B v l) (hb : Below B w w') (hB : B ≤ B') : Its w' B' v l := by
  obtain ⟨ao, cap, h1, h2, h3, h4⟩ := h
  refine ⟨ao, cap, h1, h2, h3, fun hne => ?_⟩
  obtain ⟨b, off, h5, h6, h7⟩ := h4 hne
  exact ⟨b, off, h5, by omega, fun i hi => (hb.cell (p := ⟨b, off + i, none⟩) h6).trans (h7 i hi)⟩
theorem OwnI.its {w : World} {B : Nat} {v : Value} {xs : List Int} (h : OwnI w B v xs) : Its w w.heap.size v xs := by
  rcases h.2 with ⟨hv, h0⟩ | ⟨g, cap, cur, hv, hb, hg, hn, hcm, hcs, htake⟩
  · obtain rfl := List.eq_nil_of_length_eq_zero h0
    exact ⟨none, 0, hv, by simp, by simp, fun h => absurd rfl h⟩
  · refine ⟨_, cap, hv, hn, by unfold maxLen at hcm; omega, fun _ => ⟨g, 0, rfl, (Array.getElem?_eq_some_iff.1 hg).1, fun i hi => ?_⟩⟩
    rw [Nat.zero_add, cell_of_row w g i cur _ _ hg]
    have h3 : (xs.map (Value.int .i64))[i]? = some (.int .i64 (xs.getD i 0)) := by simp [List.getD, hi]
    rw [← htake, List.getElem?_take] at h3
    exact (by simpa [show i < xs.length * 1 by omega, List.getD] using h3 : i < xs.length ∧ cur[i]? = some (Value.int .i64 (xs.getD i 0))).2

theorem fromR_bad (l : List Int) (j : Nat) (h : (fromR (l.drop j)).2 ≠ 0) : fromR l = ((0, 0), (fromR (l.drop j)).2) := by
  have self : ∀ r : List Int, (fromR r).2 ≠ 0 → fromR r = ((0, 0), (fromR r).2) := by
    intro r hr
    cases r with
    | nil => exact absurd rfl hr
    | cons x r =>
      rw [fromR_cons] at hr ⊢
      by_cases h1 : (fromR r).2 = 0
      · rw [if_pos h1] at hr ⊢
        by_cases h2 : outT x
        · rw [if_pos h2]
        · rw [if_neg h2] at hr ⊢
          rw [← mkF_bad hr]
      · rw [if_neg h1]
  induction l generalizing j with
  | nil => simp at h; exact absurd rfl h
  | cons x r ih =>
    cases j with
    | zero => exact self _ h
    | succ j =>
      have h' : (fromR (r.drop j)).2 ≠ 0 := by simpa using h
      have hi := ih j h'
      have hc : (fromR r).2 = (fromR (r.drop j)).2 := by rw [hi]
      rw [fromR_cons, if_neg (by rw [hc]; exact h'), hc]
      simp
/-- one step towards the front -/
theorem fromR_step (l : List Int) (i : Nat) (hi : i < l.length) (h : (fromR (l.drop (i + 1))).2 = 0) (hpos : ∀ x ∈ l.tail, 1 ≤ x) :
    ∃ p q, fromR (l.drop (i + 1)) = ((p, q), 0) ∧ ValE p q ∧ 1 ≤ p ∧ (l.drop (i + 1) = [] → p = 1 ∧ q = 0) ∧
      fromR (l.drop i) = if 4294967294 < l.getD i 0 ∨ l.getD i 0 < -4294967294 then ((0, 0), 10) else mkF (l.getD i 0 * p + q) p := by
  have hd : l.drop i = l.getD i 0 :: l.drop (i + 1) := by
    rw [List.drop_eq_getElem_cons hi]; congr 1; simp [List.getD, hi]
  have hv := fromR_val _ h
  have hp := fromR_pos _ h (fun x hx => hpos x (by
    cases l with
    | nil => simp at hi
    | cons y r => exact List.mem_of_mem_drop (i := i) (by simpa using hx)))
  refine ⟨(fromR (l.drop (i + 1))).1.1, (fromR (l.drop (i + 1))).1.2, by rw [← h], hv, hp, fun he => by rw [he]; exact ⟨rfl, rfl⟩, ?_⟩
  rw [hd, fromR_cons, if_pos h, outT_mk hv hp]
theorem fromR_step2 (l : List Int) (i : Nat) (hi : i < l.length) {p q : Int} (h : fromR (l.drop (i + 1)) = ((p, q), 0)) (hpos : ∀ x ∈ l.tail, 1 ≤ x) :
    ValE p q ∧ 1 ≤ p ∧ fromR (l.drop i) = if outT (l.getD i 0) then ((0, 0), 10) else mkF (l.getD i 0 * p + q) p := by
  have hd : l.drop i = l.getD i 0 :: l.drop (i + 1) := by
    rw [List.drop_eq_getElem_cons hi]; congr 1; simp [List.getD, hi]
  have h0 : (fromR (l.drop (i + 1))).2 = 0 := by rw [h]
  have hv := fromR_val _ h0
  have hp := fromR_pos _ h0 (fun x hx => hpos x (by
    cases l with
    | nil => simp at hi
    | cons y r => exact List.mem_of_mem_drop (i := i) (by simpa using hx)))
  rw [h] at hv hp
  refine ⟨hv, hp, ?_⟩
  rw [hd, fromR_cons, if_pos h0, h]
theorem val_bd {p q : Int} (h : ValE p q) : -2147483647 ≤ p ∧ p ≤ 2147483647 ∧ 0 ≤ q ∧ q ≤ 2147483647 := by
  rcases h with ⟨h1, h2⟩ | h
  · omega
  · have := h.1; have := h.2.1; have := h.2.2.1; have := h.2.2.2.1; omega
theorem step_bd {x p : Int} (h1 : 1 ≤ p) (h2 : p ≤ 2147483647) (h3 : -4294967296 ≤ x) (h4 : x ≤ 4294967296) : -9223372032559808512 ≤ x * p ∧ x * p ≤ 9223372032559808512 := by
  have e1 : x * p ≤ 4294967296 * p := Int.mul_le_mul_of_nonneg_right h4 (by omega)
  have e2 : -4294967296 * p ≤ x * p := Int.mul_le_mul_of_nonneg_right h3 (by omega)
  omega
theorem fromF_no {l : List Int} {k : Nat} (hk : k < l.tail.length) (h : l.tail.getD k 0 < 1) : fromF l = ((0, 0), 11) := by
  unfold fromF
  by_cases hl : l = []
  · rw [if_pos hl]
  · rw [if_neg hl, if_neg]
    intro ha
    have := List.all_eq_true.1 ha (l.tail.getD k 0) (by rw [List.getD_eq_getElem?_getD, List.getElem?_eq_getElem hk]; exact List.getElem_mem hk)
    have := of_decide_eq_true this
    omega
theorem fromF_yes {l : List Int} (hl : l ≠ []) (h : ∀ j, j < l.tail.length → 1 ≤ l.tail.getD j 0) : fromF l = fromR l ∧ ∀ x ∈ l.tail, 1 ≤ x := by
  have ha : ∀ x ∈ l.tail, 1 ≤ x := by
    intro x hx
    obtain ⟨j, hj, rfl⟩ := List.getElem_of_mem hx
    have := h j hj
    rw [List.getD_eq_getElem?_getD, List.getElem?_eq_getElem hj] at this
    exact this
  refine ⟨?_, ha⟩
  unfold fromF
  rw [if_neg hl, if_pos]
  exact List.all_eq_true.2 fun x hx => decide_eq_true (ha x hx)
theorem getD_tail (l : List Int) (k : Nat) : l.tail.getD k 0 = l.getD (k + 1) 0 := by cases l <;> simp [List.getD]

/-- l[1:] -/
theorem el_i64 : Tryd.prog.elem 41 = 2 := by kernel_rfl
set_option maxRecDepth 100000 in
theorem cut_one (b off n cap : Nat) (hn : 0 < n) (hc : n ≤ cap) : ∃ off', (n - 1 = 0 ∨ off' = off + 1) ∧
    ∀ (W : World) (kl : IntKind), (Instr.slice 41 (.slice (some ⟨b, off, none⟩) n cap) (some (.int kl 1)) none none).run Tryd.prog W = .ok (.slice (some ⟨b, off', none⟩) (n - 1) (cap - 1)) W := by
  have a0 : (0 : Int) ≤ 1 := by omega
  have a1 : (1 : Int) ≤ (n : Int) := by omega
  have hone : ∀ W, (sizeOf (Tryd.prog.elem 41)).run Tryd.prog W = .ok 1 W := fun W => by kernel_rfl
  by_cases h : cap = 1
  · refine ⟨off, .inl (by omega), fun W kl => ?_⟩
    rw [run_slice_l W 41 _ n cap (by rw [el_i64]; exact Tryd.underlying41) kl 1 a0 a1, hone]
    simp [sliced, Result.andThen, h]
  · refine ⟨off + 1, .inr rfl, fun W kl => ?_⟩
    rw [run_slice_l W 41 _ n cap (by rw [el_i64]; exact Tryd.underlying41) kl 1 a0 a1, hone]
    simp [sliced, Result.andThen, h, Addr.add]

theorem Box2.step {w W W' : World} {p q : Int} (h : Box2 w p q W) (hb : Below W.heap.size W W') : Box2 w p q W' :=
  ⟨h.low.trans (hb.mono h.low.size), Nat.le_trans h.size hb.size, stays h.r hb, stays h.f hb⟩

set_option maxRecDepth 100000 in
set_option maxHeartbeats 4000000 in
theorem from_any (v : Value) (l : List Int) (w : World) (h : Its w w.heap.size v l) :
    Calls Tryd.prog 35 #[v] w fun e w' => e = .returned (mkV (fromF l)) ∧ Below w.heap.size w w' := by
  obtain ⟨ao, cap, rfl, hcap, hm, hl⟩ := h
  by_cases hne : l = []
  · subst hne
    have hF : fromF [] = ((0, 0), 11) := rfl
    rw [hF]
    clear hF
    go_enter Tryd.func35, Tryd.ntmps35
    go_wp2
    exact bodyPost_ret (v := mkV ((0, 0), 11)) (by simp [results, Tryd.results35, go_sem]) rfl ⟨rfl, (Below.refl _ _).alloc (Nat.le_refl _) _⟩
  · obtain ⟨b, off, rfl, hb, hc⟩ := hl hne
    have hpos : 0 < l.length := List.length_pos_iff.2 hne
    obtain ⟨off', ho, hsl⟩ := cut_one b off l.length cap hpos hcap
    have htl : l.tail.length = l.length - 1 := by simp
    have hc' : ∀ j, j < l.length - 1 → w.cell? ⟨b, off' + j, none⟩ = some (.int .i64 (l.tail.getD j 0)) := by
      intro j hj
      obtain rfl : off' = off + 1 := by omega
      have := hc (j + 1) (by omega)
      rw [getD_tail, ← this]
      congr 2; omega
    have HC := Lib.hid hc
    have HC' := Lib.hid hc'
    have HNE := Lib.hid hne
    have HTL := Lib.hid htl
    clear hc hc' hne htl ho hl
    obtain ⟨n, hn⟩ : ∃ n, n = l.length := ⟨_, rfl⟩
    rw [← hn] at hsl hcap hm hpos HC HC' HTL ⊢
    have HN := Lib.hid hn
    clear hn
    obtain ⟨m, rfl⟩ : ∃ m, n = m + 1 := ⟨n - 1, by omega⟩
    have HL0 := Lib.hid (bel_alloc (B := w.heap.size) (o := .cells #[.int .i64 0, .int .i64 0] 23) (Below.refl w.heap.size w) (Nat.le_refl _))
    have e1 : m + 1 - 1 = m := by omega
    rw [e1] at hsl HC' HTL
    have e2 : (((m + 1 : Nat) : Int) == 0) = false := by rw [beq_eq_false_iff_ne]; omega
    clear e1
    go_enter Tryd.func35, Tryd.ntmps35
    go_wp2
    go_loop [18] (fun i => ∃ k : Nat, k ≤ m ∧ i = .int .i64 (k : Int) ∧ Hid (∀ j, j < k → 1 ≤ l.tail.getD j 0)) (fun i => m - (intOf i).toNat)
    case atStart => exact ⟨0, Nat.zero_le _, rfl, fun j hj => absurd hj (Nat.not_lt_zero _)⟩
    case round =>
      obtain ⟨k, hk, rfl, HK⟩ := hrel
      by_cases hlt : k < m
      · have hx := HC'.out k hlt
        have hx2 := (HL0.out.cell (p := ⟨b, off' + k, none⟩) hb).trans hx
        obtain ⟨x, hxe⟩ : ∃ x, x = l.tail.getD k 0 := ⟨_, rfl⟩
        rw [← hxe] at hx hx2
        have HX := Lib.hid hxe
        clear hxe hx
        by_cases h1 : x < 1
        · have HF := Lib.hid (fromF_no (l := l) (k := k) (by rw [HTL.out]; exact hlt) (by rw [← HX.out]; exact h1))
          go_wp2
          exact bodyPost_ret (v := mkV ((0, 0), 11)) (by simp [results, Tryd.results35, go_sem]) rfl ⟨by rw [HF.out], (Below.refl _ _).alloc (Nat.le_refl _) _⟩
        · have HK2 : Hid (∀ j, j < k + 1 → 1 ≤ l.tail.getD j 0) := fun j hj => by
            rcases Nat.lt_or_ge j k with h | h
            · exact HK.out j h
            · obtain rfl : j = k := by omega
              rw [← HX.out]; omega
          go_wp2
          go_round
          case rel => exact ⟨k + 1, by omega, by go_num, HK2⟩
          case measure => simp [intOf]; omega
      · obtain rfl : k = m := by omega
        obtain ⟨hf, hall⟩ := fromF_yes HNE.out (fun j hj => HK.out j (by rw [← HTL.out]; exact hj))
        have HF := Lib.hid hf
        have HA := Lib.hid hall
        have HS0 := Lib.hid (Box2.start w 0 0)
        clear hf hall hlt hk HK
        go_wp2
        go_loopw [7] (fun i wr => ∃ (j : Nat) (z : Int), i = .int .i64 z ∧ -1 ≤ z ∧ z ≤ 9223372036854775806 ∧ Hid (j ≤ k + 1 ∧ z + 1 = j) ∧ Hid ((fromR (l.drop j)).2 = 0) ∧ Hid (Box2 w (if j = k + 1 then 0 else (fromR (l.drop j)).1.1) (if j = k + 1 then 0 else (fromR (l.drop j)).1.2) wr)) (fun i _ => (intOf i + 1).toNat)
        case atStart => exact ⟨k + 1, _, rfl, by omega, by omega, ⟨Nat.le_refl _, by omega⟩, (by show _ = _; rw [List.drop_eq_nil_of_le (by have := HN.out; omega)]; rfl), (by show Box2 _ _ _ _; rw [if_pos rfl, if_pos rfl]; exact HS0.out)⟩
        case round =>
          obtain ⟨j, z, rfl, hz1, hz2, HJ, HO, HB⟩ := hrel
          by_cases hj : j = 0
          · subst hj
            obtain rfl : z = -1 := by have := HJ.out; omega
            obtain ⟨p, hp⟩ : ∃ p, p = (fromR l).1.1 := ⟨_, rfl⟩
            obtain ⟨q, hq⟩ : ∃ q, q = (fromR l).1.2 := ⟨_, rfl⟩
            have HB2 : Hid (Box2 w p q wr) := by
              have := HB.out
              rw [if_neg (by omega), if_neg (by omega)] at this
              rw [hp, hq]; exact this
            have HT : Hid (fromF l = ((p, q), 0)) := by
              show _ = _
              rw [HF.out, hp, hq]
              have h0 : (fromR l).2 = 0 := HO.out
              rw [← h0]
            clear HB hp hq
            have r0 : wr.cell? ⟨w.heap.size, 0, none⟩ = some (.int .i64 0) := cell_of_row _ _ 0 _ _ _ HB2.out.r
            have r1 : wr.cell? ⟨w.heap.size, 1, none⟩ = some (.int .i64 0) := cell_of_row _ _ 1 _ _ _ HB2.out.r
            have f0 : wr.cell? ⟨w.heap.size + 1, 0, none⟩ = some (.int .i64 p) := cell_of_row _ _ 0 _ _ _ HB2.out.f
            have f1 : wr.cell? ⟨w.heap.size + 1, 1, none⟩ = some (.int .i64 q) := cell_of_row _ _ 1 _ _ _ HB2.out.f
            have q0 := frozen_of_row _ _ 0 _ _ HB2.out.r
            have q1 := frozen_of_row _ _ 1 _ _ HB2.out.r
            go_wp2
            exact bodyPost_ret (v := mkV ((p, q), 0)) (by simp [results, Tryd.results35, go_sem, *]) rfl ⟨by rw [HT.out], bel_set (Nat.le_refl _) (bel_set (Nat.le_refl _) HB2.out.low)⟩
          · obtain ⟨i, rfl⟩ : ∃ i, j = i + 1 := ⟨j - 1, by omega⟩
            obtain ⟨hjm, hjz⟩ := HJ.out
            obtain rfl : z = (i : Int) := by omega
            have him : (i : Int) < (k : Int) + 1 := by omega
            have hca := (HB.out.low.cell (p := ⟨b, off + i, none⟩) hb).trans (HC.out i (by omega))
            obtain ⟨p, q, hr, hv, hp1, hend, hst⟩ := fromR_step l i (by have := HN.out; omega) HO.out HA.out
            have hbd := val_bd hv
            have hpq : (if i + 1 = k + 1 then 0 else (fromR (l.drop (i + 1))).1.1) = (if i = k then 0 else p) ∧ (if i + 1 = k + 1 then 0 else (fromR (l.drop (i + 1))).1.2) = (if i = k then 0 else q) := by
              rw [hr]; by_cases h : i = k
              · rw [if_pos h, if_pos (by omega), if_pos h, if_pos (by omega)]; exact ⟨rfl, rfl⟩
              · rw [if_neg h, if_neg (by omega), if_neg h, if_neg (by omega)]; exact ⟨rfl, rfl⟩
            rw [hpq.1, hpq.2] at HB
            obtain ⟨x, hxe⟩ : ∃ x, x = l.getD i 0 := ⟨_, rfl⟩
            rw [← hxe] at hst hca
            have HBAD := Lib.hid (fromR_bad l i)
            have HST := Lib.hid hst
            have HEND : Hid (i = k → p = 1 ∧ q = 0) := fun h => hend (List.drop_eq_nil_of_le (by have := HN.out; omega))
            clear hst hend hr hv hpq hxe hjm hjz hj HJ HO
            obtain ⟨hp2, hp3, hq2, hq3⟩ := hbd
            have q0 : wr.frozen? ⟨w.heap.size, 0, none⟩ = false := frozen_of_row _ _ 0 _ _ HB.out.r
            have q1 : wr.frozen? ⟨w.heap.size, 1, none⟩ = false := frozen_of_row _ _ 1 _ _ HB.out.r
            have r0 : wr.cell? ⟨w.heap.size, 0, none⟩ = some (.int .i64 0) := cell_of_row _ _ 0 _ _ _ HB.out.r
            have r1 : wr.cell? ⟨w.heap.size, 1, none⟩ = some (.int .i64 0) := cell_of_row _ _ 1 _ _ _ HB.out.r
            have t0 : wr.frozen? ⟨w.heap.size + 1, 0, none⟩ = false := frozen_of_row _ _ 0 _ _ HB.out.f
            have t1 : wr.frozen? ⟨w.heap.size + 1, 1, none⟩ = false := frozen_of_row _ _ 1 _ _ HB.out.f
            have OUT : Hid (4294967294 < x ∨ x < -4294967294 → fromF l = ((0, 0), 10)) := fun h => by
              have h2 := HST.out
              rw [if_pos h] at h2
              have := HBAD.out (by rw [h2]; decide)
              rw [HF.out, this, h2]
            by_cases hx1 : x < -4294967294
            · have HT := Lib.hid (OUT.out (.inr hx1))
              go_wp2
              exact bodyPost_ret (v := mkV ((0, 0), 10)) (by simp [results, Tryd.results35, go_sem, *]) rfl ⟨by rw [HT.out], bel_set (Nat.le_refl _) (bel_set (Nat.le_refl _) HB.out.low)⟩
            by_cases hx2 : 4294967294 < x
            · have HT := Lib.hid (OUT.out (.inl hx2))
              go_wp2
              exact bodyPost_ret (v := mkV ((0, 0), 10)) (by simp [results, Tryd.results35, go_sem, *]) rfl ⟨by rw [HT.out], bel_set (Nat.le_refl _) (bel_set (Nat.le_refl _) HB.out.low)⟩
            have HS2 : Hid (fromR (l.drop i) = mkF (x * p + q) p) := by have h2 := HST.out; rw [if_neg (by omega)] at h2; exact h2
            have hxp := step_bd hp1 hp3 (show -4294967296 ≤ x by omega) (by omega)
            obtain ⟨⟨⟨gn, gd⟩, c⟩, hm⟩ : ∃ s, mkF (x * p + q) p = s := ⟨_, rfl⟩
            have hmc : c ≠ 0 → fromF l = ((0, 0), c) := fun hc => by
              have h2 := HS2.out
              rw [hm] at h2
              have := HBAD.out (by rw [h2]; exact hc)
              rw [HF.out, this, h2]
            have HMC := Lib.hid hmc
            have HS3 : Hid (fromR (l.drop i) = ((gn, gd), c)) := HS2.out.trans hm
            have hmk : ∀ W, _ := fun W => make_any (x * p + q) p W (by omega) (by omega) (by omega) (by omega)
            rw [hm] at hmk
            clear hm hmc HST OUT HBAD HS2
            by_cases hik : i = k
            · obtain ⟨rfl, rfl⟩ := HEND.out hik
              rw [if_pos hik, if_pos hik] at HB
              have e3 : x * 1 + 0 = x := by omega
              rw [e3] at hmk
              subst hik
              have e4 : ((i : Int) == (i : Int)) = true := by simp
              have f0 : wr.cell? ⟨w.heap.size + 1, 0, none⟩ = some (.int .i64 0) := cell_of_row _ _ 0 _ _ _ HB.out.f
              have f1 : wr.cell? ⟨w.heap.size + 1, 1, none⟩ = some (.int .i64 0) := cell_of_row _ _ 1 _ _ _ HB.out.f
              clear e3 HEND hxp
              have HB1 := Lib.hid (HB.out.set x 1)
              have g0 := cell_of_row _ _ 0 _ _ _ HB1.out.f
              have g1 := cell_of_row _ _ 1 _ _ _ HB1.out.f
              go_wp2_with (fail)
              refine (hmk _).mono ?_
              rintro e w3 ⟨rfl, hB⟩
              simp only [mkV]
              have HB2 := Lib.hid (HB1.out.step hB)
              clear hB g0 g1 hmk
              obtain ⟨gN, kG⟩ := box_new w3 gn gd
              have HB3 := Lib.hid (HB2.out.step gN)
              have HGN := Lib.hid gN
              have u0 := frO_0 kG
              have u1 := frO_1 kG
              have q0 : (w3.alloc (.cells #[.int .i64 gn, .int .i64 gd] 23)).frozen? ⟨w.heap.size, 0, none⟩ = false := frozen_of_row _ _ 0 _ _ HB3.out.r
              have q1 : (w3.alloc (.cells #[.int .i64 gn, .int .i64 gd] 23)).frozen? ⟨w.heap.size, 1, none⟩ = false := frozen_of_row _ _ 1 _ _ HB3.out.r
              have r0 : (w3.alloc (.cells #[.int .i64 gn, .int .i64 gd] 23)).cell? ⟨w.heap.size, 0, none⟩ = some (.int .i64 0) := cell_of_row _ _ 0 _ _ _ HB3.out.r
              have r1 : (w3.alloc (.cells #[.int .i64 gn, .int .i64 gd] 23)).cell? ⟨w.heap.size, 1, none⟩ = some (.int .i64 0) := cell_of_row _ _ 1 _ _ _ HB3.out.r
              have f0 : (w3.alloc (.cells #[.int .i64 gn, .int .i64 gd] 23)).cell? ⟨w.heap.size + 1, 0, none⟩ = some (.int .i64 x) := cell_of_row _ _ 0 _ _ _ HB3.out.f
              have f1 : (w3.alloc (.cells #[.int .i64 gn, .int .i64 gd] 23)).cell? ⟨w.heap.size + 1, 1, none⟩ = some (.int .i64 1) := cell_of_row _ _ 1 _ _ _ HB3.out.f
              have t0 : (w3.alloc (.cells #[.int .i64 gn, .int .i64 gd] 23)).frozen? ⟨w.heap.size + 1, 0, none⟩ = false := frozen_of_row _ _ 0 _ _ HB3.out.f
              have t1 : (w3.alloc (.cells #[.int .i64 gn, .int .i64 gd] 23)).frozen? ⟨w.heap.size + 1, 1, none⟩ = false := frozen_of_row _ _ 1 _ _ HB3.out.f
              clear gN kG
              by_cases hc0 : c = 0
              · subst hc0
                go_wp2
                go_roundw
                case rel => exact ⟨i, (i : Int) - 1, rfl, by omega, by omega, ⟨by omega, by omega⟩, (by show _ = _; rw [HS3.out]), (by show Box2 _ _ _ _; rw [if_neg (by omega), if_neg (by omega), HS3.out]; exact HB3.out.set _ _)⟩
                case measure => simp [intOf]
              · have hcb : (c != 0) = true := by rw [bne_iff_ne]; exact hc0
                have HT := Lib.hid (HMC.out hc0)
                clear hc0
                go_wp2
                exact bodyPost_ret (v := mkV ((0, 0), c)) (by simp [results, Tryd.results35, go_sem, *]) rfl ⟨by rw [HT.out], bel_set (Nat.le_refl _) (bel_set (Nat.le_refl _) HB3.out.low)⟩
            · rw [if_neg hik, if_neg hik] at HB
              have e4 : ((i : Int) == (k : Int)) = false := by rw [beq_eq_false_iff_ne]; omega
              have f0 : wr.cell? ⟨w.heap.size + 1, 0, none⟩ = some (.int .i64 p) := cell_of_row _ _ 0 _ _ _ HB.out.f
              have f1 : wr.cell? ⟨w.heap.size + 1, 1, none⟩ = some (.int .i64 q) := cell_of_row _ _ 1 _ _ _ HB.out.f
              obtain ⟨hxp1, hxp2⟩ := hxp
              clear HEND hik
              have HB1 := Lib.hid (HB.out.set (x * p + q) p)
              have g0 := cell_of_row _ _ 0 _ _ _ HB1.out.f
              have g1 := cell_of_row _ _ 1 _ _ _ HB1.out.f
              go_wp2_with (fail)
              refine (hmk _).mono ?_
              rintro e w3 ⟨rfl, hB⟩
              simp only [mkV]
              have HB2 := Lib.hid (HB1.out.step hB)
              clear hB g0 g1 hmk
              obtain ⟨gN, kG⟩ := box_new w3 gn gd
              have HB3 := Lib.hid (HB2.out.step gN)
              have HGN := Lib.hid gN
              have u0 := frO_0 kG
              have u1 := frO_1 kG
              have q0 : (w3.alloc (.cells #[.int .i64 gn, .int .i64 gd] 23)).frozen? ⟨w.heap.size, 0, none⟩ = false := frozen_of_row _ _ 0 _ _ HB3.out.r
              have q1 : (w3.alloc (.cells #[.int .i64 gn, .int .i64 gd] 23)).frozen? ⟨w.heap.size, 1, none⟩ = false := frozen_of_row _ _ 1 _ _ HB3.out.r
              have r0 : (w3.alloc (.cells #[.int .i64 gn, .int .i64 gd] 23)).cell? ⟨w.heap.size, 0, none⟩ = some (.int .i64 0) := cell_of_row _ _ 0 _ _ _ HB3.out.r
              have r1 : (w3.alloc (.cells #[.int .i64 gn, .int .i64 gd] 23)).cell? ⟨w.heap.size, 1, none⟩ = some (.int .i64 0) := cell_of_row _ _ 1 _ _ _ HB3.out.r
              have f0 : (w3.alloc (.cells #[.int .i64 gn, .int .i64 gd] 23)).cell? ⟨w.heap.size + 1, 0, none⟩ = some (.int .i64 (x * p + q)) := cell_of_row _ _ 0 _ _ _ HB3.out.f
              have f1 : (w3.alloc (.cells #[.int .i64 gn, .int .i64 gd] 23)).cell? ⟨w.heap.size + 1, 1, none⟩ = some (.int .i64 p) := cell_of_row _ _ 1 _ _ _ HB3.out.f
              have t0 : (w3.alloc (.cells #[.int .i64 gn, .int .i64 gd] 23)).frozen? ⟨w.heap.size + 1, 0, none⟩ = false := frozen_of_row _ _ 0 _ _ HB3.out.f
              have t1 : (w3.alloc (.cells #[.int .i64 gn, .int .i64 gd] 23)).frozen? ⟨w.heap.size + 1, 1, none⟩ = false := frozen_of_row _ _ 1 _ _ HB3.out.f
              clear gN kG
              by_cases hc0 : c = 0
              · subst hc0
                go_wp2
                go_roundw
                case rel => exact ⟨i, (i : Int) - 1, rfl, by omega, by omega, ⟨by omega, by omega⟩, (by show _ = _; rw [HS3.out]), (by show Box2 _ _ _ _; rw [if_neg (by omega), if_neg (by omega), HS3.out]; exact HB3.out.set _ _)⟩
                case measure => simp [intOf]
              · have hcb : (c != 0) = true := by rw [bne_iff_ne]; exact hc0
                have HT := Lib.hid (HMC.out hc0)
                clear hc0
                go_wp2
                exact bodyPost_ret (v := mkV ((0, 0), c)) (by simp [results, Tryd.results35, go_sem, *]) rfl ⟨by rw [HT.out], bel_set (Nat.le_refl _) (bel_set (Nat.le_refl _) HB3.out.low)⟩

set_option maxRecDepth 100000 in
set_option maxHeartbeats 4000000 in
theorem rfrom_any (v : Value) (l : List Int) (w : World) (h : Its w w.heap.size v l) :
    Calls Tryd.prog 36 #[v] w fun e w' => e = .returned (mkV (fromF l)) ∧ Below w.heap.size w w' := by
  obtain ⟨ao, cap, rfl, hcap, hm, hl⟩ := h
  by_cases hne : l = []
  · subst hne
    have hF : fromF [] = ((0, 0), 11) := rfl
    rw [hF]
    clear hF
    go_enter Tryd.func36, Tryd.ntmps36
    go_wp2
    exact bodyPost_ret (v := mkV ((0, 0), 11)) (by simp [results, Tryd.results36, go_sem]) rfl ⟨rfl, (Below.refl _ _).alloc (Nat.le_refl _) _⟩
  · obtain ⟨b, off, rfl, hb, hc⟩ := hl hne
    have hpos : 0 < l.length := List.length_pos_iff.2 hne
    have htl : l.tail.length = l.length - 1 := by simp
    have HC := Lib.hid hc
    have HNE := Lib.hid hne
    have HTL := Lib.hid htl
    clear hc hne htl hl
    obtain ⟨n, hn⟩ : ∃ n, n = l.length := ⟨_, rfl⟩
    rw [← hn] at hcap hm hpos HC HTL ⊢
    have HN := Lib.hid hn
    clear hn
    have e2 : ((n : Int) == 0) = false := by rw [beq_eq_false_iff_ne]; omega
    obtain ⟨L0, K0⟩ := box_new w 0 0
    have HL0 := Lib.hid L0
    have HK0 := Lib.hid K0
    clear L0 K0
    have z0 := cell_of_row _ _ 0 _ _ _ HK0.out
    have z1 := cell_of_row _ _ 1 _ _ _ HK0.out
    go_enter Tryd.func36, Tryd.ntmps36
    go_wp2
    go_loop [4] (fun i => ∃ k : Nat, 1 ≤ k ∧ k ≤ n ∧ i = .int .i64 (k : Int) ∧ Hid (∀ j, j < k - 1 → 1 ≤ l.tail.getD j 0)) (fun i => n - (intOf i).toNat)
    case atStart => exact ⟨1, Nat.le_refl _, by omega, rfl, fun j hj => absurd hj (Nat.not_lt_zero _)⟩
    case round =>
      obtain ⟨k, hk1, hk, rfl, HK⟩ := hrel
      by_cases hlt : k < n
      · have hx := HC.out k hlt
        have hx2 := (HL0.out.cell (p := ⟨b, off + k, none⟩) hb).trans hx
        obtain ⟨x, hxe⟩ : ∃ x, x = l.getD k 0 := ⟨_, rfl⟩
        rw [← hxe] at hx hx2
        have HX : Hid (x = l.tail.getD (k - 1) 0) := by show _ = _; rw [getD_tail, hxe]; congr 1; omega
        clear hxe hx
        by_cases h1 : x < 1
        · have HF := Lib.hid (fromF_no (l := l) (k := k - 1) (by rw [HTL.out]; omega) (by rw [← HX.out]; exact h1))
          go_wp2
          exact bodyPost_ret (v := mkV ((0, 0), 11)) (by simp [results, Tryd.results36, go_sem]) rfl ⟨by rw [HF.out], (Below.refl _ _).alloc (Nat.le_refl _) _⟩
        · have HK2 : Hid (∀ j, j < k + 1 - 1 → 1 ≤ l.tail.getD j 0) := fun j hj => by
            rcases Nat.lt_or_ge j (k - 1) with h | h
            · exact HK.out j h
            · obtain rfl : j = k - 1 := by omega
              rw [← HX.out]; omega
          go_wp2
          go_round
          case rel => exact ⟨k + 1, by omega, by omega, by go_num, HK2⟩
          case measure => simp [intOf]; omega
      · obtain rfl : k = n := by omega
        obtain ⟨hf, hall⟩ := fromF_yes HNE.out (fun j hj => HK.out j (by rw [← HTL.out]; exact hj))
        have HF := Lib.hid hf
        have HA := Lib.hid hall
        have HS0 : Hid (Below w.heap.size w (w.alloc (.cells #[.int .i64 0, .int .i64 0] 23)) ∧ (w.alloc (.cells #[.int .i64 0, .int .i64 0] 23)).heap[w.heap.size]? = some (frO 0 0)) := ⟨HL0.out, HK0.out⟩
        clear hf hall hlt hk HK z0 z1
        go_wp2
        go_loopw [5, 6, 7] (fun nv dv i wr => ∃ (j : Nat) (z p q : Int), nv = .int .i64 p ∧ dv = .int .i64 q ∧ i = .int .i64 z ∧ 0 ≤ z ∧ z ≤ 9223372036854775806 ∧ Hid (j ≤ k ∧ z + 1 = j) ∧ Hid (fromR (l.drop j) = ((p, q), 0)) ∧ Hid (Below w.heap.size w wr ∧ wr.heap[w.heap.size]? = some (frO 0 0))) (fun _ _ i _ => (intOf i + 1).toNat)
        case atStart => exact ⟨k, (k : Int) - 1, 1, 0, rfl, rfl, rfl, by omega, by omega, ⟨Nat.le_refl _, by omega⟩, (by show _ = _; rw [List.drop_eq_nil_of_le (by have := HN.out; omega)]; rfl), HS0⟩
        case round =>
          obtain ⟨j, z, p, q, rfl, rfl, rfl, hz1, hz2, HJ, HR, HB⟩ := hrel
          obtain ⟨i, rfl⟩ : ∃ i, j = i + 1 := ⟨j - 1, by have := HJ.out; omega⟩
          obtain ⟨hjm, hjz⟩ := HJ.out
          obtain rfl : z = (i : Int) := by omega
          have him : (i : Int) < (k : Int) := by omega
          have hca := (HB.out.1.cell (p := ⟨b, off + i, none⟩) hb).trans (HC.out i (by omega))
          obtain ⟨hv, hp1, hst⟩ := fromR_step2 l i (by have := HN.out; omega) HR.out HA.out
          obtain ⟨hp2, hp3, hq2, hq3⟩ := val_bd hv
          obtain ⟨x, hxe⟩ : ∃ x, x = l.getD i 0 := ⟨_, rfl⟩
          rw [← hxe] at hst hca
          have HBAD := Lib.hid (fromR_bad l i)
          have HST := Lib.hid hst
          clear hst hv hxe hjm hjz HJ HR
          have q0 : wr.frozen? ⟨w.heap.size, 0, none⟩ = false := frozen_of_row _ _ 0 _ _ HB.out.2
          have q1 : wr.frozen? ⟨w.heap.size, 1, none⟩ = false := frozen_of_row _ _ 1 _ _ HB.out.2
          have r0 : wr.cell? ⟨w.heap.size, 0, none⟩ = some (.int .i64 0) := cell_of_row _ _ 0 _ _ _ HB.out.2
          have r1 : wr.cell? ⟨w.heap.size, 1, none⟩ = some (.int .i64 0) := cell_of_row _ _ 1 _ _ _ HB.out.2
          have OUT : Hid (4294967296 < x ∨ x < -4294967296 → fromF l = ((0, 0), 10)) := fun h => by
            have h2 := HST.out
            rw [if_pos (show outT x from h)] at h2
            have := HBAD.out (by rw [h2]; decide)
            rw [HF.out, this, h2]
          by_cases hx1 : 4294967296 < x
          · have HT := Lib.hid (OUT.out (.inl hx1))
            go_wp2
            exact bodyPost_ret (v := mkV ((0, 0), 10)) (by simp [results, Tryd.results36, go_sem, *]) rfl ⟨by rw [HT.out], bel_set (Nat.le_refl _) (bel_set (Nat.le_refl _) HB.out.1)⟩
          by_cases hx2 : x < -4294967296
          · have HT := Lib.hid (OUT.out (.inr hx2))
            go_wp2
            exact bodyPost_ret (v := mkV ((0, 0), 10)) (by simp [results, Tryd.results36, go_sem, *]) rfl ⟨by rw [HT.out], bel_set (Nat.le_refl _) (bel_set (Nat.le_refl _) HB.out.1)⟩
          have HS2 : Hid (fromR (l.drop i) = mkF (x * p + q) p) := by have h2 := HST.out; rw [if_neg (by unfold outT; omega)] at h2; exact h2
          obtain ⟨hxp1, hxp2⟩ := step_bd hp1 hp3 (show -4294967296 ≤ x by omega) (by omega)
          obtain ⟨⟨⟨gn, gd⟩, c⟩, hm⟩ : ∃ s, mkF (x * p + q) p = s := ⟨_, rfl⟩
          have hmc : c ≠ 0 → fromF l = ((0, 0), c) := fun hc => by
            have h2 := HS2.out
            rw [hm] at h2
            have := HBAD.out (by rw [h2]; exact hc)
            rw [HF.out, this, h2]
          have HMC := Lib.hid hmc
          have HS3 : Hid (fromR (l.drop i) = ((gn, gd), c)) := HS2.out.trans hm
          have hmk : ∀ W, _ := fun W => rmake_any (x * p + q) p W (by omega) (by omega) (by omega) (by omega)
          rw [hm] at hmk
          clear hm hmc HST OUT HBAD HS2
          go_wp2_with (fail)
          refine (hmk _).mono ?_
          rintro e w3 ⟨rfl, hB⟩
          simp only [mkV]
          have HB2 : Hid (Below w.heap.size w w3 ∧ w3.heap[w.heap.size]? = some (frO 0 0)) := ⟨HB.out.1.trans (hB.mono HB.out.1.size), stays HB.out.2 hB⟩
          clear hB hmk q0 q1 r0 r1
          obtain ⟨gN, kG⟩ := box_new w3 gn gd
          have HB3 : Hid (Below w.heap.size w (w3.alloc (.cells #[.int .i64 gn, .int .i64 gd] 23)) ∧ (w3.alloc (.cells #[.int .i64 gn, .int .i64 gd] 23)).heap[w.heap.size]? = some (frO 0 0)) := ⟨HB2.out.1.trans (gN.mono HB2.out.1.size), stays HB2.out.2 gN⟩
          have u0 := frO_0 kG
          have u1 := frO_1 kG
          have q0 : (w3.alloc (.cells #[.int .i64 gn, .int .i64 gd] 23)).frozen? ⟨w.heap.size, 0, none⟩ = false := frozen_of_row _ _ 0 _ _ HB3.out.2
          have q1 : (w3.alloc (.cells #[.int .i64 gn, .int .i64 gd] 23)).frozen? ⟨w.heap.size, 1, none⟩ = false := frozen_of_row _ _ 1 _ _ HB3.out.2
          have r0 : (w3.alloc (.cells #[.int .i64 gn, .int .i64 gd] 23)).cell? ⟨w.heap.size, 0, none⟩ = some (.int .i64 0) := cell_of_row _ _ 0 _ _ _ HB3.out.2
          have r1 : (w3.alloc (.cells #[.int .i64 gn, .int .i64 gd] 23)).cell? ⟨w.heap.size, 1, none⟩ = some (.int .i64 0) := cell_of_row _ _ 1 _ _ _ HB3.out.2
          clear gN kG
          by_cases hc0 : c = 0
          · subst hc0
            by_cases hi0 : i = 0
            · subst hi0
              have HT : Hid (fromF l = ((gn, gd), 0)) := by show _ = _; rw [HF.out]; exact HS3.out
              go_wp2
              exact bodyPost_ret (v := mkV ((gn, gd), 0)) (by simp [results, Tryd.results36, go_sem, *]) rfl ⟨by rw [HT.out], bel_set (Nat.le_refl _) (bel_set (Nat.le_refl _) HB3.out.1)⟩
            · have e4 : ((i : Int) == 0) = false := by rw [beq_eq_false_iff_ne]; omega
              have hi1 : 1 ≤ (i : Int) := by omega
              clear hi0
              go_wp2
              go_roundw
              case rel => exact ⟨i, (i : Int) - 1, gn, gd, rfl, rfl, rfl, by omega, by omega, ⟨by omega, by omega⟩, HS3, HB3⟩
              case measure => simp [intOf]
          · have hcb : (c != 0) = true := by rw [bne_iff_ne]; exact hc0
            have HT := Lib.hid (HMC.out hc0)
            clear hc0
            go_wp2
            exact bodyPost_ret (v := mkV ((0, 0), c)) (by simp [results, Tryd.results36, go_sem, *]) rfl ⟨by rw [HT.out], bel_set (Nat.le_refl _) (bel_set (Nat.le_refl _) HB3.out.1)⟩

end Go.Proofs.YtckedklopgnloaaDoor
