/- Histograms: Even on both sides (by program: wip/tools/gen_hist24.py). -/
import Derived.Test.YtghgnalbahneoaaDoorHist7
namespace Go.Proofs.YtghgnalbahneoaaDoor
open Go.RowKit

def evenF (f d : Int) (k : Nat) : List Int := (List.range k).map (fun (i : Nat) => f + d * (i : Int))
theorem evenF_length (f d : Int) (k : Nat) : (evenF f d k).length = k := by unfold evenF; simp
theorem evenF_snoc (f d : Int) (k : Nat) : evenF f d (k + 1) = evenF f d k ++ [f + d * (k : Int)] := by unfold evenF; rw [List.range_succ, List.map_append]; rfl
theorem evenF_getD (f d : Int) (k j : Nat) (h : j < k) : (evenF f d k).getD j 0 = f + d * (j : Int) := by
  unfold evenF; rw [List.getD_eq_getElem?_getD, List.getElem?_map, List.getElem?_range h]; rfl
/-- what Even answers -/
def EvenR (f d n : Int) (B : Nat) (e : Ending) (w' : World) : Prop :=
  ((n < 1 ∨ 64 < n ∨ d < 1) ∧ e = .returned (.tuple #[.slice none 0 0, .int .i64 31])) ∨
  (1 ≤ n ∧ n ≤ 64 ∧ 1 ≤ d ∧ 9223372036854775807 < f + d * (n - 1) ∧ e = .returned (.tuple #[.slice none 0 0, .int .i64 10])) ∨
  (1 ≤ n ∧ n ≤ 64 ∧ 1 ≤ d ∧ f + d * (n - 1) ≤ 9223372036854775807 ∧ ∃ v, e = .returned (.tuple #[v, .int .i64 0]) ∧ OwnI w' B v (evenF f d n.toNat))
theorem own_lit (w : World) (z : Int) : OwnI (w.alloc (.cells #[.int .i64 z] 2)) w.heap.size (.slice (some ⟨w.heap.size, 0, none⟩) 1 1) [z] :=
  ⟨rfl, .inr ⟨w.heap.size, 1, #[.int .i64 z], rfl, Nat.le_refl _, heap_alloc_new _ _, Nat.le_refl _, by unfold maxLen; omega, rfl, rfl⟩⟩
theorem mul_step (f d : Int) (k n : Nat) (hd : 1 ≤ d) (h : k + 1 ≤ n) : f + d * (k : Int) ≤ f + d * ((n : Int) - 1) := by
  have := Int.mul_le_mul_of_nonneg_left (show (k : Int) ≤ (n : Int) - 1 by omega) (show 0 ≤ d by omega)
  omega
theorem mul_ge (f d : Int) (k : Nat) (hd : 1 ≤ d) : f ≤ f + d * (k : Int) := by
  have := Int.mul_nonneg (show 0 ≤ d by omega) (show (0 : Int) ≤ (k : Int) by omega)
  omega

set_option maxRecDepth 100000 in
set_option maxHeartbeats 2000000 in
theorem even_any (f d n : Int) (w : World) (hf0 : -9223372036854775808 ≤ f) (hf1 : f ≤ 9223372036854775807) (hd1 : d ≤ 9223372036854775807) (hn0 : -9223372036854775808 ≤ n) (hn1 : n ≤ 9223372036854775807) : Calls Tryd.prog 22 #[.int .i64 f, .int .i64 d, .int .i64 n] w fun e w' => EvenR f d n w.heap.size e w' ∧ Below w.heap.size w w' := by
  have bad : (n < 1 ∨ 64 < n ∨ d < 1) → Calls Tryd.prog 22 #[.int .i64 f, .int .i64 d, .int .i64 n] w fun e w' => EvenR f d n w.heap.size e w' ∧ Below w.heap.size w w' := by
    intro h
    have HH := Lib.hid h
    rcases (show n < 1 ∨ (1 ≤ n ∧ 64 < n) ∨ (1 ≤ n ∧ n ≤ 64 ∧ d < 1) by omega) with h1 | ⟨h0, h1⟩ | ⟨h0, h1, h2⟩
    all_goals
      clear h
      go_enter Tryd.func22, Tryd.ntmps22
      go_wp2
      exact bodyPost_ret (v := .tuple #[.slice none 0 0, .int .i64 31]) (by simp [results, Tryd.results22, go_sem, *]) rfl ⟨.inl ⟨HH.out, rfl⟩, Below.refl _ _⟩
  by_cases h : n < 1 ∨ 64 < n ∨ d < 1
  · exact bad h
  clear bad
  obtain ⟨m, hm⟩ : ∃ m : Nat, n = (m : Int) := ⟨n.toNat, by omega⟩
  subst hm
  have o1 : 1 ≤ (m : Int) := by omega
  have o2 : (m : Int) ≤ 64 := by omega
  have o3 : 1 ≤ d := by omega
  clear h
  have hm1 : 1 ≤ m := by omega
  have hm64 : m ≤ 64 := by omega
  have hu : IntKind.u64.wrap (9223372036854775807 - IntKind.u64.wrap f) = 9223372036854775807 - f := by rw [IntKind.wrap_u64, IntKind.wrap_u64]; omega
  have hud : IntKind.u64.wrap d = d := by rw [IntKind.wrap_u64]; omega
  have hun : IntKind.u64.wrap ((m : Int) - 1) = (m : Int) - 1 := by rw [IntKind.wrap_u64]; omega
  have hroom : 0 ≤ 9223372036854775807 - f := by omega
  by_cases hov : 9223372036854775807 < f + d * ((m : Int) - 1)
  · have hm2 : 1 < (m : Int) := by
      rcases Nat.lt_or_ge 1 m with h | h
      · omega
      · exfalso; have : (m : Int) - 1 = 0 := by omega
        rw [this, Int.mul_zero] at hov; omega
    have hz : (m : Int) - 1 ≠ 0 := by omega
    have ht : (9223372036854775807 - f).tdiv ((m : Int) - 1) = (9223372036854775807 - f) / ((m : Int) - 1) := Int.tdiv_eq_ediv_of_nonneg hroom
    have hlt : (9223372036854775807 - f) / ((m : Int) - 1) < d := by
      have := Int.ediv_lt_of_lt_mul (a := 9223372036854775807 - f) (b := d) (c := (m : Int) - 1) (by omega) (by omega)
      exact this
    have hq0 : 0 ≤ (9223372036854775807 - f) / ((m : Int) - 1) := Int.ediv_nonneg hroom (by omega)
    have huq : IntKind.u64.wrap ((9223372036854775807 - f) / ((m : Int) - 1)) = (9223372036854775807 - f) / ((m : Int) - 1) := by rw [IntKind.wrap_u64]; omega
    have HOV := Lib.hid hov
    clear hov hm1
    go_enter Tryd.func22, Tryd.ntmps22
    go_wp2
    exact bodyPost_ret (v := .tuple #[.slice none 0 0, .int .i64 10]) (by simp [results, Tryd.results22, go_sem, *]) rfl ⟨.inr (.inl ⟨o1, o2, o3, HOV.out, rfl⟩), Below.refl _ _⟩
  · have HOV : Hid (f + d * ((m : Int) - 1) ≤ 9223372036854775807) := by show _ ≤ _; omega
    have GO : Hid (1 < (m : Int) → ¬ ((9223372036854775807 - f) / ((m : Int) - 1) < d)) := by
      intro h2 hlt
      have h3 : (9223372036854775807 - f) < d * ((m : Int) - 1) := Int.lt_mul_of_ediv_lt (by omega) hlt
      omega
    clear hov
    have h0 := own_lit w f
    have HO0 : Hid (OwnI (w.alloc (.cells #[.int .i64 f] 2)) w.heap.size (.slice (some ⟨w.heap.size, 0, none⟩) 1 1) (evenF f d 1)) := by
      have : evenF f d 1 = [f] := by unfold evenF; simp
      show OwnI _ _ _ _
      rw [this]; exact h0
    have HBW0 : Hid (Below w.heap.size w (w.alloc (.cells #[.int .i64 f] 2))) := bel_alloc (Below.refl _ _) (Nat.le_refl _)
    clear h0
    have main : Calls Tryd.prog 22 #[.int .i64 f, .int .i64 d, .int .i64 (m : Int)] w fun e w' => EvenR f d (m : Int) w.heap.size e w' ∧ Below w.heap.size w w' := by
      by_cases hm2 : 1 < (m : Int)
      · have hz : (m : Int) - 1 ≠ 0 := by omega
        have ht : (9223372036854775807 - f).tdiv ((m : Int) - 1) = (9223372036854775807 - f) / ((m : Int) - 1) := Int.tdiv_eq_ediv_of_nonneg hroom
        have hlt := GO.out hm2
        have hq0 : 0 ≤ (9223372036854775807 - f) / ((m : Int) - 1) := Int.ediv_nonneg hroom (by omega)
        have hq1 : (9223372036854775807 - f) / ((m : Int) - 1) ≤ 9223372036854775807 - f := Int.ediv_le_self _ hroom
        have huq : IntKind.u64.wrap ((9223372036854775807 - f) / ((m : Int) - 1)) = (9223372036854775807 - f) / ((m : Int) - 1) := by rw [IntKind.wrap_u64]; omega
        go_enter Tryd.func22, Tryd.ntmps22
        go_wp2
        clear hz ht hlt hq0 hq1 huq hu hud hun hroom hm2
        go_loopw [9] (fun sv wr => ∃ (k : Nat) (v : Value), 1 ≤ k ∧ k ≤ m ∧ sv = v ∧ Hid (OwnI wr w.heap.size v (evenF f d k)) ∧ Hid (Below w.heap.size w wr)) (fun sv _ => m - (match sv with | .slice _ l _ => l | _ => 0))
        case atStart => exact ⟨1, _, Nat.le_refl _, hm1, rfl, HO0, HBW0⟩
        case round =>
          obtain ⟨k, v, hk1, hk, rfl, HO, HBW⟩ := hrel
          obtain ⟨g, cap, hv, -, -, -⟩ := HO.out.blk (by rw [evenF_length]; omega)
          rw [evenF_length] at hv
          subst hv
          have hcell := OwnI.cellAt HO.out (by rw [evenF_length]) (k - 1) (by omega)
          rw [evenF_getD f d k (k - 1) (by omega)] at hcell
          by_cases hlt : k < m
          · have hlt' : (k : Int) < (m : Int) := by omega
            have hb1 := mul_step f d k m o3 (by omega)
            have hb0 := mul_ge f d k o3
            have hov := HOV.out
            have e1 : f + d * (((k - 1 : Nat) : Int)) + d = f + d * (k : Int) := by
              have : (((k - 1 : Nat) : Int)) = (k : Int) - 1 := by omega
              rw [this, Int.mul_sub, Int.mul_one]; omega
            have hw : IntKind.i64.wrap (f + d * (((k - 1 : Nat) : Int)) + d) = f + d * (k : Int) := by rw [e1, IntKind.wrap_i64]; omega
            have ek : (k : Int) - 1 = ((k - 1 : Nat) : Int) := by omega
            have hki : 0 ≤ (((k - 1 : Nat) : Int)) ∧ (((k - 1 : Nat) : Int)) < (k : Int) := by omega
            have g1 := bel_alloc (o := .cells #[.int .i64 (f + d * (k : Int))] 2) (Below.refl wr.heap.size wr) (Nat.le_refl _)
            have k1 := heap_alloc_new wr (.cells #[.int .i64 (f + d * (k : Int))] 2)
            clear hb1 hb0 hov e1
            go_wp2_with (at_builtin; (refine wpList_append_i64 rfl _ _ rfl w.heap.size _ _ rfl (HO.out.below g1) wr.heap.size (f + d * (k : Int)) rfl k1 (by rw [evenF_length]; omega) (by have := HBW.out.size; simp; omega) ?_))
            intro v' w' hown hg
            rw [← evenF_snoc] at hown
            have HBW2 : Hid (Below w.heap.size w w') := (HBW.out.alloc HBW.out.size _).grown hg (by have := HBW.out.size; simp; omega) (fun j e => by cases e; exact (World.ownsRow.lt HO.out _ rfl).1)
            have HO2 := Lib.hid hown
            obtain ⟨g2, cap2, hv2, -, -, -⟩ := hown.blk (by rw [evenF_length]; omega)
            rw [evenF_length] at hv2
            subst hv2
            clear hown hg k1 g1 hcell
            go_wp2
            go_roundw
            case rel => exact ⟨k + 1, _, by omega, by omega, rfl, HO2, HBW2⟩
            case measure => simp; omega
          · have hlt' : ¬ ((k : Int) < (m : Int)) := by omega
            have hkm : k = m := by omega
            subst hkm
            go_wp2
            exact bodyPost_ret (v := .tuple #[.slice (some ⟨g, 0, none⟩) k cap, .int .i64 0]) (by simp [results, Tryd.results22, go_sem, *]) rfl ⟨.inr (.inr ⟨o1, o2, o3, HOV.out, _, rfl, by rw [Int.toNat_natCast]; exact HO.out⟩), HBW.out⟩
      · go_enter Tryd.func22, Tryd.ntmps22
        go_wp2
        clear hu hud hun hroom hm2
        go_loopw [9] (fun sv wr => ∃ (k : Nat) (v : Value), 1 ≤ k ∧ k ≤ m ∧ sv = v ∧ Hid (OwnI wr w.heap.size v (evenF f d k)) ∧ Hid (Below w.heap.size w wr)) (fun sv _ => m - (match sv with | .slice _ l _ => l | _ => 0))
        case atStart => exact ⟨1, _, Nat.le_refl _, hm1, rfl, HO0, HBW0⟩
        case round =>
          obtain ⟨k, v, hk1, hk, rfl, HO, HBW⟩ := hrel
          obtain ⟨g, cap, hv, -, -, -⟩ := HO.out.blk (by rw [evenF_length]; omega)
          rw [evenF_length] at hv
          subst hv
          have hcell := OwnI.cellAt HO.out (by rw [evenF_length]) (k - 1) (by omega)
          rw [evenF_getD f d k (k - 1) (by omega)] at hcell
          by_cases hlt : k < m
          · have hlt' : (k : Int) < (m : Int) := by omega
            have hb1 := mul_step f d k m o3 (by omega)
            have hb0 := mul_ge f d k o3
            have hov := HOV.out
            have e1 : f + d * (((k - 1 : Nat) : Int)) + d = f + d * (k : Int) := by
              have : (((k - 1 : Nat) : Int)) = (k : Int) - 1 := by omega
              rw [this, Int.mul_sub, Int.mul_one]; omega
            have hw : IntKind.i64.wrap (f + d * (((k - 1 : Nat) : Int)) + d) = f + d * (k : Int) := by rw [e1, IntKind.wrap_i64]; omega
            have ek : (k : Int) - 1 = ((k - 1 : Nat) : Int) := by omega
            have hki : 0 ≤ (((k - 1 : Nat) : Int)) ∧ (((k - 1 : Nat) : Int)) < (k : Int) := by omega
            have g1 := bel_alloc (o := .cells #[.int .i64 (f + d * (k : Int))] 2) (Below.refl wr.heap.size wr) (Nat.le_refl _)
            have k1 := heap_alloc_new wr (.cells #[.int .i64 (f + d * (k : Int))] 2)
            clear hb1 hb0 hov e1
            go_wp2_with (at_builtin; (refine wpList_append_i64 rfl _ _ rfl w.heap.size _ _ rfl (HO.out.below g1) wr.heap.size (f + d * (k : Int)) rfl k1 (by rw [evenF_length]; omega) (by have := HBW.out.size; simp; omega) ?_))
            intro v' w' hown hg
            rw [← evenF_snoc] at hown
            have HBW2 : Hid (Below w.heap.size w w') := (HBW.out.alloc HBW.out.size _).grown hg (by have := HBW.out.size; simp; omega) (fun j e => by cases e; exact (World.ownsRow.lt HO.out _ rfl).1)
            have HO2 := Lib.hid hown
            obtain ⟨g2, cap2, hv2, -, -, -⟩ := hown.blk (by rw [evenF_length]; omega)
            rw [evenF_length] at hv2
            subst hv2
            clear hown hg k1 g1 hcell
            go_wp2
            go_roundw
            case rel => exact ⟨k + 1, _, by omega, by omega, rfl, HO2, HBW2⟩
            case measure => simp; omega
          · have hlt' : ¬ ((k : Int) < (m : Int)) := by omega
            have hkm : k = m := by omega
            subst hkm
            go_wp2
            exact bodyPost_ret (v := .tuple #[.slice (some ⟨g, 0, none⟩) k cap, .int .i64 0]) (by simp [results, Tryd.results22, go_sem, *]) rfl ⟨.inr (.inr ⟨o1, o2, o3, HOV.out, _, rfl, by rw [Int.toNat_natCast]; exact HO.out⟩), HBW.out⟩
    exact main

set_option maxRecDepth 100000 in
set_option maxHeartbeats 2000000 in
theorem reven_any (f d n : Int) (w : World) (hf0 : -9223372036854775808 ≤ f) (hf1 : f ≤ 9223372036854775807) (hd1 : d ≤ 9223372036854775807) (hn0 : -9223372036854775808 ≤ n) (hn1 : n ≤ 9223372036854775807) : Calls Tryd.prog 23 #[.int .i64 f, .int .i64 d, .int .i64 n] w fun e w' => EvenR f d n w.heap.size e w' ∧ Below w.heap.size w w' := by
  have bad : (n < 1 ∨ 64 < n ∨ d < 1) → Calls Tryd.prog 23 #[.int .i64 f, .int .i64 d, .int .i64 n] w fun e w' => EvenR f d n w.heap.size e w' ∧ Below w.heap.size w w' := by
    intro h
    have HH := Lib.hid h
    rcases (show n < 1 ∨ (1 ≤ n ∧ 64 < n) ∨ (1 ≤ n ∧ n ≤ 64 ∧ d < 1) by omega) with h1 | ⟨h0, h1⟩ | ⟨h0, h1, h2⟩
    all_goals
      clear h
      go_enter Tryd.func23, Tryd.ntmps23
      go_wp2
      exact bodyPost_ret (v := .tuple #[.slice none 0 0, .int .i64 31]) (by simp [results, Tryd.results23, go_sem, *]) rfl ⟨.inl ⟨HH.out, rfl⟩, Below.refl _ _⟩
  by_cases h : n < 1 ∨ 64 < n ∨ d < 1
  · exact bad h
  clear bad
  obtain ⟨m, hm⟩ : ∃ m : Nat, n = (m : Int) := ⟨n.toNat, by omega⟩
  subst hm
  have o1 : 1 ≤ (m : Int) := by omega
  have o2 : (m : Int) ≤ 64 := by omega
  have o3 : 1 ≤ d := by omega
  clear h
  have hm1 : 1 ≤ m := by omega
  have hm64 : m ≤ 64 := by omega
  have h0 := own_lit w f
  have HO0 : Hid (OwnI (w.alloc (.cells #[.int .i64 f] 2)) w.heap.size (.slice (some ⟨w.heap.size, 0, none⟩) 1 1) (evenF f d 1)) := by
    have : evenF f d 1 = [f] := by unfold evenF; simp
    show OwnI _ _ _ _
    rw [this]; exact h0
  have HBW0 : Hid (Below w.heap.size w (w.alloc (.cells #[.int .i64 f] 2))) := bel_alloc (Below.refl _ _) (Nat.le_refl _)
  have HE0 : Hid (f + d * ((1 : Nat) - 1 : Int) ≤ 9223372036854775807) := by show _ ≤ _; simp; omega
  clear h0
  go_enter Tryd.func23, Tryd.ntmps23
  go_wp2
  go_loopw [8, 9] (fun sv i wr => ∃ (k : Nat) (v : Value), 1 ≤ k ∧ k ≤ m ∧ sv = v ∧ i = .int .i64 (k : Int) ∧ Hid (OwnI wr w.heap.size v (evenF f d k)) ∧ Hid (Below w.heap.size w wr) ∧ Hid (f + d * ((k : Int) - 1) ≤ 9223372036854775807)) (fun _ i _ => m - (intOf i).toNat)
  case atStart => exact ⟨1, _, Nat.le_refl _, hm1, rfl, rfl, HO0, HBW0, HE0⟩
  case round =>
    obtain ⟨k, v, hk1, hk, rfl, rfl, HO, HBW, HOV⟩ := hrel
    obtain ⟨g, cap, hv, -, -, -⟩ := HO.out.blk (by rw [evenF_length]; omega)
    rw [evenF_length] at hv
    subst hv
    have hcell := OwnI.cellAt HO.out (by rw [evenF_length]) (k - 1) (by omega)
    rw [evenF_getD f d k (k - 1) (by omega)] at hcell
    have ek : (k : Int) - 1 = ((k - 1 : Nat) : Int) := by omega
    have hki : 0 ≤ (((k - 1 : Nat) : Int)) ∧ (((k - 1 : Nat) : Int)) < (k : Int) := by omega
    have e1 : f + d * (((k - 1 : Nat) : Int)) + d = f + d * (k : Int) := by
      have : (((k - 1 : Nat) : Int)) = (k : Int) - 1 := by omega
      rw [this, Int.mul_sub, Int.mul_one]; omega
    have hws : IntKind.i64.wrap (9223372036854775807 - d) = 9223372036854775807 - d := by rw [IntKind.wrap_i64]; omega
    by_cases hlt : k < m
    · have hlt' : (k : Int) < (m : Int) := by omega
      by_cases hov : 9223372036854775807 < f + d * (k : Int)
      · have HX : Hid (9223372036854775807 < f + d * ((m : Int) - 1)) := by
          have := mul_step f d k m o3 (by omega)
          show _ < _
          omega
        have hgt : 9223372036854775807 - d < f + d * (((k - 1 : Nat) : Int)) := by omega
        clear hov e1
        go_wp2
        exact bodyPost_ret (v := .tuple #[.slice none 0 0, .int .i64 10]) (by simp [results, Tryd.results23, go_sem, *]) rfl ⟨.inr (.inl ⟨o1, o2, o3, HX.out, rfl⟩), HBW.out⟩
      · have hb0 := mul_ge f d k o3
        have hw : IntKind.i64.wrap (f + d * (((k - 1 : Nat) : Int)) + d) = f + d * (k : Int) := by rw [e1, IntKind.wrap_i64]; omega
        have hgt : ¬ (9223372036854775807 - d < f + d * (((k - 1 : Nat) : Int))) := by omega
        have HX : Hid (f + d * (((k + 1 : Nat) : Int) - 1) ≤ 9223372036854775807) := by
          show _ ≤ _
          rw [show (((k + 1 : Nat) : Int) - 1) = (k : Int) by omega]; omega
        have g1 := bel_alloc (o := .cells #[.int .i64 (f + d * (k : Int))] 2) (Below.refl wr.heap.size wr) (Nat.le_refl _)
        have k1 := heap_alloc_new wr (.cells #[.int .i64 (f + d * (k : Int))] 2)
        clear hb0 hov e1
        go_wp2_with (at_builtin; (refine wpList_append_i64 rfl _ _ rfl w.heap.size _ _ rfl (HO.out.below g1) wr.heap.size (f + d * (k : Int)) rfl k1 (by rw [evenF_length]; omega) (by have := HBW.out.size; simp; omega) ?_))
        intro v' w' hown hg
        rw [← evenF_snoc] at hown
        have HBW2 : Hid (Below w.heap.size w w') := (HBW.out.alloc HBW.out.size _).grown hg (by have := HBW.out.size; simp; omega) (fun j e => by cases e; exact (World.ownsRow.lt HO.out _ rfl).1)
        have HO2 := Lib.hid hown
        obtain ⟨g2, cap2, hv2, -, -, -⟩ := hown.blk (by rw [evenF_length]; omega)
        rw [evenF_length] at hv2
        subst hv2
        clear hown hg k1 g1 hcell
        go_wp2
        go_roundw
        case rel => exact ⟨k + 1, _, by omega, by omega, rfl, by go_num, HO2, HBW2, HX⟩
        case measure => simp [intOf]; omega
    · have hlt' : ¬ ((k : Int) < (m : Int)) := by omega
      have hkm : k = m := by omega
      subst hkm
      go_wp2
      exact bodyPost_ret (v := .tuple #[.slice (some ⟨g, 0, none⟩) k cap, .int .i64 0]) (by simp [results, Tryd.results23, go_sem, *]) rfl ⟨.inr (.inr ⟨o1, o2, o3, HOV.out, _, rfl, by rw [Int.toNat_natCast]; exact HO.out⟩), HBW.out⟩

end Go.Proofs.YtghgnalbahneoaaDoor
