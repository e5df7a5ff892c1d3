/- Terms: the document's. -/
import Derived.Test.YtckedklopgnloaaDoorFrac7
import Derived.Test.YtckedklopgnloaaDoorFrac4
import Derived.Deep.LoopGhost
namespace Go.Proofs.YtckedklopgnloaaDoor
open Go.RowKit

/-- a fraction's terms -/
def termsI (n d : Int) : List Int := if h : 0 < d ∧ n % d ≠ 0 then (n / d) :: termsI d (n % d) else [n / d]
termination_by d.toNat
decreasing_by
  have := Int.emod_lt_of_pos n h.1
  omega
theorem emod_sub (a b : Int) : a % b = a - a / b * b := by have := Int.mul_ediv_add_emod a b; rw [Int.mul_comm] at this; omega
theorem termsI_step (a b : Int) (hb : 0 < b) : termsI a b = a / b :: (if a - a / b * b = 0 then [] else termsI b (a - a / b * b)) := by
  rw [termsI, ← emod_sub]
  by_cases h : a % b = 0
  · rw [dif_neg (by intro h2; exact h2.2 h), if_pos h]
  · rw [dif_pos ⟨hb, h⟩, if_neg h]
theorem termsI_len (a b : Int) (hb : 0 < b) : ((termsI a b).length : Int) ≤ b := by
  obtain ⟨k, hk⟩ : ∃ k : Nat, b.toNat ≤ k := ⟨_, Nat.le_refl _⟩
  induction k generalizing a b with
  | zero => omega
  | succ k ih =>
    rw [termsI_step a b hb]
    have h1 := Int.ediv_mul_le a (show b ≠ 0 by omega)
    have h2 := Int.lt_ediv_add_one_mul_self a hb
    have h3 : (a / b + 1) * b = a / b * b + b := by rw [Int.add_mul]; omega
    by_cases h : a - a / b * b = 0
    · rw [if_pos h]; simp; omega
    · rw [if_neg h]
      have := ih b (a - a / b * b) (by omega) (by omega)
      simp; omega

set_option maxRecDepth 100000 in
set_option maxHeartbeats 4000000 in
theorem rterms_any (n d : Int) (w : World) (hd0 : 1 ≤ d) (hd1 : d ≤ 2147483647) (hn0 : -2147483647 ≤ n) (hn1 : n ≤ 2147483647) :
    Calls Tryd.prog 38 #[frV n d] w fun e w' => ∃ v, e = .returned v ∧ OwnI w' w.heap.size v (termsI n d) ∧ Below w.heap.size w w' := by
  have HB0 : Hid (Below w.heap.size w (w.alloc (.cells #[.int .i64 n, .int .i64 d] 23)) ∧ w.heap.size + 1 ≤ (w.alloc (.cells #[.int .i64 n, .int .i64 d] 23)).heap.size) := ⟨(Below.refl _ _).alloc (Nat.le_refl _) _, by simp⟩
  go_enter Tryd.func38, Tryd.ntmps38
  go_wp2
  go_loopw [3, 4, 5] (fun lv nv dv wr => ∃ (a b : Int) (xs : List Int), nv = .int .i64 a ∧ dv = .int .i64 b ∧ 0 ≤ b ∧ b ≤ 2147483647 ∧ -2147483647 ≤ a ∧ a ≤ 2147483647 ∧
    Hid (xs ++ (if b = 0 then [] else termsI a b) = termsI n d) ∧ Hid ((xs.length : Int) + b ≤ d) ∧ Hid (OwnI wr (w.heap.size + 1) lv xs) ∧ Hid (Below w.heap.size w wr ∧ w.heap.size + 1 ≤ wr.heap.size)) (fun _ _ b _ => (intOf b).toNat)
  case atStart => exact ⟨n, d, [], rfl, rfl, by omega, by omega, by omega, by omega, (by show _ = _; rw [if_neg (by omega)]; rfl), (by show _ ≤ _; simp), OwnI.nil _ _, HB0⟩
  case round =>
    obtain ⟨a, b, xs, rfl, rfl, hb0, hb1, ha0, ha1, HE, HL, HO, HB⟩ := hrel
    by_cases hz : b = 0
    · subst hz
      have HE2 : Hid (xs = termsI n d) := by have := HE.out; rw [if_pos rfl, List.append_nil] at this; exact this
      go_wp2
      go_ret
      exact ⟨_, rfl, by rw [← HE2.out]; exact HO.out.mono (by omega), HB.out.1⟩
    · have hbn : (b != 0) = true := by rw [bne_iff_ne]; exact hz
      have f1 := Int.ediv_mul_le a hz
      have f2 := Int.lt_ediv_add_one_mul_self a (show 0 < b by omega)
      rw [Int.add_mul] at f2
      have cf := rfloor_any a b wr (by omega) (by omega) (by omega) (by omega)
      have HS := Lib.hid (termsI_step a b (by omega))
      have hE := HE.out
      rw [if_neg hz, HS.out] at hE
      have HE2 := Lib.hid hE
      clear hE HE HS
      generalize a / b = u at *
      have hu0 : -2147483648 ≤ u := by
        rcases Int.lt_or_le u (-2147483648) with h | h
        · have := Int.mul_le_mul_of_nonneg_right (show u + 1 ≤ -2147483648 by omega) (show 0 ≤ b by omega)
          rw [Int.add_mul] at this; omega
        · exact h
      have hu1 : u ≤ 2147483647 := by
        rcases Int.lt_or_le 2147483647 u with h | h
        · have := Int.mul_le_mul_of_nonneg_right (show 2147483648 ≤ u by omega) (show 0 ≤ b by omega)
          omega
        · exact h
      have HZ := Lib.hid hz
      clear hz
      go_wp2_with fail
      refine cf.mono ?_
      rintro e w1 ⟨rfl, hB1⟩
      have HO1 := Lib.hid (HO.out.below hB1)
      have HB1 : Hid (Below w.heap.size w w1 ∧ w.heap.size + 1 ≤ w1.heap.size) := ⟨HB.out.1.trans (hB1.mono HB.out.1.size), Nat.le_trans HB.out.2 hB1.size⟩
      clear cf hB1
      have HO2 := Lib.hid (HO1.out.below ((Below.refl w1.heap.size w1).alloc (Nat.le_refl _) (.cells #[.int .i64 u] 2)))
      go_wp2_with (at_builtin; (refine wpList_append_i64 rfl _ _ rfl (w.heap.size + 1) _ xs rfl HO2.out w1.heap.size u rfl (heap_alloc_new w1 _) (by have := HL.out; omega) (by have := HB1.out.2; simp; omega) ?_))
      intro v2 w2 hown2 hg2
      have HB2 : Hid (Below w.heap.size w w2 ∧ w.heap.size + 1 ≤ w2.heap.size) := by
        have hz := HB1.out.2
        refine ⟨(HB1.out.1.alloc (by omega) _).grown hg2 (by simp; omega) (fun k hk => by have := (World.ownsRow.lt HO2.out k hk).1; omega), ?_⟩
        have := hg2.size; simp at this; omega
      have HO3 := Lib.hid hown2
      clear hown2 hg2
      go_wp2
      go_roundw
      case rel =>
        refine ⟨b, a - u * b, xs ++ [u], rfl, by go_num, by omega, by omega, by omega, by omega, ?_, ?_, HO3, HB2⟩
        · show _ = _; rw [List.append_assoc]; exact HE2.out
        · have := HL.out; show _ ≤ _; simp; omega
      case measure => simp [intOf]; omega

end Go.Proofs.YtckedklopgnloaaDoor
