/- PROVED HERE: eddylaw03.CodeSizes returns true for every two numbers of 64 bits, and what was in memory stays as it was.
   Conditions: none of the walk's own; the row's: the form's reach. -/
import Derived.Test.YtmekpmboghmfpaaCodeAwake
namespace Go.Proofs.Ytmekpmboghmfpaa
open Go.RowKit

theorem vintF_mono (f x y : Nat) (h : x ≤ y) : (vintF f x).length ≤ (vintF f y).length := by
  induction f generalizing x y with
  | zero => simp [vintF]
  | succ f ih =>
    by_cases h1 : 127 < x
    · rw [vintF_more f x h1, vintF_more f y (by omega)]
      have := ih (x / 128) (y / 128) (Nat.div_le_div_right h)
      simp; omega
    · rw [vintF_last _ x h1]
      exact (vintF_len (f + 1) y).1
theorem vint_mono (x y : Nat) (h : x ≤ y) : (vint x).length ≤ (vint y).length := vintF_mono 10 x y h

set_option maxRecDepth 100000 in
set_option maxHeartbeats 2000000 in
theorem law_CodeSizes (x y : Nat) (w : World) (hx : x < 18446744073709551616) (hy : y < 18446744073709551616) :
    Calls Try.prog 4 #[.int .u64 (x : Int), .int .u64 (y : Int)] w fun e w' => e = .returned (.bool true) ∧ Below w.heap.size w w' := by
  have c1 := code_Size x w hx
  have c2 := code_Size y w hy
  have c3 := code_Number (.slice none 0 0) [] x w hx (Bts.nil _ _) (by decide)
  rw [List.nil_append] at c3
  obtain ⟨ha1, ha2⟩ := vint_len x hx
  obtain ⟨hb1, hb2⟩ := vint_len y hy
  rcases Nat.lt_trichotomy x y with h | h | h
  · have hm := vint_mono x y (by omega)
    have h' : ¬ y < x := by omega
    have i1 : (1 : Int) ≤ ((vint x).length : Int) := by omega
    have i2 : ((vint y).length : Int) ≤ 10 := by omega
    go_enter Try.func4, Try.ntmps4
    go_wp2_with fail
    refine c1.mono ?_
    rintro e w1 ⟨rfl, rfl⟩
    go_wp2_with fail
    refine c2.mono ?_
    rintro e w1 ⟨rfl, rfl⟩
    clear c1
    go_wp2_with fail
    refine c3.mono ?_
    rintro e w2 ⟨v2, rfl, hO, hB⟩
    obtain ⟨ao, cap, rfl, _⟩ := hO.bts
    have c1 := code_Size x w2 hx
    have HB := Lib.hid hB
    clear c3 hB hO
    go_wp2_with fail
    refine c1.mono ?_
    rintro e w3 ⟨rfl, rfl⟩
    have ca := awake_true w3
    clear c1
    go_wp2_with fail
    refine ca.mono ?_
    rintro e w4 ⟨rfl, hB4⟩
    clear ca
    go_wp2
    go_ret
    exact ⟨rfl, HB.out.trans (hB4.mono HB.out.size)⟩
  · subst h
    have i1 : (1 : Int) ≤ ((vint x).length : Int) := by omega
    have i2 : ((vint x).length : Int) ≤ 10 := by omega
    go_enter Try.func4, Try.ntmps4
    go_wp2_with fail
    refine c1.mono ?_
    rintro e w1 ⟨rfl, rfl⟩
    go_wp2_with fail
    refine c1.mono ?_
    rintro e w1 ⟨rfl, rfl⟩
    clear c1
    go_wp2_with fail
    refine c3.mono ?_
    rintro e w2 ⟨v2, rfl, hO, hB⟩
    obtain ⟨ao, cap, rfl, _⟩ := hO.bts
    have c1 := code_Size x w2 hx
    have HB := Lib.hid hB
    clear c3 hB hO
    go_wp2_with fail
    refine c1.mono ?_
    rintro e w3 ⟨rfl, rfl⟩
    have ca := awake_true w3
    clear c1
    go_wp2_with fail
    refine ca.mono ?_
    rintro e w4 ⟨rfl, hB4⟩
    clear ca
    go_wp2
    go_ret
    exact ⟨rfl, HB.out.trans (hB4.mono HB.out.size)⟩
  · have hm := vint_mono y x (by omega)
    have h' : ¬ x < y := by omega
    have i1 : (1 : Int) ≤ ((vint y).length : Int) := by omega
    have i2 : ((vint x).length : Int) ≤ 10 := by omega
    go_enter Try.func4, Try.ntmps4
    go_wp2_with fail
    refine c2.mono ?_
    rintro e w1 ⟨rfl, rfl⟩
    go_wp2_with fail
    refine c1.mono ?_
    rintro e w1 ⟨rfl, rfl⟩
    clear c1
    go_wp2_with fail
    refine c3.mono ?_
    rintro e w2 ⟨v2, rfl, hO, hB⟩
    obtain ⟨ao, cap, rfl, _⟩ := hO.bts
    have c1 := code_Size x w2 hx
    have HB := Lib.hid hB
    clear c3 hB hO
    go_wp2_with fail
    refine c1.mono ?_
    rintro e w3 ⟨rfl, rfl⟩
    have ca := awake_true w3
    clear c1
    go_wp2_with fail
    refine ca.mono ?_
    rintro e w4 ⟨rfl, hB4⟩
    clear ca
    go_wp2
    go_ret
    exact ⟨rfl, HB.out.trans (hB4.mono HB.out.size)⟩

end Go.Proofs.Ytmekpmboghmfpaa
