/- Contracts: Text on both sides. -/
import Derived.Test.YtahfapeggijfkaaDoorFrac1
import Derived.Test.YtahfapeggijfkaaDoorShelf
import Derived.Lib.SmallJoins
import Derived.Lib.AppendIntMem
import Derived.Lib.ItoaLen
namespace Go.Proofs.YtahfapeggijfkaaDoor
open Go.RowKit

/-- the library's table of powers reads as its initialiser lays it -/
abbrev TabT (w : World) : Prop := Lib.TabIs Tryd.prog w "internal/strconv.uint64pow10" .u64 Lib.pow10Tab
theorem gPow : Tryd.prog.globalNamed "internal/strconv.uint64pow10" = some 0 := by kernel_rfl
theorem TabT.below {w w' : World} (h : TabT w) (hb : Below w.heap.size w w') : TabT w' := Go.Joins.tab_stays gPow h hb (Nat.le_refl _)

theorem fmt_any (n : Int) (h0 : -9223372036854775808 ≤ n) (h1 : n ≤ 9223372036854775807) (w : World) (ht : TabT w) :
    Calls Tryd.prog 32 #[.int .i64 n, .int .i64 10] w fun e w' => e = .returned (.string ⟨(Lib.itoa n).toArray⟩) ∧ Below w.heap.size w w' := by
  refine (Tryd.strconv_FormatInt_10 n h0 h1 w ht).mono ?_
  rintro e w' ⟨rfl, k, os, rfl⟩
  exact ⟨rfl, Lib.below_grow _ w (Nat.le_refl _) k os⟩

/-- a fraction's text -/
def fracText (n d : Int) : List UInt8 := Lib.itoa n ++ if d = 1 then [] else 47 :: Lib.itoa d

set_option maxRecDepth 100000 in
theorem text_any (n d : Int) (hn0 : -9223372036854775808 ≤ n) (hn1 : n ≤ 9223372036854775807) (hd0 : -9223372036854775808 ≤ d) (hd1 : d ≤ 9223372036854775807) (w : World) (ht : TabT w) :
    Calls Tryd.prog 51 #[frV n d] w fun e w' => e = .returned (.string ⟨(fracText n d).toArray⟩) ∧ Below w.heap.size w w' := by
  have hb0 : Below w.heap.size w (w.alloc (.cells #[.int .i64 n, .int .i64 d] 23)) := (Below.refl _ _).alloc (Nat.le_refl _) _
  have ht0 := ht.below hb0
  have L1 := Lib.itoa_length_le n (by omega) (by omega)
  have L2 := Lib.itoa_length_le d (by omega) (by omega)
  have hk0 : (w.alloc (.cells #[.int .i64 n, .int .i64 d] 23)).heap[w.heap.size]? = some (.cells #[.int .i64 n, .int .i64 d] 23 (0, 0)) := heap_alloc_new _ _
  go_enter Tryd.func51, Tryd.ntmps51
  go_wp2_with (go_at_call 32; refine (fmt_any n hn0 hn1 _ ht0).mono ?_; rintro e w1 ⟨rfl, hb1⟩; refine Hid.out ?_)
  refine Lib.hid ?_
  have hk1 : w1.heap[w.heap.size]? = some (.cells #[.int .i64 n, .int .i64 d] 23 (0, 0)) := (hb1.block _ (by simp)).trans hk0
  have ht1 := ht0.below hb1
  have hbw := Lib.hid (hb0.trans (hb1.mono (by simp)))
  clear hb0 hb1 hk0 ht0
  have c1 : w1.cell? ⟨w.heap.size, 1, none⟩ = some (.int .i64 d) := cell_of_row _ _ 1 _ _ _ hk1
  by_cases hd : d = 1
  · subst hd
    have HF : Lib.itoa n = fracText n 1 := by simp [fracText]
    rw [HF]
    go_wp2
    go_ret
    exact ⟨rfl, hbw.out⟩
  · have hdb : (d != 1) = true := by rw [bne_iff_ne]; exact hd
    have HF : (⟨(Lib.itoa n).toArray⟩ : ByteArray) ++ ((⟨#[47]⟩ : ByteArray) ++ (⟨(Lib.itoa d).toArray⟩ : ByteArray)) = ⟨(fracText n d).toArray⟩ := ByteArray.ext (by simp [ByteArray.data_append, fracText, hd])
    have HF := Lib.hid HF
    clear hd
    go_wp2_with (go_at_call 32; refine (fmt_any d hd0 hd1 _ ht1).mono ?_; rintro e w2 ⟨rfl, hb2⟩; refine Hid.out ?_)
    refine Lib.hid ?_
    have hbw2 := Lib.hid (hbw.out.trans (hb2.mono hbw.out.size))
    clear hb2
    go_wp2
    go_ret
    refine ⟨?_, hbw2.out⟩
    rw [← HF.out]
    rfl

set_option maxRecDepth 100000 in
theorem rtext_any (n d : Int) (hn0 : -9223372036854775808 ≤ n) (hn1 : n ≤ 9223372036854775807) (hd0 : -9223372036854775808 ≤ d) (hd1 : d ≤ 9223372036854775807) (w : World) (ht : TabT w) :
    Calls Tryd.prog 31 #[frV n d] w fun e w' => e = .returned (.string ⟨(fracText n d).toArray⟩) ∧ Below w.heap.size w w' := by
  have hb0 : Below w.heap.size w (w.alloc (.cells #[.int .i64 n, .int .i64 d] 23)) := (Below.refl _ _).alloc (Nat.le_refl _) _
  have ht0 := ht.below hb0
  have L1 := Lib.itoa_length_le n (by omega) (by omega)
  have L2 := Lib.itoa_length_le d (by omega) (by omega)
  have hk0 : (w.alloc (.cells #[.int .i64 n, .int .i64 d] 23)).heap[w.heap.size]? = some (.cells #[.int .i64 n, .int .i64 d] 23 (0, 0)) := heap_alloc_new _ _
  go_enter Tryd.func31, Tryd.ntmps31
  go_wp2_with (go_at_call 32; refine (fmt_any n hn0 hn1 _ ht0).mono ?_; rintro e w1 ⟨rfl, hb1⟩; refine Hid.out ?_)
  refine Lib.hid ?_
  have hk1 : w1.heap[w.heap.size]? = some (.cells #[.int .i64 n, .int .i64 d] 23 (0, 0)) := (hb1.block _ (by simp)).trans hk0
  have ht1 := ht0.below hb1
  have hbw := Lib.hid (hb0.trans (hb1.mono (by simp)))
  clear hb0 hb1 hk0 ht0
  have c1 : w1.cell? ⟨w.heap.size, 1, none⟩ = some (.int .i64 d) := cell_of_row _ _ 1 _ _ _ hk1
  by_cases hd : d = 1
  · subst hd
    have HF : Lib.itoa n = fracText n 1 := by simp [fracText]
    rw [HF]
    go_wp2
    go_ret
    exact ⟨rfl, hbw.out⟩
  · have hdb : (d != 1) = true := by rw [bne_iff_ne]; exact hd
    have HF : (⟨(Lib.itoa n).toArray⟩ : ByteArray) ++ (⟨#[47]⟩ : ByteArray) ++ (⟨(Lib.itoa d).toArray⟩ : ByteArray) = ⟨(fracText n d).toArray⟩ := ByteArray.ext (by simp [ByteArray.data_append, fracText, hd])
    have HF := Lib.hid HF
    clear hd
    go_wp2_with (go_at_call 32; refine (fmt_any d hd0 hd1 _ ht1).mono ?_; rintro e w2 ⟨rfl, hb2⟩; refine Hid.out ?_)
    refine Lib.hid ?_
    have hbw2 := Lib.hid (hbw.out.trans (hb2.mono hbw.out.size))
    clear hb2
    go_wp2
    go_ret
    refine ⟨?_, hbw2.out⟩
    rw [← HF.out]
    rfl

end Go.Proofs.YtahfapeggijfkaaDoor
