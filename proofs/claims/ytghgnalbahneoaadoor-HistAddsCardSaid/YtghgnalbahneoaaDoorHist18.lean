/- Histograms: numbers' text, and what Text draws (plain). -/
import Derived.Test.YtghgnalbahneoaaDoorHist15
import Derived.Test.YtghgnalbahneoaaDoorBld
import Derived.Lib.SmallJoins
import Derived.Lib.ItoaLen
import Derived.Lib.Repeat
namespace Go.Proofs.YtghgnalbahneoaaDoor
open Go.RowKit

/-- the library's table of powers reads as its initialiser lays it -/
abbrev TabT (w : World) : Prop := Lib.TabIs Tryd.prog w "internal/strconv.uint64pow10" .u64 Lib.pow10Tab
theorem gPow : Tryd.prog.globalNamed "internal/strconv.uint64pow10" = some 0 := by kernel_rfl
theorem TabT.below {w w' : World} (h : TabT w) (hb : Below w.heap.size w w') : TabT w' := Go.Joins.tab_stays gPow h hb (Nat.le_refl _)

theorem fmt_any (n : Int) (h0 : -9223372036854775808 ≤ n) (h1 : n ≤ 9223372036854775807) (w : World) (ht : TabT w) :
    Calls Tryd.prog 63 #[.int .i64 n, .int .i64 10] w fun e w' => e = .returned (.string ⟨(Lib.itoa n).toArray⟩) ∧ Below w.heap.size w w' := by
  refine (Tryd.strconv_FormatInt_10 n h0 h1 w ht).mono ?_
  rintro e w' ⟨rfl, k, os, rfl⟩
  exact ⟨rfl, Lib.below_grow _ w (Nat.le_refl _) k os⟩

theorem num_any (n : Int) (h0 : -9223372036854775808 ≤ n) (h1 : n ≤ 9223372036854775807) (w : World) (ht : TabT w) :
    Calls Tryd.prog 41 #[.int .i64 n] w fun e w' => e = .returned (.string ⟨(Lib.itoa n).toArray⟩) ∧ Below w.heap.size w w' := by
  have hf := Lib.hid (fmt_any n h0 h1 w ht)
  go_enter Tryd.func41, Tryd.ntmps41
  go_wp2_with (fail)
  refine hf.out.mono ?_
  rintro e w1 ⟨rfl, hb⟩
  have HB := Lib.hid hb
  clear hb
  go_wp2
  go_ret
  exact ⟨rfl, HB.out⟩
theorem rnum_any (n : Int) (h0 : -9223372036854775808 ≤ n) (h1 : n ≤ 9223372036854775807) (w : World) (ht : TabT w) :
    Calls Tryd.prog 46 #[.int .i64 n] w fun e w' => e = .returned (.string ⟨(Lib.itoa n).toArray⟩) ∧ Below w.heap.size w w' := by
  have hf := Lib.hid (fmt_any n h0 h1 w ht)
  go_enter Tryd.func46, Tryd.ntmps46
  go_wp2_with (fail)
  refine hf.out.mono ?_
  rintro e w1 ⟨rfl, hb⟩
  have HB := Lib.hid hb
  clear hb
  go_wp2
  go_ret
  exact ⟨rfl, HB.out⟩

/-- the greatest of the first counts -/
def mostF (cs : List Int) : Nat → Int
  | 0 => 0
  | k + 1 => max (mostF cs k) (cs.getD k 0)
theorem mostF_in (cs : List Int) (h : CntIn cs) : ∀ k, 0 ≤ mostF cs k ∧ mostF cs k ≤ 1099511627776
  | 0 => by simp [mostF]
  | k + 1 => by have := mostF_in cs h k; have := h k; simp only [mostF]; omega
theorem mostF_ge (cs : List Int) (k : Nat) : ∀ n, k < n → cs.getD k 0 ≤ mostF cs n
  | 0, h => by omega
  | n + 1, h => by
    rcases Nat.lt_or_ge k n with h' | h'
    · have := mostF_ge cs k n h'; simp only [mostF]; omega
    · obtain rfl : k = n := by omega
      simp only [mostF]; omega
/-- the width that is drawn -/
def widF (x : Int) : Int := min (max x 0) 100
theorem widF_in (x : Int) : 0 ≤ widF x ∧ widF x ≤ 100 := by unfold widF; omega
/-- a bar's length -/
def barF (m wd c : Int) : Int := if 0 < m then c * wd / m else 0
theorem barF_in (m wd c : Int) (hc0 : 0 ≤ c) (hc1 : c ≤ m) (hw0 : 0 ≤ wd) (hw1 : wd ≤ 100) : 0 ≤ barF m wd c ∧ barF m wd c ≤ 100 := by
  unfold barF
  split
  · rename_i hm
    refine ⟨Int.ediv_nonneg (Int.mul_nonneg hc0 hw0) (by omega), ?_⟩
    have h1 : c * wd ≤ m * 100 := Int.mul_le_mul hc1 hw1 hw0 (by omega)
    have h2 : c * wd / m ≤ m * 100 / m := Int.ediv_le_ediv hm h1
    rw [Int.mul_ediv_cancel_left _ (by omega)] at h2
    exact h2
  · omega
def lowF (bs : List Int) (k : Nat) : List UInt8 := if 0 < k then Lib.itoa (bs.getD (k - 1) 0) else [45]
def highF (bs : List Int) (k : Nat) : List UInt8 := if k < bs.length then Lib.itoa (bs.getD k 0) else [43]
def barL (n : Int) : List UInt8 := if 0 < n then 32 :: List.replicate n.toNat 35 else []
theorem barL_length (n : Int) (h : n ≤ 100) : (barL n).length ≤ 101 := by unfold barL; split <;> simp; omega
def headF (lo hi ct : List UInt8) : List UInt8 := lo ++ ([32, 46, 46, 32] ++ (hi ++ ([32] ++ ct)))
theorem headF_length (lo hi ct : List UInt8) : (headF lo hi ct).length = lo.length + hi.length + ct.length + 5 := by unfold headF; simp; omega
def lineF (bs : List Int) (m wd c : Int) (k : Nat) : List UInt8 := headF (lowF bs k) (highF bs k) (Lib.itoa c) ++ (barL (barF m wd c) ++ [10])
def textN (bs cs : List Int) (m wd : Int) : Nat → List UInt8
  | 0 => []
  | k + 1 => textN bs cs m wd k ++ lineF bs m wd (cs.getD k 0) k
def textF (bs cs : List Int) (width : Int) : List UInt8 := textN bs cs (mostF cs cs.length) (widF width) cs.length

/-- all numbers are of 64 bits -/
def In64 (l : List Int) : Prop := ∀ j, -9223372036854775808 ≤ l.getD j 0 ∧ l.getD j 0 ≤ 9223372036854775807
theorem lowF_length (bs : List Int) (h : In64 bs) (k : Nat) : (lowF bs k).length ≤ 21 := by
  unfold lowF; split
  · exact Lib.itoa_length_le _ (h _).1 (h _).2
  · simp
theorem highF_length (bs : List Int) (h : In64 bs) (k : Nat) : (highF bs k).length ≤ 21 := by
  unfold highF; split
  · exact Lib.itoa_length_le _ (h _).1 (h _).2
  · simp
theorem lineF_length (bs : List Int) (h : In64 bs) (m wd c : Int) (k : Nat) (hc0 : 0 ≤ c) (hc1 : c ≤ m) (hm : m ≤ 1099511627776) (hw0 : 0 ≤ wd) (hw1 : wd ≤ 100) : (lineF bs m wd c k).length ≤ 170 := by
  have := lowF_length bs h k
  have := highF_length bs h k
  have := Lib.itoa_length_le c (by omega) (by omega)
  have := barL_length _ (barF_in m wd c hc0 hc1 hw0 hw1).2
  unfold lineF
  rw [List.length_append, headF_length, List.length_append]
  simp
  omega
theorem textN_length (bs cs : List Int) (h : In64 bs) (hc : CntIn cs) (m wd : Int) (hm : m ≤ 1099511627776) (hw0 : 0 ≤ wd) (hw1 : wd ≤ 100) : ∀ k, (∀ j, j < k → cs.getD j 0 ≤ m) → (textN bs cs m wd k).length ≤ 170 * k
  | 0, _ => by simp [textN]
  | k + 1, hk => by
    have := textN_length bs cs h hc m wd hm hw0 hw1 k (fun j hj => hk j (by omega))
    have := lineF_length bs h m wd (cs.getD k 0) k (hc k).1 (hk k (by omega)) hm hw0 hw1
    simp only [textN, List.length_append]
    omega

end Go.Proofs.YtghgnalbahneoaaDoor
