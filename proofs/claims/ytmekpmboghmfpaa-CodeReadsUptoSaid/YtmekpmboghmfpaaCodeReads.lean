/- The law CodeReads, walked. -/
import Derived.Test.YtmekpmboghmfpaaCodeRefRead
import Derived.Test.YtmekpmboghmfpaaCodeSame
import Derived.Test.YtmekpmboghmfpaaCodeAwake
namespace Go.Proofs.Ytmekpmboghmfpaa
open Go.RowKit

theorem readF_len (l : List UInt8) (ks : List Int) : ∀ fs a, (readF l ks fs a).1.length ≤ fs.length + ks.length := by
  induction ks with
  | nil => intro fs a; exact Nat.le_refl _
  | cons k r ih =>
    intro fs a
    show (if _ then _ else _ : List Fld × Nat × Nat).1.length ≤ _
    split
    · simp
    · have := ih (fs ++ [(fieldR l k a).1]) (fieldR l k a).2.1
      simp at this ⊢
      omega

set_option maxRecDepth 100000 in
set_option maxHeartbeats 1000000 in
theorem law_CodeReads (v vk : Value) (l : List UInt8) (ks : List Int) (w : World) (hb : Bts w w.heap.size v l) (hk : Ints w w.heap.size vk ks) (hl : l.length ≤ 1000000000) (hkl : ks.length ≤ 1000000000) :
    Calls Try.prog 3 #[v, vk] w fun e w' => e = .returned (.bool true) ∧ Below w.heap.size w w' := by
  have c1 := code_Read v vk l ks w hb hk hl hkl
  have c2 : ∀ w1, Below w.heap.size w w1 → _ := fun w1 h => ref_Read v vk l ks w1 (hb.below h h.size) (hk.below h h.size) hl hkl
  have hfl := readF_len l ks [] 0
  generalize readF l ks [] 0 = R at *
  obtain ⟨fs, a, code⟩ := R
  simp only [List.length_nil] at c1 c2 hfl
  have HL := Lib.hid (show fs.length ≤ 1000000000000 by omega)
  clear hb hk hfl
  go_enter Try.func3, Try.ntmps3
  go_wp2_with fail
  refine c1.mono ?_
  rintro e w1 ⟨lv, rfl, hB1, hO1⟩
  have c2 := c2 w1 hB1
  clear c1
  have HB1 := Lib.hid hB1
  clear hB1
  go_wp2_with fail
  refine c2.mono ?_
  rintro e w2 ⟨lu, rfl, hB2, hO2⟩
  have c3 := same_yes lv lu fs _ _ w2 ((hO1.flds).below hB2 (Nat.le_refl _)) hO2.flds HL.out
  have HB2 := Lib.hid (HB1.out.trans (hB2.mono HB1.out.size))
  clear c2 hO1 hO2 hB2 HB1
  go_wp2_with fail
  refine c3.mono ?_
  rintro e w3 ⟨rfl, n3, rfl⟩
  have c4 := awake_true (w2.drewN n3)
  have HB3 := Lib.hid (HB2.out.trans (bdN w.heap.size w2 n3))
  clear c3 HB2
  go_wp2_with fail
  refine c4.mono ?_
  rintro e w4 ⟨rfl, hB4⟩
  clear c4
  go_wp2
  go_ret
  exact ⟨rfl, HB3.out.trans (hB4.mono HB3.out.size)⟩

end Go.Proofs.Ytmekpmboghmfpaa
