/- ScriptReads: the law, walked (by program: wip/tools/gen_slaw1.py). -/
import Derived.Test.YtaeoghagpeihkaaDoorSQ
import Derived.Test.YtaeoghagpeihkaaDoorSO
set_option linter.unusedSimpArgs false
set_option linter.unusedVariables false
namespace Go.Proofs.YtaeoghagpeihkaaDoor
open Go.RowKit

set_option maxRecDepth 100000 in
set_option maxHeartbeats 4000000 in
theorem law_ScriptReads (s : ByteArray) (w : World) (hs : s.size ≤ 281474976710656) (ht : TabT w) (he : ErrT w) : Calls Tryd.prog 3 #[.string s] w fun e w' => e = .returned (.bool true) ∧ Below w.heap.size w w' := by
  have HT := Lib.hid ht
  have HEE := Lib.hid he
  obtain ⟨p, hp⟩ : ∃ p, p = parseF s.data.toList := ⟨_, rfl⟩
  have hc1 := parse_any s w ht he hs
  rw [← hp] at hc1
  have HC2 := Lib.hid (fun W => rparse_any s W hs)
  rw [← hp] at HC2
  obtain ⟨out, ln, en⟩ := p
  have HC1 := Lib.hid hc1
  obtain ⟨n, hn⟩ : ∃ n, n = out.length := ⟨_, rfl⟩
  simp only [← hn] at HC1 HC2
  have HN := Lib.hid hn
  clear ht he hc1 hp hn
  go_enter Tryd.func3, Tryd.ntmps3
  go_wp2_with (fail)
  with_reducible refine HC1.out.mono ?_
  rintro e w1 ⟨v, rfl, ho1, hB1⟩
  obtain ⟨ab, cap, rfl⟩ := owns_form ho1
  have HB1 := Lib.hid hB1
  obtain ⟨g2, k2⟩ := new_block w1 (.cells #[.int .i64 (ln : Int), .int .i64 (en : Int)] 25)
  have HB2 := Lib.hid (HB1.out.trans (g2.mono HB1.out.size))
  have HO2 := Lib.hid (owns_below ho1 g2)
  have HX2 := Lib.hid k2
  have HC3 := Lib.hid (HC2.out (w1.alloc (.cells #[.int .i64 (ln : Int), .int .i64 (en : Int)] 25)))
  clear HC1 HC2 ho1 hB1 g2 k2
  go_wp2_with (fail)
  with_reducible refine HC3.out.mono ?_
  rintro e w3 ⟨v2, rfl, ho3, hB3⟩
  obtain ⟨ab2, cap2, rfl⟩ := owns_form ho3
  have HB3 := Lib.hid (HB2.out.trans (hB3.mono HB2.out.size))
  have hx3 := stays HX2.out hB3
  have c0 := cell_of_row _ _ 0 _ _ _ hx3
  have c1 := cell_of_row _ _ 1 _ _ _ hx3
  have ho2 := owns_below HO2.out hB3
  have hx4 := hx3
  rw [HN.out] at ho2 ho3
  have hsame := rsame_any _ _ out out w3 (OwnS.sps ho2) (OwnS.sps ho3)
  rw [← HN.out, sameR_iff.2 rfl] at hsame
  have HS := Lib.hid hsame
  have HX3 := Lib.hid hx3
  clear HC3 hB3 ho2 ho3 hsame hx3 hx4
  go_wp2_with (fail)
  with_reducible refine HS.out.mono ?_
  rintro e w4 ⟨rfl, hB4⟩
  have HB4 := Lib.hid (HB3.out.trans (hB4.mono HB3.out.size))
  have hx4 := stays HX3.out hB4
  have c0 := cell_of_row _ _ 0 _ _ _ hx4
  have c1 := cell_of_row _ _ 1 _ _ _ hx4
  have HW := Lib.hid (awake_any w4 (HT.out.below HB4.out) (HEE.out.below HB4.out))
  clear HS hB4 hx4
  go_wp2_with (fail)
  with_reducible refine HW.out.mono ?_
  rintro e w5 ⟨rfl, hB5⟩
  have HB5 := Lib.hid (HB4.out.trans (hB5.mono HB4.out.size))
  clear HW hB5
  go_wp2_with (fail)
  go_ret
  exact ⟨rfl, HB5.out⟩

end Go.Proofs.YtaeoghagpeihkaaDoor

