/- WireBodies: the law, walked (by program: wip/tools/gen_wirebodies.py). -/
import Derived.Test.YtgnpjenpehfjbaaDoorMU
import Derived.Test.YtgnpjenpehfjbaaDoorMV
import Derived.Test.YtgnpjenpehfjbaaDoorMH
import Derived.Test.YtgnpjenpehfjbaaDoorMY
set_option linter.unusedSimpArgs false
set_option linter.unusedVariables false
namespace Go.Proofs.YtgnpjenpehfjbaaDoor
open Go.RowKit

set_option maxRecDepth 100000 in
set_option maxHeartbeats 4000000 in
theorem law_WireBodies (v : Value) (l : List UInt8) (w : World) (hb : Bts w w.heap.size v l) (ht : TabOK w) :
    Calls Tryd.prog 6 #[v] w fun e w' => e = .returned (.bool true) ∧ Below w.heap.size w w' := by
  have HT := Lib.hid ht
  by_cases hs : l.length ≤ 65535
  case neg =>
    have hcon := Lib.hid (ref_Seal_long v l w w.heap.size hb (by omega))
    have hcon2 := Lib.hid (awake_any w ht)
    clear hb ht hs
    go_enter Tryd.func6, Tryd.ntmps6
    go_wp2_with (fail)
    with_reducible refine hcon.out.mono ?_
    rintro e w1 ⟨rfl, rfl⟩
    clear hcon
    go_wp2_with (fail)
    with_reducible refine hcon2.out.mono ?_
    rintro e w2 ⟨rfl, hB⟩
    have HB := Lib.hid hB
    clear hcon2 hB
    go_wp2
    go_ret
    exact ⟨rfl, HB.out⟩
  have hcon := Lib.hid (ref_Seal v l w w.heap.size hb (Nat.le_refl _) hs)
  obtain ⟨m, hm⟩ : ∃ m, m = frameOf l := ⟨_, rfl⟩
  rw [← hm] at hcon
  have HML : Hid (m.length ≤ 100000000) := by show _ ≤ _; rw [hm, frameOf_len]; omega
  clear hb ht hs hm
  go_enter Tryd.func6, Tryd.ntmps6
  go_wp2_with (fail)
  with_reducible refine hcon.out.mono ?_
  rintro e w1 ⟨v', rfl, ho, hB⟩
  obtain ⟨⟨dp, dc⟩, hD⟩ : ∃ R, R = decodeP m := ⟨_, rfl⟩
  have hd1 := decode_any v' m w1 ho.bts HML.out (HT.out.below hB HT.out.lt)
  rw [← hD] at hd1
  dsimp only at hd1
  have HD1 := Lib.hid hd1
  have HD := Lib.hid hD
  have HO := Lib.hid ho
  have LB := Lib.hid hB
  clear hcon ho hB hd1 hD
  go_wp2_with (fail)
  with_reducible refine HD1.out.mono ?_
  rintro e w2 ⟨p, u, rfl, hi, hp, hB⟩
  subst hp
  obtain ⟨k0, k1, k2, k3, k4, k5, k6, xs⟩ := p
  obtain ⟨au, cu, hu⟩ := owns_form hi
  obtain ⟨mu, hmu⟩ : ∃ m, m = xs.length := ⟨_, rfl⟩
  rw [← hmu] at hu
  subst hu
  obtain ⟨g1, j1⟩ := new_block w2 (.cells #[.int .i64 k0, .int .i64 k1, .int .i64 k2, .int .i64 k3, .int .i64 k4, .int .i64 k5, .int .i64 k6, .slice au mu cu] 24)
  obtain ⟨w3, hw3⟩ : ∃ W, W = w2.alloc (.cells #[.int .i64 k0, .int .i64 k1, .int .i64 k2, .int .i64 k3, .int .i64 k4, .int .i64 k5, .int .i64 k6, .slice au mu cu] 24) := ⟨_, rfl⟩
  obtain ⟨b5, hb5⟩ : ∃ b, b = w2.heap.size := ⟨_, rfl⟩
  rw [← hw3] at g1 j1
  have hB2 := hB.trans (g1.mono hB.size)
  have L3 := Lib.hid (LB.out.trans (hB2.mono LB.out.size))
  have HX := Lib.hid (OwnX.below hi g1)
  rw [← hb5] at j1
  have K5 := Lib.hid j1
  have hd2 := rdecode_any v' m w3 (HO.out.bts.below hB2 hB2.size) HML.out
  rw [← HD.out] at hd2
  dsimp only at hd2
  have HD2 := Lib.hid hd2
  have HW3 := Lib.hid hw3
  have HB5 := Lib.hid hb5
  clear hd2 hB hB2 g1 j1 hi hmu hw3 hb5 HD1 LB
  go_wp2_with (fail)
  rw [← HW3.out]
  with_reducible refine HD2.out.mono ?_
  rintro e w4 ⟨q, u2, rfl, hi, hp, hB⟩
  rw [← HB5.out]
  obtain ⟨q0, q1, q2, q3, q4, q5, q6, ys⟩ := q
  obtain ⟨av, cv, hu⟩ := owns_form hi
  obtain ⟨mv, hmv⟩ : ∃ m, m = ys.length := ⟨_, rfl⟩
  rw [← hmv] at hu
  subst hu
  obtain ⟨g1, j1⟩ := new_block w4 (.cells #[.int .i64 q0, .int .i64 q1, .int .i64 q2, .int .i64 q3, .int .i64 q4, .int .i64 q5, .int .i64 q6, .slice av mv cv] 24)
  obtain ⟨w5, hw5⟩ : ∃ W, W = w4.alloc (.cells #[.int .i64 q0, .int .i64 q1, .int .i64 q2, .int .i64 q3, .int .i64 q4, .int .i64 q5, .int .i64 q6, .slice av mv cv] 24) := ⟨_, rfl⟩
  obtain ⟨b7, hb7⟩ : ∃ b, b = w4.heap.size := ⟨_, rfl⟩
  rw [← hw5] at g1 j1
  rw [← hb7] at j1
  have hB2 := hB.trans (g1.mono hB.size)
  have L5 := Lib.hid (L3.out.trans (hB2.mono L3.out.size))
  have K55 := Lib.hid (stays K5.out hB2)
  have K7 := Lib.hid j1
  have HXP := Lib.hid (OwnX.below HX.out hB2)
  have HXQ := Lib.hid (OwnX.below hi g1)
  have hsame := rsame_any ⟨k0, k1, k2, k3, k4, k5, k6, xs⟩ ⟨q0, q1, q2, q3, q4, q5, q6, ys⟩ (.slice au mu cu) (.slice av mv cv) w5 HXP.out.ims.1 HXQ.out.ims.1
  rw [sameP_iff.2 hp.symm] at hsame
  have HSM := Lib.hid hsame
  have HW5 := Lib.hid hw5
  have HB7 := Lib.hid hb7
  have HT5 := Lib.hid (HT.out.below L5.out HT.out.lt)
  clear hsame hB hB2 g1 j1 hi hmv hw5 hb7 HD2 hp HX K5 L3
  go_upto_region 6 with (fail)
  rw [← HW5.out, ← HB7.out]
  refine wp_region_lit ?_
  refine wpList_run rfl (exec_load_row 24 _ rfl b5 _ _ (.struct (Tryd.prog.fieldsOf 24)) rfl K55.out (by kernel_rfl) rfl (by kernel_rfl)) ?_
  refine wpList_run rfl (exec_load_row 24 _ rfl b7 _ _ (.struct (Tryd.prog.fieldsOf 24)) rfl K7.out (by kernel_rfl) rfl (by kernel_rfl)) ?_
  go_wp2_with (fail)
  with_reducible refine HSM.out.mono ?_
  rintro e w6 ⟨rfl, hB⟩
  have L6 := Lib.hid (L5.out.trans (hB.mono L5.out.size))
  have hcon := Lib.hid (awake_any w6 (HT5.out.below hB HT5.out.lt))
  clear HSM hB
  go_wp2_with (fail)
  with_reducible refine hcon.out.mono ?_
  rintro e w7 ⟨rfl, hB⟩
  have L7 := Lib.hid (L6.out.trans (hB.mono L6.out.size))
  clear hcon hB
  go_wp2
  go_ret
  exact ⟨rfl, L7.out⟩

end Go.Proofs.YtgnpjenpehfjbaaDoor

