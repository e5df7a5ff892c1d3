/- The document's reader: whole numbers, any numbers, texts, truths. -/
import Derived.Test.YtmekpmboghmfpaaCodeRefNum
import Derived.Test.YtmekpmboghmfpaaCodeField
namespace Go.Proofs.Ytmekpmboghmfpaa
open Go.RowKit

abbrev RFPost (rb : Nat) (vb : Value) (w : World) (T : Fld × Nat × Nat) (v z : Value) (x : Ending) (w' : World) : Prop :=
  (T.2.2 = 0 ∧ x = .returned v ∧ Rx rb (refO vb T.2.1 0) w w') ∨ (T.2.2 ≠ 0 ∧ x = .returned z ∧ ∃ a, Rx rb (refO vb a T.2.2) w w')

set_option maxRecDepth 100000 in
set_option maxHeartbeats 1000000 in
theorem ref_Whole (rb : Nat) (vb : Value) (l : List UInt8) (a : Nat) (w : World) (hc : w.heap[rb]? = some (refO vb a 0)) (hb : Bts w rb vb l) :
    Calls Try.prog 22 #[.pointer (some ⟨rb, 0, none⟩)] w fun x w' => RFPost rb vb w (fieldR l 1 a) (.int .i64 (fieldR l 1 a).1.num) (.int .i64 0) x w' := by
  have hT : fieldR l 1 a = if (numR l 10 a 0).2.2 ≠ 0 then (⟨1, 0, [], false⟩, a, (numR l 10 a 0).2.2) else if 9223372036854775807 < (numR l 10 a 0).1 then (⟨1, 0, [], false⟩, a, 20) else (⟨1, (numR l 10 a 0).1, [], false⟩, (numR l 10 a 0).2.1, 0) := by
    unfold fieldR; rw [if_pos rfl]
  have c1 := ref_Num rb vb l a w hc hb
  have hlt := numR_lt l 9 a 0 (by decide) (by decide)
  generalize fieldR l 1 a = T at *
  have HT := Lib.hid hT
  clear hT
  generalize numR l 10 a 0 = R at *
  obtain ⟨x, a', e⟩ := R
  simp only at hlt
  clear hc hb
  go_enter Try.func22, Try.ntmps22
  go_wp2_with fail
  refine c1.mono ?_
  rintro en w1 hp
  rcases hp with ⟨he, hx, hD⟩ | ⟨he, hx, b, hD⟩
  · simp only at he hx hD
    subst he hx
    have h2 : w1.cell? ⟨rb, 2, none⟩ = some (.int .i64 0) := cell_of_row w1 rb 2 _ _ _ hD.cur
    have hf2 : w1.frozen? ⟨rb, 2, none⟩ = false := frozen_of_row w1 rb 2 _ _ hD.cur
    have HD := Lib.hid hD
    clear c1 hD
    by_cases hbig : 9223372036854775807 < x
    · have hT2 : Hid (T = (⟨1, 0, [], false⟩, a, 20)) := by show T = _; rw [HT.out, if_neg (by simp), if_pos hbig]
      clear HT
      go_wp2
      go_ret
      refine .inr ?_
      rw [hT2.out]
      exact ⟨by simp, rfl, a', HD.out.code 20⟩
    · have hT2 : Hid (T = (⟨1, x, [], false⟩, a', 0)) := by show T = _; rw [HT.out, if_neg (by simp), if_neg hbig]
      clear HT
      go_wp2
      go_ret
      refine .inl ?_
      rw [hT2.out]
      exact ⟨rfl, rfl, HD.out⟩
  · simp only at he hx hD
    subst hx
    have h2 : w1.cell? ⟨rb, 2, none⟩ = some (.int .i64 (e : Int)) := cell_of_row w1 rb 2 _ _ _ hD.cur
    have hT2 : Hid (T = (⟨1, 0, [], false⟩, a, e)) := by show T = _; rw [HT.out, if_pos he]
    have he0 : ((e : Int) == 0) = false := by rw [beq_eq_false_iff_ne]; omega
    have he1 : ((e : Int) != 0) = true := by rw [bne_iff_ne]; omega
    have HD := Lib.hid hD
    have HE := Lib.hid he
    clear c1 hD HT he
    go_wp2
    go_ret
    refine .inr ?_
    rw [hT2.out]
    exact ⟨HE.out, rfl, b, HD.out⟩

set_option maxRecDepth 100000 in
set_option maxHeartbeats 1000000 in
theorem ref_Int (rb : Nat) (vb : Value) (l : List UInt8) (a : Nat) (w : World) (hc : w.heap[rb]? = some (refO vb a 0)) (hb : Bts w rb vb l) :
    Calls Try.prog 23 #[.pointer (some ⟨rb, 0, none⟩)] w fun x w' => RFPost rb vb w (fieldR l 2 a) (.int .i64 (fieldR l 2 a).1.num) (.int .i64 0) x w' := by
  have hT : fieldR l 2 a = if (numR l 10 a 0).2.2 ≠ 0 then (⟨2, 0, [], false⟩, a, (numR l 10 a 0).2.2) else (⟨2, unzig (numR l 10 a 0).1, [], false⟩, (numR l 10 a 0).2.1, 0) := by
    unfold fieldR; rw [if_neg (by decide), if_pos rfl]
  have c1 := ref_Num rb vb l a w hc hb
  have hlt := numR_lt l 9 a 0 (by decide) (by decide)
  generalize fieldR l 2 a = T at *
  have HT := Lib.hid hT
  clear hT
  generalize numR l 10 a 0 = R at *
  obtain ⟨x, a', e⟩ := R
  simp only at hlt
  clear hc hb
  go_enter Try.func23, Try.ntmps23
  go_wp2_with fail
  refine c1.mono ?_
  rintro en w1 hp
  rcases hp with ⟨he, hx, hD⟩ | ⟨he, hx, b, hD⟩
  · simp only at he hx hD
    subst he hx
    have HD := Lib.hid hD
    have hT2 : Hid (T = (⟨2, unzig x, [], false⟩, a', 0)) := by show T = _; rw [HT.out, if_neg (by simp)]
    clear c1 hD HT
    by_cases hev : x % 2 = 0
    · have hz : Hid (unzig x = (x : Int) / 2) := by show unzig x = _; unfold unzig; rw [if_pos hev]; omega
      have hev' : (((x : Int) % 2) == 0) = true := by rw [beq_iff_eq]; omega
      clear hev
      go_wp2
      go_ret
      refine .inl ?_
      rw [hT2.out]
      refine ⟨rfl, ?_, HD.out⟩
      rw [hz.out]
      rfl
    · have hz : Hid (unzig x = -((x : Int) / 2) - 1) := by show unzig x = _; unfold unzig; rw [if_neg hev]; omega
      have hev' : (((x : Int) % 2) == 0) = false := by rw [beq_eq_false_iff_ne]; omega
      clear hev
      go_wp2
      go_ret
      refine .inl ?_
      rw [hT2.out]
      refine ⟨rfl, ?_, HD.out⟩
      rw [hz.out]
      rfl
  · simp only at he hx hD
    subst hx
    have hT2 : Hid (T = (⟨2, 0, [], false⟩, a, e)) := by show T = _; rw [HT.out, if_pos he]
    have HD := Lib.hid hD
    have HE := Lib.hid he
    clear c1 hD HT he
    go_wp2
    go_ret
    refine .inr ?_
    rw [hT2.out]
    exact ⟨HE.out, rfl, b, HD.out⟩

set_option maxRecDepth 100000 in
set_option maxHeartbeats 1000000 in
theorem ref_Truth (rb : Nat) (vb : Value) (l : List UInt8) (a : Nat) (w : World) (hc : w.heap[rb]? = some (refO vb a 0)) (hb : Bts w rb vb l) :
    Calls Try.prog 25 #[.pointer (some ⟨rb, 0, none⟩)] w fun x w' => RFPost rb vb w (fieldR l 4 a) (.bool (fieldR l 4 a).1.is_) (.bool false) x w' := by
  have hT : fieldR l 4 a = if l.length ≤ a then (⟨4, 0, [], false⟩, a, 21) else if 1 < (l.getD a 0).toNat then (⟨4, 0, [], false⟩, a, 20) else (⟨4, 0, [], (l.getD a 0).toNat == 1⟩, a + 1, 0) := by
    unfold fieldR; rw [if_neg (by decide), if_neg (by decide), if_neg (by decide), if_pos rfl]
  generalize fieldR l 4 a = T at *
  have HC := Lib.hid (Rx.refl hc)
  obtain ⟨ao, cap, rfl, hcap, hml, _, hx⟩ := id hb
  have hnl := hb.len
  have h0 : w.cell? ⟨rb, 0, none⟩ = some (.slice ao l.length cap) := cell_of_row w rb 0 _ _ _ hc
  have h1 : w.cell? ⟨rb, 1, none⟩ = some (.int .i64 (a : Int)) := cell_of_row w rb 1 _ _ _ hc
  have h2 : w.cell? ⟨rb, 2, none⟩ = some (.int .i64 0) := cell_of_row w rb 2 _ _ _ hc
  have hf1 : w.frozen? ⟨rb, 1, none⟩ = false := frozen_of_row w rb 1 _ _ hc
  have hf2 : w.frozen? ⟨rb, 2, none⟩ = false := frozen_of_row w rb 2 _ _ hc
  by_cases hat : l.length ≤ a
  · rw [if_pos hat] at hT
    have HT := Lib.hid hT
    clear hT hc hb hx
    generalize l.length = n at *
    go_enter Try.func25, Try.ntmps25
    go_wp2
    go_quiet (fail)
    go_wp2
    go_ret
    refine .inr ?_
    rw [HT.out]
    exact ⟨by simp, rfl, a, (HC.out.drew _).code 21⟩
  · rw [if_neg hat] at hT
    have hlt : a < l.length := by omega
    obtain ⟨b, off, rfl, hbrb, hcell⟩ := hx (fun h => by subst h; simp at hlt)
    have hca := hcell a hlt
    have hne : b ≠ rb := by omega
    clear hcell hx hat hb hc
    generalize l.getD a 0 = c at *
    generalize l.length = n at *
    by_cases hbig : 1 < c.toNat
    · rw [if_pos hbig] at hT
      have HT := Lib.hid hT
      clear hT
      go_enter Try.func25, Try.ntmps25
      go_wp2
      go_quiet (fail)
      go_wp2
      go_quiet (fail)
      go_wp2
      go_ret
      refine .inr ?_
      rw [HT.out]
      exact ⟨by simp, rfl, a, (HC.out.drew _).code 20⟩
    · rw [if_neg hbig] at hT
      have HT := Lib.hid hT
      have hbe : ((c.toNat : Int) == 1) = (c.toNat == 1) := by rw [Bool.eq_iff_iff, beq_iff_eq, beq_iff_eq]; omega
      clear hT
      generalize (c.toNat == 1) = bb at *
      go_enter Try.func25, Try.ntmps25
      go_wp2
      go_quiet (fail)
      go_wp2
      go_quiet (fail)
      go_wp2
      go_ret
      refine .inl ?_
      rw [HT.out]
      exact ⟨rfl, rfl, (HC.out.drew _).step (a + 1)⟩

set_option maxRecDepth 100000 in
set_option maxHeartbeats 1000000 in
theorem ref_Str (rb : Nat) (vb : Value) (l : List UInt8) (a : Nat) (w : World) (hc : w.heap[rb]? = some (refO vb a 0)) (hb : Bts w rb vb l) (hat : a ≤ l.length) (hl : l.length ≤ 1000000000000) :
    Calls Try.prog 24 #[.pointer (some ⟨rb, 0, none⟩)] w fun x w' => RFPost rb vb w (fieldR l 3 a) (.string ⟨(fieldR l 3 a).1.text.toArray⟩) (.string ⟨#[]⟩) x w' := by
  have c1 := ref_Num rb vb l a w hc hb
  have hle := numR_le l 10 a 0 hat
  have hlt := numR_lt l 9 a 0 (by decide) (by decide)
  have hT : fieldR l 3 a = if (numR l 10 a 0).2.2 ≠ 0 then (⟨3, 0, [], false⟩, a, (numR l 10 a 0).2.2)
    else if l.length - (numR l 10 a 0).2.1 < (numR l 10 a 0).1 then (⟨3, 0, [], false⟩, a, 21)
    else (⟨3, 0, (l.take ((numR l 10 a 0).2.1 + (numR l 10 a 0).1)).drop (numR l 10 a 0).2.1, false⟩, (numR l 10 a 0).2.1 + (numR l 10 a 0).1, 0) := by
    unfold fieldR textR
    rw [if_neg (by decide), if_neg (by decide), if_pos rfl]
    by_cases h1 : (numR l 10 a 0).2.2 ≠ 0
    · rw [if_pos h1, if_pos h1, if_pos h1]
    · rw [if_neg h1, if_neg h1]
      by_cases h2 : l.length - (numR l 10 a 0).2.1 < (numR l 10 a 0).1
      · rw [if_pos h2, if_pos h2, if_pos (by simp)]
      · rw [if_neg h2, if_neg h2, if_neg (by simp)]
  generalize fieldR l 3 a = T at *
  have HT := Lib.hid hT
  clear hT
  generalize numR l 10 a 0 = R at *
  obtain ⟨x, a', e⟩ := R
  simp only at hle hlt
  have HBB := Lib.hid hb
  obtain ⟨ao, cap, hv, hcap, _⟩ := id hb
  clear hb hc
  go_enter Try.func24, Try.ntmps24
  go_wp2_with fail
  refine c1.mono ?_
  rintro en w1 hp
  rcases hp with ⟨he, hx, hD⟩ | ⟨he, hx, b, hD⟩
  · simp only at he hx hD
    subst he hx
    have h0 : w1.cell? ⟨rb, 0, none⟩ = some vb := cell_of_row w1 rb 0 _ _ _ hD.cur
    have h1 : w1.cell? ⟨rb, 1, none⟩ = some (.int .i64 (a' : Int)) := cell_of_row w1 rb 1 _ _ _ hD.cur
    have h2 : w1.cell? ⟨rb, 2, none⟩ = some (.int .i64 0) := cell_of_row w1 rb 2 _ _ _ hD.cur
    have hf : w1.frozen? ⟨rb, 1, none⟩ = false := frozen_of_row w1 rb 1 _ _ hD.cur
    have hf2 : w1.frozen? ⟨rb, 2, none⟩ = false := frozen_of_row w1 rb 2 _ _ hD.cur
    have hb1 := hD.bts HBB.out
    by_cases hbig : l.length - a' < x
    · have hT2 : Hid (T = (⟨3, 0, [], false⟩, a, 21)) := by show T = _; rw [HT.out, if_neg (by simp), if_pos hbig]
      have HD := Lib.hid hD
      clear HT hD c1 HBB hb1 hf
      generalize l.length = n at *
      subst hv
      go_wp2
      go_quiet (fail)
      go_wp2
      go_ret
      refine .inr ?_
      rw [hT2.out]
      exact ⟨by simp, rfl, a', (HD.out.drew _).code 21⟩
    · obtain ⟨v1, hb2, hr1⟩ := hb1.cutB a' (a' + x) (by omega) (by omega)
      have hT2 : Hid (T = (⟨3, 0, (l.take (a' + x)).drop a', false⟩, a' + x, 0)) := by show T = _; rw [HT.out, if_neg (by simp), if_neg hbig]
      have HD := Lib.hid hD
      have hs : ∀ n, (convert 22 9 v1).run Try.prog (w1.drewN n) = .ok (.string ⟨((l.take (a' + x)).drop a').toArray⟩) (w1.drewN n) := fun n =>
        (hb2.below ((Rx.refl hD.cur).drew n).below (Nat.le_refl _)).strB
      have hcast : (((a' + x : Nat)) : Int) = (a' : Int) + (x : Int) := by omega
      rw [hcast] at hr1
      clear HT hD c1 HBB hb1 hcast
      generalize (l.take (a' + x)).drop a' = tx at *
      generalize l.length = n at *
      subst hv
      go_wp2
      go_quiet (fail)
      go_wp2
      go_quiet (fail)
      go_wp2
      go_ret
      refine .inl ?_
      rw [hT2.out]
      exact ⟨rfl, rfl, (HD.out.drew _).step (a' + x)⟩
  · simp only at he hx hD
    subst hx
    have h0 : w1.cell? ⟨rb, 0, none⟩ = some vb := cell_of_row w1 rb 0 _ _ _ hD.cur
    have h1 : w1.cell? ⟨rb, 1, none⟩ = some (.int .i64 (b : Int)) := cell_of_row w1 rb 1 _ _ _ hD.cur
    have h2 : w1.cell? ⟨rb, 2, none⟩ = some (.int .i64 (e : Int)) := cell_of_row w1 rb 2 _ _ _ hD.cur
    have hT2 : Hid (T = (⟨3, 0, [], false⟩, a, e)) := by show T = _; rw [HT.out, if_pos he]
    have he0 : ((e : Int) == 0) = false := by rw [beq_eq_false_iff_ne]; omega
    have he1 : ((e : Int) != 0) = true := by rw [bne_iff_ne]; omega
    have HD := Lib.hid hD
    have HE := Lib.hid he
    clear c1 hD HT he
    go_wp2
    go_quiet (fail)
    go_wp2
    go_ret
    refine .inr ?_
    rw [hT2.out]
    exact ⟨HE.out, rfl, b, HD.out.drew _⟩

end Go.Proofs.Ytmekpmboghmfpaa
