/- Contracts: Text on both sides, awake (by program: wip/tools/gen_derive4.py). -/
import Derived.Test.YtahfapeggijfkaaDoorDerive3
namespace Go.Proofs.YtahfapeggijfkaaDoor
open Go.RowKit

/-- a text and a number -/
def txtV (T : List UInt8 × Int) : Value := .tuple #[.string ⟨T.1.toArray⟩, .int .i64 T.2]
/-- what is said of a mean -/
def saidF (word : List UInt8) (x s : Int) : List UInt8 × Int := if (meanF x s).2 = 0 then (word ++ (32 :: fracText (meanF x s).1.1 (meanF x s).1.2), 0) else ([], (meanF x s).2)
def cntF (x s : Int) : List UInt8 × Int := if (countF x s).2 = 0 then ([99, 111, 117, 110, 116, 32] ++ Lib.itoa (countF x s).1, 0) else ([], (countF x s).2)
/-- Text -/
def textF (kind x s : Int) : List UInt8 × Int := if kind = 1 then saidF [109, 101, 97, 110] x s else if kind = 2 then cntF x s else if kind = 3 then saidF [115, 101, 99, 111, 110, 100] x s else ([], 46)
theorem meanF_fit {x s : Int} {a b c : Int} (h : meanF x s = ((a, b), c)) : Fit a b := by
  unfold meanF at h
  split at h
  · exact fit_mk h
  · cases h; unfold Fit; omega
theorem fracText_len {n d : Int} (h : Fit n d) : (fracText n d).length ≤ 43 := by
  obtain ⟨h1, h2, h3, h4⟩ := h
  have L1 := Lib.itoa_length_le n (by omega) (by omega)
  have L2 := Lib.itoa_length_le d (by omega) (by omega)
  unfold fracText
  split <;> simp <;> omega
theorem countF_bd {x s : Int} : -9223372036854775808 ≤ (countF x s).1 ∧ (countF x s).1 ≤ 9223372036854775807 := by
  unfold countF
  by_cases h : wrongF x s = 0
  · obtain ⟨⟨s1, s2⟩, e1, e2⟩ := wrongF_bd h
    rw [if_pos h]
    by_cases h0 : x ≤ 0
    · rw [if_pos h0]; show -9223372036854775808 ≤ (0 : Int) ∧ (0 : Int) ≤ 9223372036854775807; decide
    · rw [if_neg h0]
      show _ ≤ (2 * s + x) / (2 * x) ∧ (2 * s + x) / (2 * x) ≤ _
      have h1 : 0 ≤ (2 * s + x) / (2 * x) := Int.ediv_nonneg (by omega) (by omega)
      have h2 : (2 * s + x) / (2 * x) ≤ 2 * s + x := Int.ediv_le_self _ (by omega)
      omega
  · rw [if_neg h]; show -9223372036854775808 ≤ (0 : Int) ∧ (0 : Int) ≤ 9223372036854775807; decide

set_option maxRecDepth 100000 in
theorem counted_any (x s : Int) (w : World) (ht : TabT w) : Calls Tryd.prog 46 #[.int .i64 x, .int .i64 s] w fun e w' => e = .returned (txtV (cntF x s)) ∧ Below w.heap.size w w' := by
  have c1 : ∀ W, _ := fun W => count_any x s W
  have hb := @countF_bd x s
  have hF : cntF x s = if (countF x s).2 = 0 then ([99, 111, 117, 110, 116, 32] ++ Lib.itoa (countF x s).1, 0) else ([], (countF x s).2) := rfl
  generalize countF x s = T at *
  obtain ⟨n, c⟩ := T
  simp only at c1 hb hF
  by_cases hc : c = 0
  · subst hc
    rw [if_pos rfl] at hF
    rw [hF]
    have hlen := Lib.itoa_length_le n hb.1 hb.2
    have HC : Hid ((⟨#[99, 111, 117, 110, 116, 32]⟩ : ByteArray) ++ ⟨(Lib.itoa n).toArray⟩ = ⟨([99, 111, 117, 110, 116, 32] ++ Lib.itoa n).toArray⟩) := ByteArray.ext (by simp [ByteArray.data_append])
    have c2 : ∀ W, TabT W → _ := fun W hT => fmt_any n hb.1 hb.2 W hT
    clear hF hb
    go_enter Tryd.func46, Tryd.ntmps46
    go_wp2_with (fail)
    refine (c1 _).mono ?_
    rintro e w1 ⟨rfl, rfl⟩
    go_wp2_with (fail)
    refine (c2 _ ht).mono ?_
    rintro e w1 ⟨rfl, hB⟩
    have L := Lib.hid hB
    clear hB c1 c2
    go_wp2
    go_ret2
    refine ⟨?_, L.out⟩
    show _ = Ending.returned (.tuple #[.string ⟨([99, 111, 117, 110, 116, 32] ++ Lib.itoa n).toArray⟩, .int .i64 0])
    rw [← HC.out]
    rfl
  · rw [if_neg hc] at hF
    rw [hF]
    have hb2 : (c != 0) = true := by rw [bne_iff_ne]; exact hc
    clear hF hb hc
    go_enter Tryd.func46, Tryd.ntmps46
    go_wp2_with (fail)
    refine (c1 _).mono ?_
    rintro e w1 ⟨rfl, rfl⟩
    go_wp2
    go_ret2
    exact ⟨rfl, Below.refl _ _⟩
set_option maxRecDepth 100000 in
set_option maxHeartbeats 2000000 in
theorem said_any (word : ByteArray) (x s : Int) (bx : Nat) (w : World) (hw : word.size ≤ 100) (hk : w.heap[bx]? = some (.cells #[.string word] 9 (0, 0))) (ht : TabT w) :
    Calls Tryd.prog 50 #[.int .i64 x, .int .i64 s, .pointer (some ⟨bx, 0, none⟩)] w fun e w' => e = .returned (txtV (saidF word.data.toList x s)) ∧ Below w.heap.size w w' := by
  have c1 : ∀ W, _ := fun W => mean_any x s W
  have hF : saidF word.data.toList x s = if (meanF x s).2 = 0 then (word.data.toList ++ (32 :: fracText (meanF x s).1.1 (meanF x s).1.2), 0) else ([], (meanF x s).2) := rfl
  obtain ⟨⟨⟨n, d⟩, c⟩, hm⟩ : ∃ r, meanF x s = r := ⟨_, rfl⟩
  have hfit := meanF_fit hm
  rw [hm] at c1 hF
  simp only at hF
  have KW := Lib.hid hk
  clear hk hm
  by_cases hc : c = 0
  · subst hc
    rw [if_pos rfl] at hF
    rw [hF]
    have HC : Hid (word ++ ⟨#[32]⟩ ++ ⟨(fracText n d).toArray⟩ = ⟨(word.data.toList ++ (32 :: fracText n d)).toArray⟩) := ByteArray.ext (by simp [ByteArray.data_append])
    have hlen := fracText_len hfit
    have hadd1 : ∀ (W : World), (Op.stringOp .add word ⟨#[32]⟩).run Tryd.prog W = .ok (.string (word ++ ⟨#[32]⟩)) W := fun W => run_string_add W _ _ (by omega) (by decide)
    have hadd2 : ∀ (W : World), (Op.stringOp .add (word ++ ⟨#[32]⟩) ⟨(fracText n d).toArray⟩).run Tryd.prog W = .ok (.string (word ++ ⟨#[32]⟩ ++ ⟨(fracText n d).toArray⟩)) W := fun W => run_string_add W _ _ (by rw [ByteArray.size_append]; show ((word.size + 1 : Nat) : Int) ≤ _; omega) (by show (((fracText n d).toArray.size : Nat) : Int) ≤ _; simp; omega)
    obtain ⟨f1, f2, f3, f4⟩ := hfit
    clear hF hlen
    go_enter Tryd.func50, Tryd.ntmps50
    go_wp2_with (fail)
    refine (c1 _).mono ?_
    rintro e w1 ⟨rfl, hB⟩
    simp only [mkV]
    have L1 := Lib.hid hB
    have KW1 := Lib.hid (stays KW.out hB)
    obtain ⟨gN, kF0⟩ := box_new w1 n d
    have L := Lib.hid (L1.out.trans (gN.mono L1.out.size))
    have KW := Lib.hid (stays KW1.out gN)
    have kF := Lib.hid kF0
    clear hB gN kF0 c1 L1 KW1
    go_wp2_with (fail)
    generalize w1.heap.size = xF at *
    refine wp_flow2 (by kernel_rfl) (by kernel_rfl) (fun i => if i = 5 then 5 else if i = 6 then 6 else 18 + i) (by kernel_rfl) (by kernel_rfl) (by kernel_rfl) (fun i v W => ([(fun zv _ => zv = (.string word)), (fun zv _ => zv = (.string (word ++ ⟨#[32]⟩))), (fun zv _ => zv = (frV n d)), (fun zv _ => zv = (.string ⟨(fracText n d).toArray⟩)), (fun zv _ => zv = (.string ((word ++ ⟨#[32]⟩) ++ ⟨(fracText n d).toArray⟩))), (fun zv _ => zv = (.string ((word ++ ⟨#[32]⟩) ++ ⟨(fracText n d).toArray⟩))), (fun zv _ => zv = (.int .i64 0))] : List (Value → World → Prop)).getD i (fun _ _ => True) v W) ?_ ?_ (by kernel_rfl) ?_
    · intro i hi
      replace hi : i < 7 := hi
      rcases (show i = 0 ∨ i = 1 ∨ i = 2 ∨ i = 3 ∨ i = 4 ∨ i = 5 ∨ i = 6 by omega) with rfl | rfl | rfl | rfl | rfl | rfl | rfl
      · exact Stays.eq _
      · exact Stays.eq _
      · exact Stays.eq _
      · exact Stays.eq _
      · exact Stays.eq _
      · exact Stays.eq _
      · exact Stays.eq _
    · intro i o a W hi ho hB hf hd
      replace hi : i < 7 := hi
      rcases (show i = 0 ∨ i = 1 ∨ i = 2 ∨ i = 3 ∨ i = 4 ∨ i = 5 ∨ i = 6 by omega) with rfl | rfl | rfl | rfl | rfl | rfl | rfl
      · replace ho := op_at ho (by rfl)
        subst ho
        have f2 : a.tmps.getD 2 undef = (.pointer (some ⟨bx, 0, none⟩)) := hf 2 (by kernel_rfl)
        have kw := stays KW.out hB
        have b0 := cell_of_row _ _ 0 _ _ _ kw
        refine .inl ⟨(fun j b h => by cases h), FlowOp.pure _ (by simp [go_sem, Act.eval, f2, b0]) rfl⟩
      · replace ho := op_at ho (by rfl)
        subst ho
        have d0 : a.tmps.getD 18 undef = (.string word) := hd 0 (by kernel_rfl)
        refine .inl ⟨(fun j b h => by cases h), FlowOp.pure _ (by simp [go_sem, Act.eval, d0, hadd1]) rfl⟩
      · replace ho := op_at ho (by rfl)
        subst ho
        have f7 : a.tmps.getD 7 undef = (.pointer (some ⟨xF, 0, none⟩)) := hf 7 (by kernel_rfl)
        have kf := stays kF.out hB
        have b0 := frO_0 kf
        have b1 := frO_1 kf
        refine .inl ⟨(fun j b h => by cases h), FlowOp.pure _ (by simp [go_sem, Act.eval, f7, b0, b1]) rfl⟩
      · replace ho := op_at ho (by rfl)
        subst ho
        have d2 : a.tmps.getD 20 undef = (frV n d) := hd 2 (by kernel_rfl)
        refine .inl ⟨(fun j b h => by cases h), FlowOp.call 51 #[(frV n d)] (by simp [go_sem, Act.eval, d2]) ?_⟩
        refine (text_any n d (by omega) (by omega) (by omega) (by omega) W (ht.below (L.out.trans (hB.mono L.out.size)))).mono ?_
        rintro e W' ⟨rfl, hBe⟩
        exact ⟨_, rfl, hBe, rfl⟩
      · replace ho := op_at ho (by rfl)
        subst ho
        have d1 : a.tmps.getD 19 undef = (.string (word ++ ⟨#[32]⟩)) := hd 1 (by kernel_rfl)
        have d3 : a.tmps.getD 21 undef = (.string ⟨(fracText n d).toArray⟩) := hd 3 (by kernel_rfl)
        refine .inl ⟨(fun j b h => by cases h), FlowOp.pure _ (by simp [go_sem, Act.eval, d1, d3, hadd2]) rfl⟩
      · replace ho := op_at ho (by rfl)
        subst ho
        have d4 : a.tmps.getD 22 undef = (.string ((word ++ ⟨#[32]⟩) ++ ⟨(fracText n d).toArray⟩)) := hd 4 (by kernel_rfl)
        refine .inl ⟨(fun j b h => by cases h), FlowOp.pure _ (by simp [go_sem, Act.eval, d4]) rfl⟩
      · replace ho := op_at ho (by rfl)
        subst ho
        refine .inl ⟨(fun j b h => by cases h), FlowOp.pure _ (by simp [go_sem, Act.eval]) rfl⟩
    · intro vs4 W4 hB4 hv
      have h0 : vs4 0 = (.string word) := hv 0 (show 0 < 7 by decide)
      have h1 : vs4 1 = (.string (word ++ ⟨#[32]⟩)) := hv 1 (show 1 < 7 by decide)
      have h2 : vs4 2 = (frV n d) := hv 2 (show 2 < 7 by decide)
      have h3 : vs4 3 = (.string ⟨(fracText n d).toArray⟩) := hv 3 (show 3 < 7 by decide)
      have h4 : vs4 4 = (.string ((word ++ ⟨#[32]⟩) ++ ⟨(fracText n d).toArray⟩)) := hv 4 (show 4 < 7 by decide)
      have h5 : vs4 5 = (.string ((word ++ ⟨#[32]⟩) ++ ⟨(fracText n d).toArray⟩)) := hv 5 (show 5 < 7 by decide)
      have h6 : vs4 6 = (.int .i64 0) := hv 6 (show 6 < 7 by decide)
      clear hv
      show (_ : Exit → Act → World → Prop) Exit.normal (puts _ vs4 7 _) W4
      simp only [puts, h0, h1, h2, h3, h4, h5, h6]
      clear h0 h1 h2 h3 h4 h5 h6
      go_simp
      go_wp2
      go_ret2
      refine ⟨?_, L.out.trans (hB4.mono L.out.size)⟩
      show _ = Ending.returned (.tuple #[.string ⟨(word.data.toList ++ (32 :: fracText n d)).toArray⟩, .int .i64 0])
      rw [← HC.out]
      rfl
  · rw [if_neg hc] at hF
    rw [hF]
    have hb2 : (c != 0) = true := by rw [bne_iff_ne]; exact hc
    clear hF hc hfit
    go_enter Tryd.func50, Tryd.ntmps50
    go_wp2_with (fail)
    refine (c1 _).mono ?_
    rintro e w1 ⟨rfl, hB⟩
    simp only [mkV]
    have L := Lib.hid hB
    clear hB c1
    go_wp2
    go_ret2
    exact ⟨rfl, bel_alloc L.out L.out.size⟩
set_option maxRecDepth 100000 in
set_option maxHeartbeats 1000000 in
theorem dtext_any (kind x s : Int) (w : World) (ht : TabT w) : Calls Tryd.prog 14 #[.int .i64 kind, .int .i64 x, .int .i64 s] w fun e w' => e = .returned (txtV (textF kind x s)) ∧ Below w.heap.size w w' := by
  have cases4 : kind = 1 ∨ kind = 2 ∨ kind = 3 ∨ kind = 4 ∨ (kind < 1 ∨ 4 < kind) := by omega
  rcases cases4 with rfl | rfl | rfl | rfl | h
  · have hF : textF 1 x s = saidF (meanW : ByteArray).data.toList x s := rfl
    rw [hF]
    have c2 : ∀ bx W, W.heap[bx]? = some (Obj.cells #[.string meanW] 9 (0, 0)) → TabT W → _ := fun bx W hk hT => said_any meanW x s bx W (by decide) hk hT
    generalize saidF (meanW : ByteArray).data.toList x s = T at *
    unfold txtV at *
    clear hF
    go_enter Tryd.func14, Tryd.ntmps14
    go_wp2_with (fail)
    refine (ways_any _).mono ?_
    rintro e w1 ⟨b, p, q, rfl, hW, hB⟩
    have hlk := run_got hW.1 1 _ _ (find1 p q)
    obtain ⟨HM, HP, HQ⟩ := hW
    have HPP := Lib.hid HP
    have HQQ := Lib.hid HQ
    have L := Lib.hid hB
    clear HM HP HQ hB
    simp only [way1] at hlk
    go_wp2_with (fail)
    refine (c2 _ _ (stays HPP.out (bel_alloc (Below.refl _ _) (Nat.le_refl _))) (ht.below (bel_alloc L.out L.out.size))).mono ?_
    rintro e w2 ⟨rfl, hB⟩
    have L3 := Lib.hid ((bel_alloc L.out L.out.size).trans (hB.mono (bel_alloc L.out L.out.size).size))
    clear hB
    go_wp2
    go_ret2
    exact ⟨rfl, L3.out⟩
  · have hF : textF 2 x s = cntF x s := rfl
    rw [hF]
    have c2 : ∀ W, TabT W → _ := fun W hT => counted_any x s W hT
    generalize cntF x s = T at *
    unfold txtV at *
    clear hF
    go_enter Tryd.func14, Tryd.ntmps14
    go_wp2_with (fail)
    refine (ways_any _).mono ?_
    rintro e w1 ⟨b, p, q, rfl, hW, hB⟩
    have hlk := run_got hW.1 2 _ _ (find2 p q)
    obtain ⟨HM, HP, HQ⟩ := hW
    have HPP := Lib.hid HP
    have HQQ := Lib.hid HQ
    have L := Lib.hid hB
    clear HM HP HQ hB
    simp only [way2] at hlk
    go_wp2_with (fail)
    refine (c2 _ (ht.below (bel_alloc L.out L.out.size))).mono ?_
    rintro e w2 ⟨rfl, hB⟩
    have L3 := Lib.hid ((bel_alloc L.out L.out.size).trans (hB.mono (bel_alloc L.out L.out.size).size))
    clear hB
    go_wp2
    go_ret2
    exact ⟨rfl, L3.out⟩
  · have hF : textF 3 x s = saidF (secW : ByteArray).data.toList x s := rfl
    rw [hF]
    have c2 : ∀ bx W, W.heap[bx]? = some (Obj.cells #[.string secW] 9 (0, 0)) → TabT W → _ := fun bx W hk hT => said_any secW x s bx W (by decide) hk hT
    generalize saidF (secW : ByteArray).data.toList x s = T at *
    unfold txtV at *
    clear hF
    go_enter Tryd.func14, Tryd.ntmps14
    go_wp2_with (fail)
    refine (ways_any _).mono ?_
    rintro e w1 ⟨b, p, q, rfl, hW, hB⟩
    have hlk := run_got hW.1 3 _ _ (find3 p q)
    obtain ⟨HM, HP, HQ⟩ := hW
    have HPP := Lib.hid HP
    have HQQ := Lib.hid HQ
    have L := Lib.hid hB
    clear HM HP HQ hB
    simp only [way3] at hlk
    go_wp2_with (fail)
    refine (c2 _ _ (stays HQQ.out (bel_alloc (Below.refl _ _) (Nat.le_refl _))) (ht.below (bel_alloc L.out L.out.size))).mono ?_
    rintro e w2 ⟨rfl, hB⟩
    have L3 := Lib.hid ((bel_alloc L.out L.out.size).trans (hB.mono (bel_alloc L.out L.out.size).size))
    clear hB
    go_wp2
    go_ret2
    exact ⟨rfl, L3.out⟩
  · have hF : textF 4 x s = ([], 46) := rfl
    rw [hF]
    clear hF
    go_enter Tryd.func14, Tryd.ntmps14
    go_wp2_with (fail)
    refine (ways_any _).mono ?_
    rintro e w1 ⟨b, p, q, rfl, hW, hB⟩
    have hlk := run_got hW.1 4 _ _ (find4 p q)
    obtain ⟨HM, HP, HQ⟩ := hW
    have HPP := Lib.hid HP
    have HQQ := Lib.hid HQ
    have L := Lib.hid hB
    clear HM HP HQ hB
    simp only [way4] at hlk
    go_wp2_with (fail)
    refine (none_any x s _).mono ?_
    rintro e w2 ⟨rfl, rfl⟩
    go_wp2
    go_ret2
    exact ⟨rfl, bel_alloc L.out L.out.size⟩
  · have hF : textF kind x s = ([], 46) := by unfold textF; rw [if_neg (by omega), if_neg (by omega), if_neg (by omega)]
    rw [hF]
    have e1 : kind ≠ 1 := by omega
    have e2 : kind ≠ 2 := by omega
    have e3 : kind ≠ 3 := by omega
    have e4 : kind ≠ 4 := by omega
    have HE := Lib.hid (And.intro e1 (And.intro e2 (And.intro e3 e4)))
    clear hF h e1 e2 e3 e4
    go_enter Tryd.func14, Tryd.ntmps14
    go_wp2_with (fail)
    refine (ways_any _).mono ?_
    rintro e w1 ⟨b, p, q, rfl, hW, hB⟩
    have hlk := run_not hW.1 kind (find0 p q kind HE.out.1 HE.out.2.1 HE.out.2.2.1 HE.out.2.2.2)
    obtain ⟨HM, HP, HQ⟩ := hW
    have HPP := Lib.hid HP
    have HQQ := Lib.hid HQ
    have L := Lib.hid hB
    clear HM HP HQ hB
    go_wp2
    go_ret2
    exact ⟨rfl, bel_alloc L.out L.out.size⟩
set_option maxRecDepth 100000 in
set_option maxHeartbeats 1000000 in
theorem rdtext_any (kind x s : Int) (w : World) (ht : TabT w) : Calls Tryd.prog 15 #[.int .i64 kind, .int .i64 x, .int .i64 s] w fun e w' => e = .returned (txtV (textF kind x s)) ∧ Below w.heap.size w w' := by
  have cases4 : kind = 1 ∨ kind = 2 ∨ kind = 3 ∨ (kind ≠ 1 ∧ kind ≠ 2 ∧ kind ≠ 3) := by omega
  rcases cases4 with rfl | rfl | rfl | ⟨h1, h2, h3⟩
  · have c1 : ∀ W, _ := fun W => rmean_any x s W
    have hF : textF 1 x s = if (meanF x s).2 = 0 then ([109, 101, 97, 110] ++ (32 :: fracText (meanF x s).1.1 (meanF x s).1.2), 0) else ([], (meanF x s).2) := rfl
    obtain ⟨⟨⟨n, d⟩, c⟩, hm⟩ : ∃ r, meanF x s = r := ⟨_, rfl⟩
    have hfit := meanF_fit hm
    rw [hm] at c1 hF
    simp only at hF
    clear hm
    by_cases hc : c = 0
    · subst hc
      rw [if_pos rfl] at hF
      rw [hF]
      have HC : Hid ((⟨#[109, 101, 97, 110, 32]⟩ : ByteArray) ++ ⟨(fracText n d).toArray⟩ = ⟨([109, 101, 97, 110] ++ (32 :: fracText n d)).toArray⟩) := ByteArray.ext (by simp [ByteArray.data_append])
      have hlen := fracText_len hfit
      obtain ⟨f1, f2, f3, f4⟩ := hfit
      clear hF
      go_enter Tryd.func15, Tryd.ntmps15
      go_wp2_with (fail)
      refine (c1 _).mono ?_
      rintro e w1 ⟨rfl, hB⟩
      simp only [mkV]
      have L1 := Lib.hid hB
      obtain ⟨gN, kF0⟩ := box_new w1 n d
      have L := Lib.hid (L1.out.trans (gN.mono L1.out.size))
      have b0 := frO_0 kF0
      have b1 := frO_1 kF0
      clear hB gN kF0 c1 L1
      go_wp2_with (fail)
      refine (rtext_any n d (by omega) (by omega) (by omega) (by omega) _ (ht.below L.out)).mono ?_
      rintro e w2 ⟨rfl, hB⟩
      have L3 := Lib.hid (L.out.trans (hB.mono L.out.size))
      clear hB b0 b1
      go_wp2
      go_ret2
      refine ⟨?_, L3.out⟩
      show _ = Ending.returned (.tuple #[.string ⟨([109, 101, 97, 110] ++ (32 :: fracText n d)).toArray⟩, .int .i64 0])
      rw [← HC.out]
      rfl
    · rw [if_neg hc] at hF
      rw [hF]
      have hb2 : (c != 0) = true := by rw [bne_iff_ne]; exact hc
      clear hF hc hfit
      go_enter Tryd.func15, Tryd.ntmps15
      go_wp2_with (fail)
      refine (c1 _).mono ?_
      rintro e w1 ⟨rfl, hB⟩
      simp only [mkV]
      have L := Lib.hid hB
      clear hB c1
      go_wp2
      go_ret2
      exact ⟨rfl, bel_alloc L.out L.out.size⟩
  · have c1 : ∀ W, _ := fun W => rcount_any x s W
    have hb := @countF_bd x s
    have hF : textF 2 x s = if (countF x s).2 = 0 then ([99, 111, 117, 110, 116, 32] ++ Lib.itoa (countF x s).1, 0) else ([], (countF x s).2) := rfl
    generalize countF x s = T at *
    obtain ⟨n, c⟩ := T
    simp only at c1 hb hF
    by_cases hc : c = 0
    · subst hc
      rw [if_pos rfl] at hF
      rw [hF]
      have hlen := Lib.itoa_length_le n hb.1 hb.2
      have HC : Hid ((⟨#[99, 111, 117, 110, 116, 32]⟩ : ByteArray) ++ ⟨(Lib.itoa n).toArray⟩ = ⟨([99, 111, 117, 110, 116, 32] ++ Lib.itoa n).toArray⟩) := ByteArray.ext (by simp [ByteArray.data_append])
      have c2 : ∀ W, TabT W → _ := fun W hT => fmt_any n hb.1 hb.2 W hT
      clear hF hb
      go_enter Tryd.func15, Tryd.ntmps15
      go_wp2_with (fail)
      refine (c1 _).mono ?_
      rintro e w1 ⟨rfl, rfl⟩
      go_wp2_with (fail)
      refine (c2 _ ht).mono ?_
      rintro e w1 ⟨rfl, hB⟩
      have L := Lib.hid hB
      clear hB c1 c2
      go_wp2
      go_ret2
      refine ⟨?_, L.out⟩
      show _ = Ending.returned (.tuple #[.string ⟨([99, 111, 117, 110, 116, 32] ++ Lib.itoa n).toArray⟩, .int .i64 0])
      rw [← HC.out]
      rfl
    · rw [if_neg hc] at hF
      rw [hF]
      have hb2 : (c != 0) = true := by rw [bne_iff_ne]; exact hc
      clear hF hb hc
      go_enter Tryd.func15, Tryd.ntmps15
      go_wp2_with (fail)
      refine (c1 _).mono ?_
      rintro e w1 ⟨rfl, rfl⟩
      go_wp2
      go_ret2
      exact ⟨rfl, Below.refl _ _⟩
  · have c1 : ∀ W, _ := fun W => rmean_any x s W
    have hF : textF 3 x s = if (meanF x s).2 = 0 then ([115, 101, 99, 111, 110, 100] ++ (32 :: fracText (meanF x s).1.1 (meanF x s).1.2), 0) else ([], (meanF x s).2) := rfl
    obtain ⟨⟨⟨n, d⟩, c⟩, hm⟩ : ∃ r, meanF x s = r := ⟨_, rfl⟩
    have hfit := meanF_fit hm
    rw [hm] at c1 hF
    simp only at hF
    clear hm
    by_cases hc : c = 0
    · subst hc
      rw [if_pos rfl] at hF
      rw [hF]
      have HC : Hid ((⟨#[115, 101, 99, 111, 110, 100, 32]⟩ : ByteArray) ++ ⟨(fracText n d).toArray⟩ = ⟨([115, 101, 99, 111, 110, 100] ++ (32 :: fracText n d)).toArray⟩) := ByteArray.ext (by simp [ByteArray.data_append])
      have hlen := fracText_len hfit
      obtain ⟨f1, f2, f3, f4⟩ := hfit
      clear hF
      go_enter Tryd.func15, Tryd.ntmps15
      go_wp2_with (fail)
      refine (c1 _).mono ?_
      rintro e w1 ⟨rfl, hB⟩
      simp only [mkV]
      have L1 := Lib.hid hB
      obtain ⟨gN, kF0⟩ := box_new w1 n d
      have L := Lib.hid (L1.out.trans (gN.mono L1.out.size))
      have b0 := frO_0 kF0
      have b1 := frO_1 kF0
      clear hB gN kF0 c1 L1
      go_wp2_with (fail)
      refine (rtext_any n d (by omega) (by omega) (by omega) (by omega) _ (ht.below L.out)).mono ?_
      rintro e w2 ⟨rfl, hB⟩
      have L3 := Lib.hid (L.out.trans (hB.mono L.out.size))
      clear hB b0 b1
      go_wp2
      go_ret2
      refine ⟨?_, L3.out⟩
      show _ = Ending.returned (.tuple #[.string ⟨([115, 101, 99, 111, 110, 100] ++ (32 :: fracText n d)).toArray⟩, .int .i64 0])
      rw [← HC.out]
      rfl
    · rw [if_neg hc] at hF
      rw [hF]
      have hb2 : (c != 0) = true := by rw [bne_iff_ne]; exact hc
      clear hF hc hfit
      go_enter Tryd.func15, Tryd.ntmps15
      go_wp2_with (fail)
      refine (c1 _).mono ?_
      rintro e w1 ⟨rfl, hB⟩
      simp only [mkV]
      have L := Lib.hid hB
      clear hB c1
      go_wp2
      go_ret2
      exact ⟨rfl, bel_alloc L.out L.out.size⟩
  · have hF : textF kind x s = ([], 46) := by unfold textF; rw [if_neg h1, if_neg h2, if_neg h3]
    rw [hF]
    have b1 : (kind == 1) = false := by rw [beq_eq_false_iff_ne]; exact h1
    have b2 : (kind == 2) = false := by rw [beq_eq_false_iff_ne]; exact h2
    have b3 : (kind == 3) = false := by rw [beq_eq_false_iff_ne]; exact h3
    clear hF h1 h2 h3
    go_enter Tryd.func15, Tryd.ntmps15
    go_wp2
    go_ret2
    exact ⟨rfl, Below.refl _ _⟩

theorem mean_a : meanF (-6) 4 = ((-3, 2), 0) := by decide
theorem mean_b : meanF 6 4 = ((3, 2), 0) := by decide
theorem count_a : countF 4 10 = (3, 0) := by decide
theorem total_a : totalF 3 2 10 = ((15, 1), 0) := by decide
theorem input_a : inputF 3 (-3) 4 = (36, 0) := by decide
theorem text_a : textF 1 6 4 = ([109, 101, 97, 110, 32, 51, 47, 50], 0) := by
  have h : textF 1 6 4 = saidF [109, 101, 97, 110] 6 4 := rfl
  rw [h]
  unfold saidF
  rw [mean_b]
  simp [fracText, Lib.itoa, Lib.decDigits]

set_option maxRecDepth 100000 in
set_option maxHeartbeats 1000000 in
theorem awake_any (w : World) (ht : TabT w) : Calls Tryd.prog 16 #[] w fun e w' => e = .returned (.bool true) ∧ Below w.heap.size w w' := by
  have c1 : ∀ W, _ := fun W => mean_any (-6) 4 W
  rw [mean_a] at c1
  have c2 : ∀ W, _ := fun W => count_any 4 10 W
  rw [count_a] at c2
  have c3 : ∀ W, _ := fun W => total_any 3 2 10 W (by omega) (by omega) (by omega) (by omega)
  rw [total_a] at c3
  have c4 : ∀ W, _ := fun W => input_any 3 (-3) 4 W
  rw [input_a] at c4
  have c5 : ∀ W, TabT W → _ := fun W hT => dtext_any 1 6 4 W hT
  rw [text_a] at c5
  unfold numV at c4
  unfold txtV at c5
  have L : Hid (Below w.heap.size w w) := Below.refl _ _
  go_enter Tryd.func16, Tryd.ntmps16
  go_wp2_with (fail)
  refine (c1 _).mono ?_
  rintro e w1 ⟨rfl, hB⟩
  replace L := Lib.hid (L.out.trans (hB.mono L.out.size))
  clear hB 
  simp only [mkV]
  obtain ⟨gN, kF⟩ := box_new w1 (-3) (2)
  replace kF := Lib.hid kF
  have F0 := frO_0 kF.out
  have F1 := frO_1 kF.out
  go_wp2_with (fail)
  refine (c2 _).mono ?_
  rintro e W2 ⟨rfl, rfl⟩
  go_wp2_with (fail)
  refine (c3 _).mono ?_
  rintro e w2 ⟨rfl, hB⟩
  replace L := Lib.hid (L.out.trans ((gN.trans (hB.mono gN.size)).mono L.out.size))
  replace kF := Lib.hid (stays kF.out hB)
  generalize w1.heap.size = xF at *
  clear gN
  clear hB F0 F1
  simp only [mkV]
  obtain ⟨gN, kG⟩ := box_new w2 (15) (1)
  replace kF := Lib.hid (stays kF.out gN)
  replace kG := Lib.hid kG
  have F0 := frO_0 kF.out
  have F1 := frO_1 kF.out
  have G0 := frO_0 kG.out
  have G1 := frO_1 kG.out
  go_wp2_with (fail)
  refine (c4 _).mono ?_
  rintro e w3 ⟨rfl, hB⟩
  replace L := Lib.hid (L.out.trans ((gN.trans (hB.mono gN.size)).mono L.out.size))
  replace kF := Lib.hid (stays kF.out hB)
  replace kG := Lib.hid (stays kG.out hB)
  generalize w2.heap.size = xG at *
  clear gN
  clear hB F0 F1 G0 G1
  have F0 := frO_0 kF.out
  have F1 := frO_1 kF.out
  have G0 := frO_0 kG.out
  have G1 := frO_1 kG.out
  go_wp2_with (fail)
  refine (c5 _ (ht.below L.out)).mono ?_
  rintro e w4 ⟨rfl, hB⟩
  replace L := Lib.hid (L.out.trans (hB.mono L.out.size))
  replace kF := Lib.hid (stays kF.out hB)
  replace kG := Lib.hid (stays kG.out hB)
  clear hB F0 F1 G0 G1
  have F0 := frO_0 kF.out
  have F1 := frO_1 kF.out
  have G0 := frO_0 kG.out
  have G1 := frO_1 kG.out
  go_wp2
  go_ret
  exact ⟨rfl, L.out⟩

end Go.Proofs.YtahfapeggijfkaaDoor
