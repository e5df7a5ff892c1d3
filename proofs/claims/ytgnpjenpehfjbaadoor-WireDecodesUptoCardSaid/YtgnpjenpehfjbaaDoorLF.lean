/- WireDecodes: the law, walked (by program: wip/tools/gen_wiredecodes.py). -/
import Derived.Test.YtgnpjenpehfjbaaDoorLE
set_option linter.unusedSimpArgs false
set_option linter.unusedVariables false
namespace Go.Proofs.YtgnpjenpehfjbaaDoor
open Go.RowKit

theorem bits_xor_byte (c x : UInt8) : bits .xor .u8 (c.toNat : Int) (x.toNat : Int) = ((c ^^^ x).toNat : Int) := by
  unfold bits
  have e : ∀ z : UInt8, BitVec.ofInt IntKind.u8.bits (z.toNat : Int) = z.toBitVec := by
    intro z
    apply BitVec.eq_of_toNat_eq
    have := z.toNat_lt
    rw [BitVec.toNat_ofInt]
    show ((z.toNat : Int) % ((2 ^ 8 : Nat) : Int)).toNat = z.toNat
    omega
  simp only [e]
  show IntKind.u8.wrap ((((c ^^^ x).toBitVec.toNat : Nat)) : Int) = ((c ^^^ x).toNat : Int)
  have h := (c ^^^ x).toNat_lt
  have h2 : (c ^^^ x).toBitVec.toNat = (c ^^^ x).toNat := rfl
  rw [h2]
  simp only [IntKind.wrap_u8]
  omega
theorem own_frozen {W : World} {B : Nat} {g n cap : Nat} {l : List UInt8} (h : Own W B (.slice (some ⟨g, 0, none⟩) n cap) l) (j : Nat) : W.frozen? ⟨g, j, none⟩ = false := by
  rcases h.2 with ⟨h1, h0⟩ | ⟨g', cap', cur, hv, hb, hg, hc, hm, hs, htk⟩
  · cases h1
  · cases hv
    exact frozen_of_row _ _ _ _ _ hg

set_option maxRecDepth 100000 in
set_option maxHeartbeats 8000000 in
theorem law_WireDecodes (v : Value) (l : List UInt8) (p : Pkt) (u : Value) (pos : Int) (x : UInt8) (w : World) (hb : Bts w w.heap.size v l) (hl : l.length ≤ 100000000) (hv : Ims w w.heap.size u p.items) (hok : ∀ y ∈ p.items, Itm64 y) (hlen : (bodyR p).length ≤ 999990000) (hc : -9223372036854775808 ≤ pos ∧ pos < 9223372036854775808) (ht : TabOK w) :
    Calls Tryd.prog 5 #[v, .agg (p.cells u).toArray, .int .i64 pos, .int .u8 (x.toNat : Int)] w fun e w' => e = .returned (.bool true) ∧ Below w.heap.size w w' := by
  have HT := Lib.hid ht
  obtain ⟨g0, kb⟩ := new_block w (.cells (p.cells u).toArray 24)
  obtain ⟨W0, hW0⟩ : ∃ W, W = w.alloc (.cells (p.cells u).toArray 24) := ⟨_, rfl⟩
  obtain ⟨b0, hb0⟩ : ∃ b, b = w.heap.size := ⟨_, rfl⟩
  rw [← hW0] at g0 kb
  have LB := Lib.hid g0
  have HB := Lib.hid (hb.below g0 g0.size)
  have HV := Lib.hid hv
  rw [← hb0] at kb
  have KB := Lib.hid kb
  have HOK := Lib.hid hok
  have HLEN := Lib.hid hlen
  have HC := Lib.hid hc
  have HL := Lib.hid hl
  have HW0 := Lib.hid hW0
  have HB0 := Lib.hid hb0
  obtain ⟨ab, cb, hvv, -⟩ := id hb
  obtain ⟨nb, hnb⟩ : ∃ n, n = l.length := ⟨_, rfl⟩
  rw [← hnb] at hvv
  subst hvv
  have HNB := Lib.hid hnb
  clear hb hv ht hok hlen hc hl hnb g0 kb hW0 hb0
  go_enter Tryd.func5, Tryd.ntmps5
  go_wp2_with (fail)
  rw [← HW0.out, ← HB0.out]
  go_loopw [0, 9] (fun bv tv wr => ∃ (k nb cb : Nat) (ab : Option Addr), bv = .slice ab nb cb ∧ tv = .int .i64 (k : Int) ∧ k ≤ 3 ∧ Hid (∃ m : List UInt8, m.length ≤ 100000000 ∧ Bts wr wr.heap.size (.slice ab nb cb) m) ∧ Hid (Below w.heap.size w wr) ∧ Hid (wr.heap[b0]? = some (.cells (p.cells u).toArray 24 (0, 0)))) (fun _ tv _ => 3 - (intOf tv).toNat)
  case atStart => exact ⟨0, nb, cb, ab, rfl, rfl, by omega, ⟨l, HL.out, HB.out⟩, LB.out, KB.out⟩
  case round =>
    obtain ⟨k, nb, cb, ab, rfl, rfl, hk, HM, LC, K5⟩ := hrel
    obtain ⟨m, hml, hbm⟩ := HM.out
    have HML := Lib.hid hml
    have HBM := Lib.hid hbm
    obtain ⟨ab', cb', hvm, hcap, hmm, -⟩ := id hbm
    injection hvm with hv1 hv2 hv3
    have hnm : nb ≤ 100000000 := by rw [hv2]; exact hml
    have HNM := Lib.hid hv2
    clear HM hml hbm hv1 hv2 hv3 hcap hmm
    rcases (show k = 0 ∨ k = 1 ∨ k = 2 ∨ k = 3 by omega) with rfl | rfl | rfl | rfl
    · obtain ⟨wc, hwc⟩ : ∃ W, W = wr := ⟨_, rfl⟩
      subst hwc
      obtain ⟨⟨dp, dc⟩, hD⟩ : ∃ R, R = decodeP m := ⟨_, rfl⟩
      have hd1 := decode_any (.slice ab nb cb) m wc HBM.out HML.out (HT.out.below LC.out HT.out.lt)
      rw [← hD] at hd1
      dsimp only at hd1
      have HD1 := Lib.hid hd1
      have HD := Lib.hid hD
      clear hd1 hD
      go_wp2_with (fail)
      with_reducible refine HD1.out.mono ?_
      rintro e w2 ⟨p1, u1, rfl, hi, hp, hB⟩
      subst hp
      obtain ⟨k0, k1, k2, k3, k4, k5, k6, xs⟩ := p1
      obtain ⟨au, cu, hu⟩ := owns_form hi
      obtain ⟨mu, hmu⟩ : ∃ m, m = xs.length := ⟨_, rfl⟩
      rw [← hmu] at hu
      subst hu
      obtain ⟨g1, j1⟩ := new_block w2 (.cells #[.int .i64 k0, .int .i64 k1, .int .i64 k2, .int .i64 k3, .int .i64 k4, .int .i64 k5, .int .i64 k6, .slice au mu cu] 24)
      obtain ⟨w3, hw3⟩ : ∃ W, W = w2.alloc (.cells #[.int .i64 k0, .int .i64 k1, .int .i64 k2, .int .i64 k3, .int .i64 k4, .int .i64 k5, .int .i64 k6, .slice au mu cu] 24) := ⟨_, rfl⟩
      obtain ⟨b5, hb5⟩ : ∃ b, b = w2.heap.size := ⟨_, rfl⟩
      rw [← hw3] at g1 j1
      have hB2 := hB.trans (g1.mono hB.size)
      have L3 := Lib.hid (LC.out.trans (hB2.mono LC.out.size))
      have K53 := Lib.hid (stays K5.out hB2)
      have HBM3 := Lib.hid (HBM.out.below hB2 hB2.size)
      have HX := Lib.hid (OwnX.below hi g1)
      rw [← hb5] at j1
      have J5 := Lib.hid j1
      have hd2 := rdecode_any (.slice ab nb cb) m w3 HBM3.out HML.out
      rw [← HD.out] at hd2
      dsimp only at hd2
      have HD2 := Lib.hid hd2
      have HW3 := Lib.hid hw3
      have HB5 := Lib.hid hb5
      clear hd2 hB hB2 g1 j1 hi hmu hw3 hb5 HD1 LC K5 HBM
      go_wp2_with (fail)
      rw [← HW3.out]
      with_reducible refine HD2.out.mono ?_
      rintro e w4 ⟨q, u2, rfl, hi, hp, hB⟩
      rw [← HB5.out]
      obtain ⟨q0, q1, q2, q3, q4, q5, q6, ys⟩ := q
      obtain ⟨av, cv, hu⟩ := owns_form hi
      obtain ⟨mv, hmv⟩ : ∃ m, m = ys.length := ⟨_, rfl⟩
      rw [← hmv] at hu
      subst hu
      obtain ⟨g1, j1⟩ := new_block w4 (.cells #[.int .i64 q0, .int .i64 q1, .int .i64 q2, .int .i64 q3, .int .i64 q4, .int .i64 q5, .int .i64 q6, .slice av mv cv] 24)
      obtain ⟨w5, hw5⟩ : ∃ W, W = w4.alloc (.cells #[.int .i64 q0, .int .i64 q1, .int .i64 q2, .int .i64 q3, .int .i64 q4, .int .i64 q5, .int .i64 q6, .slice av mv cv] 24) := ⟨_, rfl⟩
      obtain ⟨b7, hb7⟩ : ∃ b, b = w4.heap.size := ⟨_, rfl⟩
      rw [← hw5] at g1 j1
      rw [← hb7] at j1
      have hB2 := hB.trans (g1.mono hB.size)
      have L5 := Lib.hid (L3.out.trans (hB2.mono L3.out.size))
      have K55 := Lib.hid (stays K53.out hB2)
      have HBM5 := Lib.hid (HBM3.out.below hB2 hB2.size)
      have J55 := Lib.hid (stays J5.out hB2)
      have J7 := Lib.hid j1
      have HXP := Lib.hid (OwnX.below HX.out hB2)
      have HXQ := Lib.hid (OwnX.below hi g1)
      have hsame := rsame_any ⟨k0, k1, k2, k3, k4, k5, k6, xs⟩ ⟨q0, q1, q2, q3, q4, q5, q6, ys⟩ (.slice au mu cu) (.slice av mv cv) w5 HXP.out.ims.1 HXQ.out.ims.1
      rw [sameP_iff.2 hp.symm] at hsame
      have HSM := Lib.hid hsame
      have HW5 := Lib.hid hw5
      have HB7 := Lib.hid hb7
      clear hsame hB hB2 g1 j1 hi hmv hw5 hb7 HD2 hp HX J5 L3 K53 HBM3
      go_upto_region 13 with (fail)
      rw [← HW5.out, ← HB7.out]
      refine wp_region_lit ?_
      refine wpList_run rfl (exec_load_row 24 _ rfl b5 _ _ (.struct (Tryd.prog.fieldsOf 24)) rfl J55.out (by kernel_rfl) rfl (by kernel_rfl)) ?_
      refine wpList_run rfl (exec_load_row 24 _ rfl b7 _ _ (.struct (Tryd.prog.fieldsOf 24)) rfl J7.out (by kernel_rfl) rfl (by kernel_rfl)) ?_
      go_wp2_with (fail)
      with_reducible refine HSM.out.mono ?_
      rintro e w6 ⟨rfl, hB⟩
      have L6 := Lib.hid (L5.out.trans (hB.mono L5.out.size))
      have K56 := Lib.hid (stays K55.out hB)
      have HBM6 := Lib.hid (HBM5.out.below hB hB.size)
      clear HSM hB
      go_wp2_with (fail)
      go_roundw
      case rel => exact ⟨1, nb, cb, ab, rfl, rfl, by omega, ⟨m, HML.out, HBM6.out⟩, L6.out, K56.out⟩
      case measure => simp [intOf]
    · have hf := Lib.hid (forged_any p u wr (HV.out.below LC.out LC.out.size) HOK.out HLEN.out)
      go_upto_region 5 with (fail)
      refine wp_region_lit ?_
      refine wpList_run rfl (exec_load_row 24 _ rfl b0 _ _ (.struct (Tryd.prog.fieldsOf 24)) rfl K5.out (by kernel_rfl) rfl (by kernel_rfl)) ?_
      go_wp2_with (fail)
      with_reducible refine hf.out.mono ?_
      rintro e wc ⟨vf, rfl, ho, hB⟩
      have HBMf := Lib.hid ho.bts
      have HMLf : Hid ((forgeF p).length ≤ 100000000) := by
        show _ ≤ _
        unfold forgeF
        split
        · rw [frameOf_len]; omega
        · simp
      obtain ⟨mf, hmf⟩ : ∃ m, m = forgeF p := ⟨_, rfl⟩
      rw [← hmf] at HBMf HMLf
      have LCf := Lib.hid (LC.out.trans (hB.mono LC.out.size))
      have K5f := Lib.hid (stays K5.out hB)
      clear hf ho hB hmf HML HBM LC K5 HNM
      obtain ⟨af, cf, hvm, -⟩ := id HBMf.out
      obtain ⟨nf, hnf⟩ : ∃ n, n = mf.length := ⟨_, rfl⟩
      rw [← hnf] at hvm
      subst hvm
      clear hnf
      obtain ⟨⟨dp, dc⟩, hD⟩ : ∃ R, R = decodeP mf := ⟨_, rfl⟩
      have hd1 := decode_any (.slice af nf cf) mf wc HBMf.out HMLf.out (HT.out.below LCf.out HT.out.lt)
      rw [← hD] at hd1
      dsimp only at hd1
      have HD1 := Lib.hid hd1
      have HD := Lib.hid hD
      clear hd1 hD
      go_wp2_with (fail)
      with_reducible refine HD1.out.mono ?_
      rintro e w2 ⟨p1, u1, rfl, hi, hp, hB⟩
      subst hp
      obtain ⟨k0, k1, k2, k3, k4, k5, k6, xs⟩ := p1
      obtain ⟨au, cu, hu⟩ := owns_form hi
      obtain ⟨mu, hmu⟩ : ∃ m, m = xs.length := ⟨_, rfl⟩
      rw [← hmu] at hu
      subst hu
      obtain ⟨g1, j1⟩ := new_block w2 (.cells #[.int .i64 k0, .int .i64 k1, .int .i64 k2, .int .i64 k3, .int .i64 k4, .int .i64 k5, .int .i64 k6, .slice au mu cu] 24)
      obtain ⟨w3, hw3⟩ : ∃ W, W = w2.alloc (.cells #[.int .i64 k0, .int .i64 k1, .int .i64 k2, .int .i64 k3, .int .i64 k4, .int .i64 k5, .int .i64 k6, .slice au mu cu] 24) := ⟨_, rfl⟩
      obtain ⟨b5, hb5⟩ : ∃ b, b = w2.heap.size := ⟨_, rfl⟩
      rw [← hw3] at g1 j1
      have hB2 := hB.trans (g1.mono hB.size)
      have L3 := Lib.hid (LCf.out.trans (hB2.mono LCf.out.size))
      have K53 := Lib.hid (stays K5f.out hB2)
      have HBM3 := Lib.hid (HBMf.out.below hB2 hB2.size)
      have HX := Lib.hid (OwnX.below hi g1)
      rw [← hb5] at j1
      have J5 := Lib.hid j1
      have hd2 := rdecode_any (.slice af nf cf) mf w3 HBM3.out HMLf.out
      rw [← HD.out] at hd2
      dsimp only at hd2
      have HD2 := Lib.hid hd2
      have HW3 := Lib.hid hw3
      have HB5 := Lib.hid hb5
      clear hd2 hB hB2 g1 j1 hi hmu hw3 hb5 HD1 LCf K5f HBMf
      go_wp2_with (fail)
      rw [← HW3.out]
      with_reducible refine HD2.out.mono ?_
      rintro e w4 ⟨q, u2, rfl, hi, hp, hB⟩
      rw [← HB5.out]
      obtain ⟨q0, q1, q2, q3, q4, q5, q6, ys⟩ := q
      obtain ⟨av, cv, hu⟩ := owns_form hi
      obtain ⟨mv, hmv⟩ : ∃ m, m = ys.length := ⟨_, rfl⟩
      rw [← hmv] at hu
      subst hu
      obtain ⟨g1, j1⟩ := new_block w4 (.cells #[.int .i64 q0, .int .i64 q1, .int .i64 q2, .int .i64 q3, .int .i64 q4, .int .i64 q5, .int .i64 q6, .slice av mv cv] 24)
      obtain ⟨w5, hw5⟩ : ∃ W, W = w4.alloc (.cells #[.int .i64 q0, .int .i64 q1, .int .i64 q2, .int .i64 q3, .int .i64 q4, .int .i64 q5, .int .i64 q6, .slice av mv cv] 24) := ⟨_, rfl⟩
      obtain ⟨b7, hb7⟩ : ∃ b, b = w4.heap.size := ⟨_, rfl⟩
      rw [← hw5] at g1 j1
      rw [← hb7] at j1
      have hB2 := hB.trans (g1.mono hB.size)
      have L5 := Lib.hid (L3.out.trans (hB2.mono L3.out.size))
      have K55 := Lib.hid (stays K53.out hB2)
      have HBM5 := Lib.hid (HBM3.out.below hB2 hB2.size)
      have J55 := Lib.hid (stays J5.out hB2)
      have J7 := Lib.hid j1
      have HXP := Lib.hid (OwnX.below HX.out hB2)
      have HXQ := Lib.hid (OwnX.below hi g1)
      have hsame := rsame_any ⟨k0, k1, k2, k3, k4, k5, k6, xs⟩ ⟨q0, q1, q2, q3, q4, q5, q6, ys⟩ (.slice au mu cu) (.slice av mv cv) w5 HXP.out.ims.1 HXQ.out.ims.1
      rw [sameP_iff.2 hp.symm] at hsame
      have HSM := Lib.hid hsame
      have HW5 := Lib.hid hw5
      have HB7 := Lib.hid hb7
      clear hsame hB hB2 g1 j1 hi hmv hw5 hb7 HD2 hp HX J5 L3 K53 HBM3
      go_upto_region 13 with (fail)
      rw [← HW5.out, ← HB7.out]
      refine wp_region_lit ?_
      refine wpList_run rfl (exec_load_row 24 _ rfl b5 _ _ (.struct (Tryd.prog.fieldsOf 24)) rfl J55.out (by kernel_rfl) rfl (by kernel_rfl)) ?_
      refine wpList_run rfl (exec_load_row 24 _ rfl b7 _ _ (.struct (Tryd.prog.fieldsOf 24)) rfl J7.out (by kernel_rfl) rfl (by kernel_rfl)) ?_
      go_wp2_with (fail)
      with_reducible refine HSM.out.mono ?_
      rintro e w6 ⟨rfl, hB⟩
      have L6 := Lib.hid (L5.out.trans (hB.mono L5.out.size))
      have K56 := Lib.hid (stays K55.out hB)
      have HBM6 := Lib.hid (HBM5.out.below hB hB.size)
      clear HSM hB
      go_wp2_with (fail)
      go_roundw
      case rel => exact ⟨2, nf, cf, af, rfl, rfl, by omega, ⟨mf, HMLf.out, HBM6.out⟩, L6.out, K56.out⟩
      case measure => simp [intOf]
    · by_cases hnb : 0 < nb
      case neg =>
        obtain rfl : nb = 0 := by omega
        obtain ⟨wc, hwc⟩ : ∃ W, W = wr := ⟨_, rfl⟩
        subst hwc
        obtain ⟨⟨dp, dc⟩, hD⟩ : ∃ R, R = decodeP m := ⟨_, rfl⟩
        have hd1 := decode_any (.slice ab 0 cb) m wc HBM.out HML.out (HT.out.below LC.out HT.out.lt)
        rw [← hD] at hd1
        dsimp only at hd1
        have HD1 := Lib.hid hd1
        have HD := Lib.hid hD
        clear hd1 hD
        go_wp2_with (fail)
        with_reducible refine HD1.out.mono ?_
        rintro e w2 ⟨p1, u1, rfl, hi, hp, hB⟩
        subst hp
        obtain ⟨k0, k1, k2, k3, k4, k5, k6, xs⟩ := p1
        obtain ⟨au, cu, hu⟩ := owns_form hi
        obtain ⟨mu, hmu⟩ : ∃ m, m = xs.length := ⟨_, rfl⟩
        rw [← hmu] at hu
        subst hu
        obtain ⟨g1, j1⟩ := new_block w2 (.cells #[.int .i64 k0, .int .i64 k1, .int .i64 k2, .int .i64 k3, .int .i64 k4, .int .i64 k5, .int .i64 k6, .slice au mu cu] 24)
        obtain ⟨w3, hw3⟩ : ∃ W, W = w2.alloc (.cells #[.int .i64 k0, .int .i64 k1, .int .i64 k2, .int .i64 k3, .int .i64 k4, .int .i64 k5, .int .i64 k6, .slice au mu cu] 24) := ⟨_, rfl⟩
        obtain ⟨b5, hb5⟩ : ∃ b, b = w2.heap.size := ⟨_, rfl⟩
        rw [← hw3] at g1 j1
        have hB2 := hB.trans (g1.mono hB.size)
        have L3 := Lib.hid (LC.out.trans (hB2.mono LC.out.size))
        have K53 := Lib.hid (stays K5.out hB2)
        have HBM3 := Lib.hid (HBM.out.below hB2 hB2.size)
        have HX := Lib.hid (OwnX.below hi g1)
        rw [← hb5] at j1
        have J5 := Lib.hid j1
        have hd2 := rdecode_any (.slice ab 0 cb) m w3 HBM3.out HML.out
        rw [← HD.out] at hd2
        dsimp only at hd2
        have HD2 := Lib.hid hd2
        have HW3 := Lib.hid hw3
        have HB5 := Lib.hid hb5
        clear hd2 hB hB2 g1 j1 hi hmu hw3 hb5 HD1 LC K5 HBM
        go_wp2_with (fail)
        rw [← HW3.out]
        with_reducible refine HD2.out.mono ?_
        rintro e w4 ⟨q, u2, rfl, hi, hp, hB⟩
        rw [← HB5.out]
        obtain ⟨q0, q1, q2, q3, q4, q5, q6, ys⟩ := q
        obtain ⟨av, cv, hu⟩ := owns_form hi
        obtain ⟨mv, hmv⟩ : ∃ m, m = ys.length := ⟨_, rfl⟩
        rw [← hmv] at hu
        subst hu
        obtain ⟨g1, j1⟩ := new_block w4 (.cells #[.int .i64 q0, .int .i64 q1, .int .i64 q2, .int .i64 q3, .int .i64 q4, .int .i64 q5, .int .i64 q6, .slice av mv cv] 24)
        obtain ⟨w5, hw5⟩ : ∃ W, W = w4.alloc (.cells #[.int .i64 q0, .int .i64 q1, .int .i64 q2, .int .i64 q3, .int .i64 q4, .int .i64 q5, .int .i64 q6, .slice av mv cv] 24) := ⟨_, rfl⟩
        obtain ⟨b7, hb7⟩ : ∃ b, b = w4.heap.size := ⟨_, rfl⟩
        rw [← hw5] at g1 j1
        rw [← hb7] at j1
        have hB2 := hB.trans (g1.mono hB.size)
        have L5 := Lib.hid (L3.out.trans (hB2.mono L3.out.size))
        have K55 := Lib.hid (stays K53.out hB2)
        have HBM5 := Lib.hid (HBM3.out.below hB2 hB2.size)
        have J55 := Lib.hid (stays J5.out hB2)
        have J7 := Lib.hid j1
        have HXP := Lib.hid (OwnX.below HX.out hB2)
        have HXQ := Lib.hid (OwnX.below hi g1)
        have hsame := rsame_any ⟨k0, k1, k2, k3, k4, k5, k6, xs⟩ ⟨q0, q1, q2, q3, q4, q5, q6, ys⟩ (.slice au mu cu) (.slice av mv cv) w5 HXP.out.ims.1 HXQ.out.ims.1
        rw [sameP_iff.2 hp.symm] at hsame
        have HSM := Lib.hid hsame
        have HW5 := Lib.hid hw5
        have HB7 := Lib.hid hb7
        clear hsame hB hB2 g1 j1 hi hmv hw5 hb7 HD2 hp HX J5 L3 K53 HBM3
        go_upto_region 13 with (fail)
        rw [← HW5.out, ← HB7.out]
        refine wp_region_lit ?_
        refine wpList_run rfl (exec_load_row 24 _ rfl b5 _ _ (.struct (Tryd.prog.fieldsOf 24)) rfl J55.out (by kernel_rfl) rfl (by kernel_rfl)) ?_
        refine wpList_run rfl (exec_load_row 24 _ rfl b7 _ _ (.struct (Tryd.prog.fieldsOf 24)) rfl J7.out (by kernel_rfl) rfl (by kernel_rfl)) ?_
        go_wp2_with (fail)
        with_reducible refine HSM.out.mono ?_
        rintro e w6 ⟨rfl, hB⟩
        have L6 := Lib.hid (L5.out.trans (hB.mono L5.out.size))
        have K56 := Lib.hid (stays K55.out hB)
        have HBM6 := Lib.hid (HBM5.out.below hB hB.size)
        clear HSM hB
        go_wp2_with (fail)
        go_roundw
        case rel => exact ⟨3, 0, cb, ab, rfl, rfl, by omega, ⟨m, HML.out, HBM6.out⟩, L6.out, K56.out⟩
        case measure => simp [intOf]
      have hbm := HBM.out
      go_wp2_with (at_builtin; (refine wpList_append_bts rfl _ _ rfl wr.heap.size _ [] rfl (Own.nil _ _) _ m _ rfl hbm (by have := HML.out; simp; omega) (Nat.le_refl _) ?_))
      intro v1 w1 ho hg _
      obtain ⟨g, cap, hv1, hgB, hgl, hcapm, hcell, -⟩ := own_form ho (by rw [← HNM.out]; exact hnb)
      rw [← HNM.out] at hv1 hcell hcapm
      subst hv1
      obtain ⟨kc, hkc⟩ : ∃ z, z = numW pos % nb := ⟨_, rfl⟩
      have hklt : kc < nb := by rw [hkc]; exact Nat.mod_lt _ hnb
      have HKC := Lib.hid hkc
      clear hkc
      have hkv : wrap64 ((IntKind.u64.wrap pos).tmod (IntKind.u64.wrap (nb : Int))) = (kc : Int) := by
        rw [numW_wrap, numW_wrap, numW_nn (x := (nb : Int)) (by omega) (by omega), Int.toNat_natCast, ← Int.ofNat_tmod, ← HKC.out]
        unfold wrap64; omega
      have hnw : IntKind.u64.wrap (nb : Int) = (nb : Int) := by rw [numW_wrap, numW_nn (x := (nb : Int)) (by omega) (by omega), Int.toNat_natCast]
      rw [hnw] at hkv
      have ck := hcell kc hklt
      have zk := own_frozen ho kc
      have hx := bits_xor_byte (m.getD kc 0) x
      obtain ⟨cc, hcc⟩ : ∃ c, c = m.getD kc 0 := ⟨_, rfl⟩
      rw [← hcc] at ck hx
      obtain ⟨y, hy⟩ : ∃ y, y = cc ^^^ x := ⟨_, rfl⟩
      rw [← hy] at hx
      have hkb : 0 ≤ (kc : Int) ∧ (kc : Int) < (nb : Int) := by omega
      obtain ⟨wc, hwc⟩ : ∃ W, W = w1.setCell ⟨g, kc, none⟩ (.int .u8 (y.toNat : Int)) := ⟨_, rfl⟩
      have hos := own_store ho HNM.out kc y
      rw [← hwc] at hos
      obtain ⟨mt, hmt⟩ : ∃ l, l = m.set kc y := ⟨_, rfl⟩
      rw [← hmt] at hos
      have HMLt : Hid (mt.length ≤ 100000000) := by show _ ≤ _; rw [hmt, List.length_set]; exact HML.out
      have HBMt := Lib.hid hos.bts
      have l1 : Below w.heap.size w w1 := LC.out.grown hg LC.out.size (fun j e => by cases e)
      have LCt : Hid (Below w.heap.size w wc) := by show Below _ _ _; rw [hwc]; exact bel_set (Nat.le_trans LC.out.size hgB) l1
      have hb0l := (Array.getElem?_eq_some_iff.1 K5.out).1
      have K5t : Hid (wc.heap[b0]? = some (.cells (p.cells u).toArray 24 (0, 0))) := by
        show _ = _
        rw [hwc]
        exact (set_other _ _ _ _ _ (by omega)).trans ((hg.block b0 hb0l (fun e => by cases e)).trans K5.out)
      have HWC := Lib.hid hwc
      clear hnw hcell ho hg hos hmt l1 hb0l hwc hcc hy hbm HML HBM LC K5
      go_wp2_with (fail)
      rw [← HWC.out]
      obtain ⟨⟨dp, dc⟩, hD⟩ : ∃ R, R = decodeP mt := ⟨_, rfl⟩
      have hd1 := decode_any (.slice (some ⟨g, 0, none⟩) nb cap) mt wc HBMt.out HMLt.out (HT.out.below LCt.out HT.out.lt)
      rw [← hD] at hd1
      dsimp only at hd1
      have HD1 := Lib.hid hd1
      have HD := Lib.hid hD
      clear hd1 hD
      with_reducible refine HD1.out.mono ?_
      rintro e w2 ⟨p1, u1, rfl, hi, hp, hB⟩
      subst hp
      obtain ⟨k0, k1, k2, k3, k4, k5, k6, xs⟩ := p1
      obtain ⟨au, cu, hu⟩ := owns_form hi
      obtain ⟨mu, hmu⟩ : ∃ m, m = xs.length := ⟨_, rfl⟩
      rw [← hmu] at hu
      subst hu
      obtain ⟨g1, j1⟩ := new_block w2 (.cells #[.int .i64 k0, .int .i64 k1, .int .i64 k2, .int .i64 k3, .int .i64 k4, .int .i64 k5, .int .i64 k6, .slice au mu cu] 24)
      obtain ⟨w3, hw3⟩ : ∃ W, W = w2.alloc (.cells #[.int .i64 k0, .int .i64 k1, .int .i64 k2, .int .i64 k3, .int .i64 k4, .int .i64 k5, .int .i64 k6, .slice au mu cu] 24) := ⟨_, rfl⟩
      obtain ⟨b5, hb5⟩ : ∃ b, b = w2.heap.size := ⟨_, rfl⟩
      rw [← hw3] at g1 j1
      have hB2 := hB.trans (g1.mono hB.size)
      have L3 := Lib.hid (LCt.out.trans (hB2.mono LCt.out.size))
      have K53 := Lib.hid (stays K5t.out hB2)
      have HBM3 := Lib.hid (HBMt.out.below hB2 hB2.size)
      have HX := Lib.hid (OwnX.below hi g1)
      rw [← hb5] at j1
      have J5 := Lib.hid j1
      have hd2 := rdecode_any (.slice (some ⟨g, 0, none⟩) nb cap) mt w3 HBM3.out HMLt.out
      rw [← HD.out] at hd2
      dsimp only at hd2
      have HD2 := Lib.hid hd2
      have HW3 := Lib.hid hw3
      have HB5 := Lib.hid hb5
      clear hd2 hB hB2 g1 j1 hi hmu hw3 hb5 HD1 LCt K5t HBMt
      go_wp2_with (fail)
      rw [← HW3.out]
      with_reducible refine HD2.out.mono ?_
      rintro e w4 ⟨q, u2, rfl, hi, hp, hB⟩
      rw [← HB5.out]
      obtain ⟨q0, q1, q2, q3, q4, q5, q6, ys⟩ := q
      obtain ⟨av, cv, hu⟩ := owns_form hi
      obtain ⟨mv, hmv⟩ : ∃ m, m = ys.length := ⟨_, rfl⟩
      rw [← hmv] at hu
      subst hu
      obtain ⟨g1, j1⟩ := new_block w4 (.cells #[.int .i64 q0, .int .i64 q1, .int .i64 q2, .int .i64 q3, .int .i64 q4, .int .i64 q5, .int .i64 q6, .slice av mv cv] 24)
      obtain ⟨w5, hw5⟩ : ∃ W, W = w4.alloc (.cells #[.int .i64 q0, .int .i64 q1, .int .i64 q2, .int .i64 q3, .int .i64 q4, .int .i64 q5, .int .i64 q6, .slice av mv cv] 24) := ⟨_, rfl⟩
      obtain ⟨b7, hb7⟩ : ∃ b, b = w4.heap.size := ⟨_, rfl⟩
      rw [← hw5] at g1 j1
      rw [← hb7] at j1
      have hB2 := hB.trans (g1.mono hB.size)
      have L5 := Lib.hid (L3.out.trans (hB2.mono L3.out.size))
      have K55 := Lib.hid (stays K53.out hB2)
      have HBM5 := Lib.hid (HBM3.out.below hB2 hB2.size)
      have J55 := Lib.hid (stays J5.out hB2)
      have J7 := Lib.hid j1
      have HXP := Lib.hid (OwnX.below HX.out hB2)
      have HXQ := Lib.hid (OwnX.below hi g1)
      have hsame := rsame_any ⟨k0, k1, k2, k3, k4, k5, k6, xs⟩ ⟨q0, q1, q2, q3, q4, q5, q6, ys⟩ (.slice au mu cu) (.slice av mv cv) w5 HXP.out.ims.1 HXQ.out.ims.1
      rw [sameP_iff.2 hp.symm] at hsame
      have HSM := Lib.hid hsame
      have HW5 := Lib.hid hw5
      have HB7 := Lib.hid hb7
      clear hsame hB hB2 g1 j1 hi hmv hw5 hb7 HD2 hp HX J5 L3 K53 HBM3
      go_upto_region 13 with (fail)
      rw [← HW5.out, ← HB7.out]
      refine wp_region_lit ?_
      refine wpList_run rfl (exec_load_row 24 _ rfl b5 _ _ (.struct (Tryd.prog.fieldsOf 24)) rfl J55.out (by kernel_rfl) rfl (by kernel_rfl)) ?_
      refine wpList_run rfl (exec_load_row 24 _ rfl b7 _ _ (.struct (Tryd.prog.fieldsOf 24)) rfl J7.out (by kernel_rfl) rfl (by kernel_rfl)) ?_
      go_wp2_with (fail)
      with_reducible refine HSM.out.mono ?_
      rintro e w6 ⟨rfl, hB⟩
      have L6 := Lib.hid (L5.out.trans (hB.mono L5.out.size))
      have K56 := Lib.hid (stays K55.out hB)
      have HBM6 := Lib.hid (HBM5.out.below hB hB.size)
      clear HSM hB
      go_wp2_with (fail)
      go_roundw
      case rel => exact ⟨3, nb, cap, some ⟨g, 0, none⟩, rfl, rfl, by omega, ⟨mt, HMLt.out, HBM6.out⟩, L6.out, K56.out⟩
      case measure => simp [intOf]
    · have hcon := Lib.hid (awake_any wr (HT.out.below LC.out HT.out.lt))
      go_wp2_with (fail)
      with_reducible refine hcon.out.mono ?_
      rintro e w7 ⟨rfl, hB⟩
      have L7 := Lib.hid (LC.out.trans (hB.mono LC.out.size))
      clear hcon hB
      go_wp2
      go_ret
      exact ⟨rfl, L7.out⟩

end Go.Proofs.YtgnpjenpehfjbaaDoor

