/- The law SealSpoilt, walked: it returns true, and what was there stays as it was. -/
import Derived.Test.YtmekpmboghmfpaaDoorSealBack
import Derived.Test.YtmekpmboghmfpaaDoorSealSpMath
namespace Go.Proofs.YtmekpmboghmfpaaDoor
open Go.RowKit

theorem bit32_test (w : BitVec 32) (i : Nat) : (bits .and .u32 (b32 w / 2 ^ i) 1 == 1) = w.getLsbD i := by
  have e : b32 w / 2 ^ i = b32 (w >>> i) := by
    unfold b32
    rw [BitVec.toNat_ushiftRight, Nat.shiftRight_eq_div_pow]
    simp
  rw [e, bits_and_u32_1, b32_one, low_beq]
  simp

theorem flip_all : ∀ c : Fin 256, ∀ M : Fin 8, bits .xor .u8 ((c.1 : Nat) : Int) ((2 : Int) ^ M.1 % 256) = ((c.1 ^^^ 2 ^ M.1 : Nat) : Int) := by decide +kernel
theorem flip_bits (c : UInt8) (M : Nat) (h : M < 8) : bits .xor .u8 (c.toNat : Int) ((2 : Int) ^ M % 256) = ((flip c M).toNat : Int) := by
  rw [flip_toNat c M h]
  exact flip_all ⟨c.toNat, c.toNat_lt⟩ ⟨M, h⟩

set_option maxRecDepth 100000 in
set_option maxHeartbeats 2000000 in
theorem spoilt_long (v : Value) (l : List UInt8) (at_ : Int) (bw : BitVec 32) (w : World) (hb : Bts w w.heap.size v l) (ht : TabOK w) (hl : 65535 < l.length) :
    Calls Tryd.prog 6 #[v, .int .i64 at_, .int .u32 (b32 bw)] w fun e w' => e = .returned (.bool true) ∧ Below w.heap.size w w' := by
  have hmax := hb.len
  obtain ⟨ao, cap, rfl, _⟩ := hb
  generalize l.length = n at *
  have c2 := awake_true w ht
  go_enter Tryd.func6, Tryd.ntmps6
  go_wp2_with (go_at_call 17; refine c2.mono ?_; rintro e w' ⟨rfl, hB2⟩)
  go_ret
  exact ⟨rfl, hB2⟩

set_option maxRecDepth 100000 in
set_option maxHeartbeats 2000000 in
theorem spoilt_short (v : Value) (l : List UInt8) (at_ : Int) (bw : BitVec 32) (w : World) (hb : Bts w w.heap.size v l) (ht : TabOK w) (hl : l.length ≤ 65535) :
    Calls Tryd.prog 6 #[v, .int .i64 at_, .int .u32 (b32 bw)] w fun e w' => e = .returned (.bool true) ∧ Below w.heap.size w w' := by
  have c1 := seal_any v l w hb ht
  have e1 : sealB l = frameOf l := by unfold sealB; rw [if_pos hl]
  have e2 : sealC l = 0 := by unfold sealC; rw [if_pos hl]
  rw [e1, e2] at c1
  have hF := frameOf_len l
  obtain ⟨ao, cap, rfl, hb'⟩ := id hb
  clear hb'
  generalize hN : l.length = n at *
  go_enter Tryd.func6, Tryd.ntmps6
  go_wp2_with fail
  refine c1.mono ?_
  rintro e w1 ⟨v1, rfl, hown1, hB1⟩
  have ht1 := ht.below hB1 ht.lt
  clear c1
  have hown1' := hown1
  unfold Own at hown1'
  rw [hF] at hown1'
  rcases hown1'.2 with ⟨_, h0⟩ | ⟨g, cap1, cur, rfl, hbg, hgg, hcap, _⟩
  · omega
  clear hgg hown1'
  have hg1 : g < w1.heap.size := (hown1.lt g rfl).2
  obtain ⟨s, hs, hsl⟩ := rem_at at_ (8 * (n + 6)) (by omega) (by omega)
  rw [show (((8 * (n + 6) : Nat)) : Int) = 8 * ((n : Int) + 8 - 2) by omega] at hs
  have HO := Lib.hid hown1
  have HB := Lib.hid hB1
  have HT := Lib.hid ht1
  have HF := Lib.hid hF
  have HN := Lib.hid hN
  have ht0 := ht.lt
  clear hb hB1 ht1 hown1 ht hF hN
  go_wp2_with fail
  rw [hs]
  clear hs
  go_loopw [11, 12, 13] (fun t i k wr => ∃ (j : Nat) (L : List UInt8), j ≤ 32 ∧ s + j ≤ 8 * (n + 6) ∧ i = .int .i64 j ∧ t = .bool (anyBit bw j) ∧ Hid (L.length = n + 8) ∧ Hid (Own wr w.heap.size (.slice (some ⟨g, 0, none⟩) (n + 8) cap1) L) ∧
      Hid (∀ q, q < 8 * (n + 6) → bitB (L.drop 2) q = (bitB ((frameOf l).drop 2) q ^^ (decide (s ≤ q) && decide (q - s < j) && bw.getLsbD (q - s)))) ∧ Hid (anyBit bw j = false → L = frameOf l) ∧ Hid (Below w.heap.size w wr) ∧ Hid (TabOK wr)) (fun _ i _ _ => 32 - (intOf i).toNat)
  case atStart =>
    refine ⟨0, frameOf l, by omega, by omega, rfl, rfl, HF, HO, fun q hq => ?_, fun _ => rfl, HB, HT⟩
    simp
  case round =>
    obtain ⟨j, L, hj, hsj, rfl, rfl, HL', HO', HX', HE', HB', HT'⟩ := hrel
    clear HO HB HT
    by_cases hlt : j < 32 ∧ s + j < 8 * (n + 6)
    · obtain ⟨hj2, hsj2⟩ := hlt
      have hbit := bit32_test bw j
      have hK : ((s : Int) + (j : Int)) = ((s + j : Nat) : Int) := by omega
      have hq1 : (2 : Int) + (s + j : Nat) / 8 = ((2 + (s + j) / 8 : Nat) : Int) := by omega
      generalize hKK : s + j = K at *
      have hc : wr.cell? ⟨g, 2 + K / 8, none⟩ = some (.int .u8 ((L.getD (2 + K / 8) 0).toNat : Int)) := by
        have h := HO'.out
        unfold Own at h
        rw [HL'.out] at h
        rw [World.ownsRow.cellAt h (2 + K / 8) (by omega)]
        have := HL'.out
        simp [List.getD, byteV, show 2 + K / 8 < L.length by omega]
      have hf : wr.frozen? ⟨g, 2 + K / 8, none⟩ = false := by
        have h := HO'.out
        unfold Own at h
        rw [HL'.out] at h
        exact World.ownsRow.frozenAt h _
      cases hw : bw.getLsbD j
      · rw [hw] at hbit
        go_wp2
        go_roundw
        case rel =>
          refine ⟨j + 1, L, by omega, by omega, by go_num, by simp [anyBit, hw], HL', HO', spoil_skip _ _ _ _ _ _ HX'.out hw, fun h => HE'.out (by simpa [anyBit, hw] using h), HB', HT'⟩
        case measure => simp [intOf]; omega
      · rw [hw] at hbit
        have hq : Int.tdiv (K : Int) 8 = ((K / 8 : Nat) : Int) := by rw [Int.tdiv_eq_ediv_of_nonneg (by omega)]; omega
        have hm : Int.tmod (K : Int) 8 = ((K % 8 : Nat) : Int) := by rw [Int.tmod_eq_emod_of_nonneg (by omega)]; omega
        have hM8 : K % 8 < 8 := Nat.mod_lt _ (by decide)
        have hQ8 : K / 8 ≤ n + 5 := by omega
        have hst := spoil_step (frameOf l) L s j bw (n + 6) HL'.out HX'.out hw
        rw [hKK] at hst
        have HS := Lib.hid hst
        have hwr : Below w.heap.size wr (wr.setCell ⟨g, 2 + K / 8, none⟩ (.int .u8 ((flip (L.getD (2 + K / 8) 0) (K % 8)).toNat : Int))) := (Below.refl _ _).setCell (p := ⟨g, 2 + K / 8, none⟩) hbg _
        have HW := Lib.hid hwr
        clear hst hwr hq1
        generalize K / 8 = Q at *
        generalize K % 8 = M at *
        generalize hC : L.getD (2 + Q) 0 = C at *
        have hfl := flip_bits C M hM8
        generalize flip C M = C' at *
        go_wp2
        go_roundw
        case rel =>
          refine ⟨j + 1, L.set (2 + Q) C', by omega, by omega, by go_num, by simp [anyBit, hw], by show _ = _; rw [List.length_set]; exact HL'.out, HO'.out.stored _ _, HS.out, fun h => ?_, HB'.out.trans HW.out, HT'.out.below HW.out ht0⟩
          exfalso
          have h' : anyBit bw (j + 1) = false := h
          simp [anyBit, hw] at h'
        case measure => simp [intOf]; omega
    · have hn : j = 32 ∨ (j < 32 ∧ s + j = 8 * (n + 6)) := by omega
      have hL' := HL'.out
      by_cases ha : anyBit bw j = true
      · have hse := spoil_end l L (by rw [HN.out]; exact hl) s j bw (by rw [HN.out]; exact hL') (by rw [HN.out]; exact HX'.out) (by rw [HN.out]; exact hsj) ha
        rw [HN.out] at hse
        have c3 := seal_Open _ _ wr HO'.out.bts HT'.out
        have hoc := openF_code L
        have hol := openF_le L
        rw [hL'] at hol
        rw [ha]
        generalize openF L = o at *
        obtain ⟨ob, on, oc⟩ := o
        simp only at hse hoc hol c3
        clear HX' HE' hL' HL' HO' ha
        by_cases hz : oc = 0
        · subst hz
          have hon : on ≠ n + 8 := fun h => hse ⟨rfl, h⟩
          have hb1 : ((on : Int) == (n : Int) + 8) = false := by rw [beq_eq_false_iff_ne]; omega
          have hb2 : ((on : Int) != (n : Int) + 8) = true := by rw [bne_iff_ne]; omega
          clear hse
          rcases hn with rfl | ⟨hn1, hn2⟩
          all_goals
            go_wp2_with fail
            refine c3.mono ?_
            rintro e w4 ⟨v4, rfl, hown4, hB4⟩
            have Bw4 : Below w.heap.size w w4 := HB'.out.trans (hB4.mono HB'.out.size)
            have c6 := awake_true w4 (HT'.out.below hB4 HT'.out.lt)
            have HB4 := Lib.hid Bw4
            clear c3 hown4 hB4 Bw4
            go_wp2_with (go_at_call 17; refine c6.mono ?_; rintro e w' ⟨rfl, hB6⟩)
            go_ret
            exact ⟨rfl, HB4.out.trans (hB6.mono HB4.out.size)⟩
        · have hb1 : ((oc : Int) == 0) = false := by rw [beq_eq_false_iff_ne]; omega
          have hb2 : ((oc : Int) != 0) = true := by rw [bne_iff_ne]; omega
          clear hse
          rcases hn with rfl | ⟨hn1, hn2⟩
          all_goals
            go_wp2_with fail
            refine c3.mono ?_
            rintro e w4 ⟨v4, rfl, hown4, hB4⟩
            have Bw4 : Below w.heap.size w w4 := HB'.out.trans (hB4.mono HB'.out.size)
            have c6 := awake_true w4 (HT'.out.below hB4 HT'.out.lt)
            have HB4 := Lib.hid Bw4
            clear c3 hown4 hB4 Bw4
            go_wp2_with (go_at_call 17; refine c6.mono ?_; rintro e w' ⟨rfl, hB6⟩)
            go_ret
            exact ⟨rfl, HB4.out.trans (hB6.mono HB4.out.size)⟩
      · have ha' : anyBit bw j = false := by simpa using ha
        have c3 := seal_Open _ _ wr HO'.out.bts HT'.out
        have hLF := HE'.out ha'
        have hop := open_frame l [] (by rw [HN.out]; exact hl)
        rw [List.append_nil, HN.out] at hop
        rw [hLF, hop] at c3
        rw [ha']
        clear HX' HE' hL' HL' HO' ha ha' hLF hop
        · rcases hn with rfl | ⟨hn1, hn2⟩
          all_goals
            go_wp2_with fail
            refine c3.mono ?_
            rintro e w4 ⟨v4, rfl, hown4, hB4⟩
            have Bw4 : Below w.heap.size w w4 := HB'.out.trans (hB4.mono HB'.out.size)
            have c6 := awake_true w4 (HT'.out.below hB4 HT'.out.lt)
            have HB4 := Lib.hid Bw4
            clear c3 hown4 hB4 Bw4
            go_wp2_with (go_at_call 17; refine c6.mono ?_; rintro e w' ⟨rfl, hB6⟩)
            go_ret
            exact ⟨rfl, HB4.out.trans (hB6.mono HB4.out.size)⟩

theorem law_SealSpoilt (v : Value) (l : List UInt8) (at_ : Int) (bw : BitVec 32) (w : World) (hb : Bts w w.heap.size v l) (ht : TabOK w) :
    Calls Tryd.prog 6 #[v, .int .i64 at_, .int .u32 (b32 bw)] w fun e w' => e = .returned (.bool true) ∧ Below w.heap.size w w' := by
  by_cases h : l.length ≤ 65535
  · exact spoilt_short v l at_ bw w hb ht h
  · exact spoilt_long v l at_ bw w hb ht (by omega)

end Go.Proofs.YtmekpmboghmfpaaDoor
