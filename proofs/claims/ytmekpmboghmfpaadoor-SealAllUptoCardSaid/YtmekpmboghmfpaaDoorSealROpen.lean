/- The document's Open: the same answers. -/
import Derived.Test.YtmekpmboghmfpaaDoorSealOpen2
namespace Go.Proofs.YtmekpmboghmfpaaDoor
open Go.RowKit

/-- the forms that are refused at once -/
theorem ropen_bad (w : World) (b off n cap : Nat) (l : List UInt8) (hl : l.length = n) (hn : n ≤ 9223372036854775807) (hc : ∀ i, i < n → w.cell? ⟨b, off + i, none⟩ = some (.int .u8 ((l.getD i 0).toNat : Int))) (hbad : badForm l) :
    Calls Tryd.prog 20 #[.slice (some ⟨b, off, none⟩) n cap] w fun e w' => e = .returned (.tuple #[.slice none 0 0, .int .i64 0, .int .i64 20]) ∧ w = w' := by
  unfold badForm at hbad
  rw [hl] at hbad
  clear hl
  by_cases h0 : 0 < n ∧ l.getD 0 0 ≠ 237
  · have hc0 : w.cell? ⟨b, off, none⟩ = _ := hc 0 h0.1
    have hne : (((l.getD 0 0).toNat : Int) != 237) = true := ne_test' _ 237 h0.2
    have hpos := h0.1
    clear hbad h0 hc
    generalize l.getD 0 0 = c0 at *
    go_enter Tryd.func20, Tryd.ntmps20
    go_wp2
    go_ret3
    exact ⟨rfl, by trivial⟩
  · rcases hbad with h | ⟨h1, h2⟩
    · exact absurd h h0
    have h3 : l.getD 0 0 = 237 := by
      by_cases hh : l.getD 0 0 = 237
      · exact hh
      · exact absurd ⟨by omega, hh⟩ h0
    have hc0 : w.cell? ⟨b, off, none⟩ = some (.int .u8 237) := cell_is (hc 0 (by omega)) 237 h3
    have hc1 : w.cell? ⟨b, off + 1, none⟩ = _ := hc 1 (by omega)
    have hne : (((l.getD 1 0).toNat : Int) != 91) = true := ne_test' _ 91 h2
    clear h0 hc h3 h2
    generalize l.getD 1 0 = c1 at *
    go_enter Tryd.func20, Tryd.ntmps20
    go_wp2
    go_ret3
    exact ⟨rfl, by trivial⟩


/-- too short for a mark and a length -/
theorem ropen_short (w : World) (ao : Option Addr) (n cap : Nat) (l : List UInt8) (hl : l.length = n)
    (hcc : 0 < n → ∃ b off, ao = some ⟨b, off, none⟩ ∧ ∀ i, i < n → w.cell? ⟨b, off + i, none⟩ = some (.int .u8 ((l.getD i 0).toNat : Int))) (hgood : ¬ badForm l) (h4 : n < 4) :
    Calls Tryd.prog 20 #[.slice ao n cap] w fun e w' => e = .returned (.tuple #[.slice none 0 0, .int .i64 0, .int .i64 21]) ∧ w = w' := by
  unfold badForm at hgood
  rw [hl] at hgood
  clear hl
  by_cases h0 : 0 < n
  · obtain ⟨b, off, rfl, hc⟩ := hcc h0
    have e0 : l.getD 0 0 = 237 := by
      by_cases hh : l.getD 0 0 = 237
      · exact hh
      · exact absurd (.inl ⟨by omega, hh⟩) hgood
    have hc0 : w.cell? ⟨b, off, none⟩ = some (.int .u8 237) := cell_is (hc 0 (by omega)) 237 e0
    by_cases h1 : 1 < n
    · have e1 : l.getD 1 0 = 91 := by
        by_cases hh : l.getD 1 0 = 91
        · exact hh
        · exact absurd (.inr ⟨by omega, hh⟩) hgood
      have hc1 : w.cell? ⟨b, off + 1, none⟩ = some (.int .u8 91) := cell_is (hc 1 (by omega)) 91 e1
      clear hc hcc e0 e1 hgood
      go_enter Tryd.func20, Tryd.ntmps20
      go_wp2
      go_ret3
      exact ⟨rfl, by trivial⟩
    · clear hc hcc e0 hgood
      go_enter Tryd.func20, Tryd.ntmps20
      go_wp2
      go_ret3
      exact ⟨rfl, by trivial⟩
  · obtain rfl : n = 0 := by omega
    clear hcc hgood
    go_enter Tryd.func20, Tryd.ntmps20
    go_wp2
    go_ret3
    exact ⟨rfl, by trivial⟩

/-- what the length says is not there -/
theorem ropen_cutoff (w : World) (b off n cap : Nat) (l : List UInt8) (hl : l.length = n) (hn : n ≤ 9223372036854775807)
    (hc : ∀ i, i < n → w.cell? ⟨b, off + i, none⟩ = some (.int .u8 ((l.getD i 0).toNat : Int))) (hgood : ¬ badForm l) (h4 : 4 ≤ n) (hlen : n < bodyLen l + 8) :
    Calls Tryd.prog 20 #[.slice (some ⟨b, off, none⟩) n cap] w fun e w' => e = .returned (.tuple #[.slice none 0 0, .int .i64 0, .int .i64 21]) ∧ ∃ k, w' = w.drewN k := by
  unfold badForm at hgood
  rw [hl] at hgood
  clear hl
  have e0 : l.getD 0 0 = 237 := by
    by_cases hh : l.getD 0 0 = 237
    · exact hh
    · exact absurd (.inl ⟨by omega, hh⟩) hgood
  have hc0 : w.cell? ⟨b, off, none⟩ = some (.int .u8 237) := cell_is (hc 0 (by omega)) 237 e0
  have e1 : l.getD 1 0 = 91 := by
    by_cases hh : l.getD 1 0 = 91
    · exact hh
    · exact absurd (.inr ⟨by omega, hh⟩) hgood
  have hc1 : w.cell? ⟨b, off + 1, none⟩ = some (.int .u8 91) := cell_is (hc 1 (by omega)) 91 e1
  have hc2 : w.cell? ⟨b, off + 2, none⟩ = _ := hc 2 (by omega)
  have hc3 : w.cell? ⟨b, off + 3, none⟩ = _ := hc 3 (by omega)
  clear hc e0 e1 hgood
  unfold bodyLen at hlen
  generalize l.getD 2 0 = c2 at *
  generalize l.getD 3 0 = c3 at *
  have h2 := c2.toNat_lt
  have h3 := c3.toNat_lt
  go_enter Tryd.func20, Tryd.ntmps20
  go_wp2
  go_quiet (fail)
  go_wp2
  go_ret3
  exact ⟨rfl, _, rfl⟩



theorem le32_get (c : Nat → UInt8) (j : Nat) (hj : j < 4) : (le32 (rd32 (c 0) (c 1) (c 2) (c 3))).getD j 0 = c j := by
  rw [le32_rd32]
  match j, hj with
  | 0, _ => rfl
  | 1, _ => rfl
  | 2, _ => rfl
  | 3, _ => rfl
/-- the whole frame is there -/
theorem ropen_whole (w : World) (b off n cap : Nat) (l : List UInt8) (hl : l.length = n) (hn : n ≤ 9223372036854775807) (hcap : n ≤ cap) (hbw : b < w.heap.size)
    (hc : ∀ i, i < n → w.cell? ⟨b, off + i, none⟩ = some (.int .u8 ((l.getD i 0).toNat : Int))) (hgood : ¬ badForm l) (h4 : 4 ≤ n) (hlen : bodyLen l + 8 ≤ n) :
    Calls Tryd.prog 20 #[.slice (some ⟨b, off, none⟩) n cap] w fun e w' => ∃ v', e = .returned (.tuple #[v', .int .i64 ((openF l).2.1 : Int), .int .i64 ((openF l).2.2 : Int)]) ∧ Own w' w.heap.size v' (openF l).1 ∧ Below w.heap.size w w' := by
  have hb : Bts w w.heap.size (.slice (some ⟨b, off, none⟩) n cap) l := ⟨_, _, by rw [hl], by omega, by unfold maxLen; omega, fun h => by (cases h), fun _ => ⟨b, off, rfl, hbw, by rw [hl]; exact hc⟩⟩
  have hF : openF l = if crc ((l.take (4 + bodyLen l)).drop 2) ≠ sumAt l (4 + bodyLen l) then ([], 0, 22) else ((l.take (4 + bodyLen l)).drop 4, bodyLen l + 8, 0) := by
    unfold openF
    rw [if_neg hgood, if_neg (by omega), if_neg (by omega)]
  obtain ⟨v1, hv1, hr1⟩ := hb.cutB 2 (4 + bodyLen l) (by omega) (by omega)
  obtain ⟨v2, hv2, hr2⟩ := hb.cutB 4 (4 + bodyLen l) (by omega) (by omega)
  unfold badForm at hgood
  rw [hl] at hgood
  have e0 : l.getD 0 0 = 237 := by
    by_cases hh : l.getD 0 0 = 237
    · exact hh
    · exact absurd (.inl ⟨by omega, hh⟩) hgood
  have hc0 : w.cell? ⟨b, off, none⟩ = some (.int .u8 237) := cell_is (hc 0 (by omega)) 237 e0
  have e1 : l.getD 1 0 = 91 := by
    by_cases hh : l.getD 1 0 = 91
    · exact hh
    · exact absurd (.inr ⟨by omega, hh⟩) hgood
  have hc1 : w.cell? ⟨b, off + 1, none⟩ = some (.int .u8 91) := cell_is (hc 1 (by omega)) 91 e1
  have hc2 : w.cell? ⟨b, off + 2, none⟩ = _ := hc 2 (by omega)
  have hc3 : w.cell? ⟨b, off + 3, none⟩ = _ := hc 3 (by omega)
  have h2 := (l.getD 2 0).toNat_lt
  have h3 := (l.getD 3 0).toNat_lt
  have hN : bodyLen l = (l.getD 2 0).toNat + 256 * (l.getD 3 0).toNat := rfl
  have hNi : ((l.getD 2 0).toNat : Int) + 256 * ((l.getD 3 0).toNat : Int) = ((bodyLen l : Nat) : Int) := by omega
  have hb1 : bodyLen l < 65536 := by omega
  have hs : ∀ j, j < 4 → w.cell? ⟨b, off + (4 + bodyLen l + j), none⟩ = some (.int .u8 ((l.getD (4 + bodyLen l + j) 0).toNat : Int)) := fun j hj => hc (4 + bodyLen l + j) (by omega)
  have hsum : sumAt l (4 + bodyLen l) = rd32 (l.getD (4 + bodyLen l + 0) 0) (l.getD (4 + bodyLen l + 1) 0) (l.getD (4 + bodyLen l + 2) 0) (l.getD (4 + bodyLen l + 3) 0) := rfl
  clear hc e0 e1 hgood hN hb
  generalize sumAt l (4 + bodyLen l) = want at *
  generalize openF l = R at *
  generalize l.getD 2 0 = c2 at *
  generalize l.getD 3 0 = c3 at *
  generalize bodyLen l = N at *
  have H1 := Lib.hid hr1
  have H2 := Lib.hid hr2
  have HL := Lib.hid hl
  have HW := Lib.hid hsum
  have HS := Lib.hid hs
  clear hl hsum hr1 hr2 hs
  generalize hm1 : List.drop 2 (List.take (4 + N) l) = m1 at *
  have hm2 : (List.drop 4 (List.take (4 + N) l)).length ≤ 65536 := by simp; omega
  generalize List.drop 4 (List.take (4 + N) l) = m2 at *
  clear hm1
  generalize hsm : crc m1 = sm at *
  have HM := Lib.hid hsm
  have HF := Lib.hid hF
  clear hsm hF
  go_enter Tryd.func20, Tryd.ntmps20
  go_wp2
  go_quiet (fail)
  have hr1 : ∀ (W : World) (kl kh : IntKind), (Instr.slice 22 (.slice (some ⟨b, off, none⟩) n cap) (some (.int kl 2)) (some (.int kh (4 + (N : Int)))) none).run Tryd.prog W = .ok v1 W := fun W kl kh => by simpa using H1.out W kl kh
  have hr2 : ∀ (W : World) (kl kh : IntKind), (Instr.slice 22 (.slice (some ⟨b, off, none⟩) n cap) (some (.int kl 4)) (some (.int kh (4 + (N : Int)))) none).run Tryd.prog W = .ok v2 W := fun W kl kh => by simpa using H2.out W kl kh
  clear H1 H2
  go_wp2_with (go_at_call 16; refine (ref_Sum v1 _ _ w.heap.size (by exact hv1)).mono ?_; rintro e w' ⟨rfl, rfl⟩; rw [HM.out])
  go_loopw [7] (fun i wr => ∃ j : Nat, j ≤ 4 ∧ i = .int .i64 j ∧ Hid (∀ t, t < j → l.getD (4 + N + t) 0 = (le32 sm).getD t 0) ∧ ∃ k, wr = w.drewN k) (fun i _ => 4 - (intOf i).toNat)
  case atStart => exact ⟨0, by omega, rfl, (fun t ht => by omega), _, rfl⟩
  case round =>
    obtain ⟨j, hj, rfl, HJ, k, rfl⟩ := hrel
    by_cases hj4 : j < 4
    · have hcj : w.cell? ⟨b, off + (4 + N + j), none⟩ = _ := HS.out j hj4
      have hd := le32_byte sm j hj4
      by_cases heq : l.getD (4 + N + j) 0 = (le32 sm).getD j 0
      · have hne : (((l.getD (4 + N + j) 0).toNat : Int) != (((le32 sm).getD j 0).toNat : Int)) = false := by rw [heq]; simp
        have HQ := Lib.hid heq
        clear heq
        generalize hdj : (le32 sm).getD j 0 = dj at *
        generalize hcc : l.getD (4 + N + j) 0 = cj at *
        have HD := Lib.hid hdj
        have HC := Lib.hid hcc
        clear hdj hcc
        go_wp2
        go_quiet (fail)
        go_wp2
        go_roundw
        case rel =>
          refine ⟨j + 1, by omega, by go_num, (fun t ht => ?_), _, rfl⟩
          by_cases htj : t = j
          · subst htj; rw [HC.out, HD.out, HQ.out]
          · exact HJ.out t (by omega)
        case measure => simp [intOf]; omega
      · have hne : (((l.getD (4 + N + j) 0).toNat : Int) != (((le32 sm).getD j 0).toNat : Int)) = true := by
          rw [bne_iff_ne]; intro h; exact heq (UInt8.toNat_inj.1 (by omega))
        have hsw : Hid (sm ≠ want) := by
          intro h
          apply heq
          rw [h, HW.out, le32_get (fun i => l.getD (4 + N + i) 0) j hj4]
        clear heq
        generalize (le32 sm).getD j 0 = dj at *
        generalize l.getD (4 + N + j) 0 = cj at *
        go_wp2
        go_quiet (fail)
        go_wp2
        go_ret3
        rw [show R = ([], 0, 22) from HF.out.trans (if_pos hsw.out)]
        exact ⟨_, rfl, Own.nil _ _, ⟨rfl, rfl, rfl, Nat.le_refl _, fun _ _ => rfl⟩⟩
    · have : j = 4 := by omega
      subst this
      have heq : Hid (sm = want) := by
        show sm = want
        rw [HW.out, HJ.out 0 (by omega), HJ.out 1 (by omega), HJ.out 2 (by omega), HJ.out 3 (by omega), rd32_le32]
      clear HJ HW HS
      go_wp2_with (at_builtin; (refine wpList_append_bts rfl _ _ rfl w.heap.size _ [] rfl (Own.nil _ _) v2 m2 w.heap.size rfl (hv2.below (bdN _ _ _) (Nat.le_refl _)) (by simp; omega) (by simp) ?_))
      intro v3 w3 hown3 hg3 _
      have hB3 : Below w.heap.size w w3 := (bdN w.heap.size w _).grown hg3 (by simp) (fun k hk => by cases hk)
      clear hg3
      go_wp2
      go_ret3
      rw [show R = (m2, N + 8, 0) from HF.out.trans (if_neg (by simp [heq.out]))]
      exact ⟨_, by simp, hown3, hB3⟩

theorem ref_Open (v : Value) (l : List UInt8) (w : World) (hb : Bts w w.heap.size v l) :
    Calls Tryd.prog 20 #[v] w fun e w' => ∃ v', e = .returned (.tuple #[v', .int .i64 ((openF l).2.1 : Int), .int .i64 ((openF l).2.2 : Int)]) ∧ Own w' w.heap.size v' (openF l).1 ∧ Below w.heap.size w w' := by
  by_cases hbad : badForm l
  · have hF : openF l = ([], 0, 20) := by unfold openF; rw [if_pos hbad]
    rcases hb.form with ⟨rfl, _⟩ | ⟨hpos, b, off, cap, rfl, hcap, hm, hbB, hc⟩
    · simp [badForm] at hbad
    · refine (ropen_bad w b off _ cap l rfl hm hc hbad).mono ?_
      rintro e w' ⟨rfl, rfl⟩
      rw [hF]
      exact ⟨_, rfl, Own.nil _ _, Below.refl _ _⟩
  · by_cases h4 : l.length < 4
    · have hF : openF l = ([], 0, 21) := by unfold openF; rw [if_neg hbad, if_pos h4]
      obtain ⟨ao, cap, rfl, hcap, hm, hn, hl⟩ := hb
      refine (ropen_short w ao _ cap l rfl (fun hp => ?_) hbad h4).mono ?_
      · obtain ⟨b, off, rfl, _, hc⟩ := hl (by intro h; subst h; simp at hp)
        exact ⟨b, off, rfl, hc⟩
      · rintro e w' ⟨rfl, rfl⟩
        rw [hF]
        exact ⟨_, rfl, Own.nil _ _, Below.refl _ _⟩
    · rcases hb.form with ⟨rfl, _⟩ | ⟨hpos, b, off, cap, rfl, hcap, hm, hbB, hc⟩
      · simp at h4
      · by_cases hlen : l.length < bodyLen l + 8
        · have hF : openF l = ([], 0, 21) := by unfold openF; rw [if_neg hbad, if_neg h4, if_pos hlen]
          refine (ropen_cutoff w b off _ cap l rfl hm hc hbad (by omega) hlen).mono ?_
          rintro e w' ⟨rfl, k, rfl⟩
          rw [hF]
          exact ⟨_, rfl, Own.nil _ _, bdN _ _ _⟩
        · exact ropen_whole w b off _ cap l rfl hm hcap hbB hc hbad (by omega) (by omega)

end Go.Proofs.YtmekpmboghmfpaaDoor
