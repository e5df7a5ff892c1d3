/- What seal.Open and the document's Open take. -/
import Derived.Test.YtgnpjenpehfjbaaDoorSealSeal
import Derived.Deep.QuietTactic
import Derived.BigQuiet
namespace Go.Proofs.YtgnpjenpehfjbaaDoor
open Go.RowKit

def rd32 (c0 c1 c2 c3 : UInt8) : BitVec 32 := w32 c0 ||| w32 c1 <<< 8 ||| w32 c2 <<< 16 ||| w32 c3 <<< 24
def badForm (l : List UInt8) : Prop := (0 < l.length ∧ l.getD 0 0 ≠ 237) ∨ (1 < l.length ∧ l.getD 1 0 ≠ 91)
instance (l : List UInt8) : Decidable (badForm l) := by unfold badForm; infer_instance
def bodyLen (l : List UInt8) : Nat := (l.getD 2 0).toNat + 256 * (l.getD 3 0).toNat
def sumAt (l : List UInt8) (k : Nat) : BitVec 32 := rd32 (l.getD k 0) (l.getD (k + 1) 0) (l.getD (k + 2) 0) (l.getD (k + 3) 0)
/-- body, length, error -/
def openF (l : List UInt8) : List UInt8 × Nat × Nat :=
  if badForm l then ([], 0, 20)
  else if l.length < 4 then ([], 0, 21)
  else if l.length < bodyLen l + 8 then ([], 0, 21)
  else if crc ((l.take (4 + bodyLen l)).drop 2) ≠ sumAt l (4 + bodyLen l) then ([], 0, 22)
  else ((l.take (4 + bodyLen l)).drop 4, bodyLen l + 8, 0)

theorem ne_test (c : UInt8) (d : UInt8) (h : c ≠ d) : ((c.toNat : Int) == (d.toNat : Int)) = false := by
  rw [beq_eq_false_iff_ne]; intro h2; exact h (UInt8.toNat_inj.1 (by omega))

theorem ne_test' (c : UInt8) (d : UInt8) (h : c ≠ d) : ((c.toNat : Int) != (d.toNat : Int)) = true := by
  rw [bne_iff_ne]; intro h2; exact h (UInt8.toNat_inj.1 (by omega))
theorem eq_test (c : UInt8) (d : UInt8) (h : c = d) : ((c.toNat : Int) == (d.toNat : Int)) = true := by subst h; simp

theorem cell_is {w : World} {a : Addr} {c : UInt8} (h : w.cell? a = some (.int .u8 (c.toNat : Int))) (d : UInt8) (e : c = d) : w.cell? a = some (.int .u8 (d.toNat : Int)) := by rw [h, e]
/-- the forms that are refused at once -/
theorem open_bad (w : World) (b off n cap : Nat) (l : List UInt8) (hl : l.length = n) (hn : n ≤ 9223372036854775807) (hc : ∀ i, i < n → w.cell? ⟨b, off + i, none⟩ = some (.int .u8 ((l.getD i 0).toNat : Int))) (hbad : badForm l) :
    Calls Tryd.prog 43 #[.slice (some ⟨b, off, none⟩) n cap] w fun e w' => e = .returned (.tuple #[.slice none 0 0, .int .i64 0, .int .i64 20]) ∧ w = w' := by
  unfold badForm at hbad
  rw [hl] at hbad
  clear hl
  by_cases h0 : 0 < n ∧ l.getD 0 0 ≠ 237
  · have hc0 : w.cell? ⟨b, off, none⟩ = _ := hc 0 h0.1
    have hne : (((l.getD 0 0).toNat : Int) != 237) = true := ne_test' _ 237 h0.2
    have hpos := h0.1
    clear hbad h0 hc
    generalize l.getD 0 0 = c0 at *
    go_enter Tryd.func43, Tryd.ntmps43
    go_wp2
    go_ret3
    exact ⟨rfl, by trivial⟩
  · rcases hbad with h | ⟨h1, h2⟩
    · exact absurd h h0
    have h3 : l.getD 0 0 = 237 := by
      by_cases hh : l.getD 0 0 = 237
      · exact hh
      · exact absurd ⟨by omega, hh⟩ h0
    have hc0 : w.cell? ⟨b, off, none⟩ = some (.int .u8 237) := cell_is (hc 0 (by omega)) 237 h3
    have hc1 : w.cell? ⟨b, off + 1, none⟩ = _ := hc 1 (by omega)
    have hne : (((l.getD 1 0).toNat : Int) != 91) = true := ne_test' _ 91 h2
    clear h0 hc h3 h2
    generalize l.getD 1 0 = c1 at *
    go_enter Tryd.func43, Tryd.ntmps43
    go_wp2
    go_ret3
    exact ⟨rfl, by trivial⟩


/-- too short for a mark and a length -/
theorem open_short (w : World) (ao : Option Addr) (n cap : Nat) (l : List UInt8) (hl : l.length = n)
    (hcc : 0 < n → ∃ b off, ao = some ⟨b, off, none⟩ ∧ ∀ i, i < n → w.cell? ⟨b, off + i, none⟩ = some (.int .u8 ((l.getD i 0).toNat : Int))) (hgood : ¬ badForm l) (h4 : n < 4) :
    Calls Tryd.prog 43 #[.slice ao n cap] w fun e w' => e = .returned (.tuple #[.slice none 0 0, .int .i64 0, .int .i64 21]) ∧ w = w' := by
  unfold badForm at hgood
  rw [hl] at hgood
  clear hl
  by_cases h0 : 0 < n
  · obtain ⟨b, off, rfl, hc⟩ := hcc h0
    have e0 : l.getD 0 0 = 237 := by
      by_cases hh : l.getD 0 0 = 237
      · exact hh
      · exact absurd (.inl ⟨by omega, hh⟩) hgood
    have hc0 : w.cell? ⟨b, off, none⟩ = some (.int .u8 237) := cell_is (hc 0 (by omega)) 237 e0
    by_cases h1 : 1 < n
    · have e1 : l.getD 1 0 = 91 := by
        by_cases hh : l.getD 1 0 = 91
        · exact hh
        · exact absurd (.inr ⟨by omega, hh⟩) hgood
      have hc1 : w.cell? ⟨b, off + 1, none⟩ = some (.int .u8 91) := cell_is (hc 1 (by omega)) 91 e1
      clear hc hcc e0 e1 hgood
      go_enter Tryd.func43, Tryd.ntmps43
      go_wp2
      go_ret3
      exact ⟨rfl, by trivial⟩
    · clear hc hcc e0 hgood
      go_enter Tryd.func43, Tryd.ntmps43
      go_wp2
      go_ret3
      exact ⟨rfl, by trivial⟩
  · obtain rfl : n = 0 := by omega
    clear hcc hgood
    go_enter Tryd.func43, Tryd.ntmps43
    go_wp2
    go_ret3
    exact ⟨rfl, by trivial⟩

theorem len_or (c2 c3 : UInt8) : bits .or .i64 (c2.toNat : Int) ((c3.toNat : Int) * 256) = ((c2.toNat + 256 * c3.toNat : Nat) : Int) := by
  have h2 := c2.toNat_lt
  have h3 := c3.toNat_lt
  rw [show ((c3.toNat : Int) * 256) = ((c3.toNat * 256 : Nat) : Int) by omega, bits_or_i64 _ _ (by omega) (by omega), or_byte _ _ (by omega)]

/-- what the length says is not there -/
theorem open_cutoff (w : World) (b off n cap : Nat) (l : List UInt8) (hl : l.length = n) (hn : n ≤ 9223372036854775807)
    (hc : ∀ i, i < n → w.cell? ⟨b, off + i, none⟩ = some (.int .u8 ((l.getD i 0).toNat : Int))) (hgood : ¬ badForm l) (h4 : 4 ≤ n) (hlen : n < bodyLen l + 8) :
    Calls Tryd.prog 43 #[.slice (some ⟨b, off, none⟩) n cap] w fun e w' => e = .returned (.tuple #[.slice none 0 0, .int .i64 0, .int .i64 21]) ∧ ∃ k, w' = w.drewN k := by
  unfold badForm at hgood
  rw [hl] at hgood
  clear hl
  have e0 : l.getD 0 0 = 237 := by
    by_cases hh : l.getD 0 0 = 237
    · exact hh
    · exact absurd (.inl ⟨by omega, hh⟩) hgood
  have hc0 : w.cell? ⟨b, off, none⟩ = some (.int .u8 237) := cell_is (hc 0 (by omega)) 237 e0
  have e1 : l.getD 1 0 = 91 := by
    by_cases hh : l.getD 1 0 = 91
    · exact hh
    · exact absurd (.inr ⟨by omega, hh⟩) hgood
  have hc1 : w.cell? ⟨b, off + 1, none⟩ = some (.int .u8 91) := cell_is (hc 1 (by omega)) 91 e1
  have hc2 : w.cell? ⟨b, off + 2, none⟩ = _ := hc 2 (by omega)
  have hc3 : w.cell? ⟨b, off + 3, none⟩ = _ := hc 3 (by omega)
  clear hc e0 e1 hgood
  unfold bodyLen at hlen
  generalize l.getD 2 0 = c2 at *
  generalize l.getD 3 0 = c3 at *
  have hor := len_or c2 c3
  have h2 := c2.toNat_lt
  have h3 := c3.toNat_lt
  have hb1 : c2.toNat + 256 * c3.toNat < 65536 := by omega
  generalize c2.toNat + 256 * c3.toNat = N at *
  go_enter Tryd.func43, Tryd.ntmps43
  go_wp2
  go_quiet (fail)
  go_wp2
  go_ret3
  exact ⟨rfl, _, rfl⟩


theorem shl8 (yk : IntKind) (c : UInt8) : Op.shift .shl .u32 (c.toNat : Int) yk 8 = pure (.int .u32 (b32 (w32 c <<< 8))) := by
  rw [shift_shl_u32 yk _ 8 (by decide) (by decide), show ((2 : Int) ^ Int.toNat 8) = 256 from rfl]
  have := c.toNat_lt
  refine congrArg (fun n => pure (Value.int .u32 n)) ?_
  unfold b32 w32
  rw [BitVec.toNat_shiftLeft, Nat.shiftLeft_eq, BitVec.toNat_ofNat, show (2 : Nat) ^ 8 = 256 from rfl]
  simp only [IntKind.wrap_u32]
  omega
theorem shl16 (yk : IntKind) (c : UInt8) : Op.shift .shl .u32 (c.toNat : Int) yk 16 = pure (.int .u32 (b32 (w32 c <<< 16))) := by
  rw [shift_shl_u32 yk _ 16 (by decide) (by decide), show ((2 : Int) ^ Int.toNat 16) = 65536 from rfl]
  have := c.toNat_lt
  refine congrArg (fun n => pure (Value.int .u32 n)) ?_
  unfold b32 w32
  rw [BitVec.toNat_shiftLeft, Nat.shiftLeft_eq, BitVec.toNat_ofNat, show (2 : Nat) ^ 16 = 65536 from rfl]
  simp only [IntKind.wrap_u32]
  omega
theorem shl24 (yk : IntKind) (c : UInt8) : Op.shift .shl .u32 (c.toNat : Int) yk 24 = pure (.int .u32 (b32 (w32 c <<< 24))) := by
  rw [shift_shl_u32 yk _ 24 (by decide) (by decide), show ((2 : Int) ^ Int.toNat 24) = 16777216 from rfl]
  have := c.toNat_lt
  refine congrArg (fun n => pure (Value.int .u32 n)) ?_
  unfold b32 w32
  rw [BitVec.toNat_shiftLeft, Nat.shiftLeft_eq, BitVec.toNat_ofNat, show (2 : Nat) ^ 24 = 16777216 from rfl]
  simp only [IntKind.wrap_u32]
  omega
theorem bits_or_u8_u32 (c : UInt8) (y : BitVec 32) : bits .or .u32 (c.toNat : Int) (b32 y) = b32 (w32 c ||| y) := by
  rw [← w32_toNat]; exact bits_or_u32 _ _
attribute [go_sem high] shl8 shl16 shl24
attribute [go_sem] bits_or_u8_u32

/-- the whole frame is there -/
theorem open_whole (w : World) (b off n cap : Nat) (l : List UInt8) (hl : l.length = n) (hn : n ≤ 9223372036854775807) (hcap : n ≤ cap) (hbw : b < w.heap.size) (ht : TabOK w)
    (hc : ∀ i, i < n → w.cell? ⟨b, off + i, none⟩ = some (.int .u8 ((l.getD i 0).toNat : Int))) (hgood : ¬ badForm l) (h4 : 4 ≤ n) (hlen : bodyLen l + 8 ≤ n) :
    Calls Tryd.prog 43 #[.slice (some ⟨b, off, none⟩) n cap] w fun e w' => ∃ v', e = .returned (.tuple #[v', .int .i64 ((openF l).2.1 : Int), .int .i64 ((openF l).2.2 : Int)]) ∧ Own w' w.heap.size v' (openF l).1 ∧ Below w.heap.size w w' := by
  have hb : Bts w w.heap.size (.slice (some ⟨b, off, none⟩) n cap) l := ⟨_, _, by rw [hl], by omega, by unfold maxLen; omega, fun h => by (cases h), fun _ => ⟨b, off, rfl, hbw, by rw [hl]; exact hc⟩⟩
  have hF : openF l = if crc ((l.take (4 + bodyLen l)).drop 2) ≠ sumAt l (4 + bodyLen l) then ([], 0, 22) else ((l.take (4 + bodyLen l)).drop 4, bodyLen l + 8, 0) := by
    unfold openF
    rw [if_neg hgood, if_neg (by omega), if_neg (by omega)]
  obtain ⟨v1, hv1, hr1⟩ := hb.cutB 2 (4 + bodyLen l) (by omega) (by omega)
  obtain ⟨v2, hv2, hr2⟩ := hb.cutB 4 (4 + bodyLen l) (by omega) (by omega)
  unfold badForm at hgood
  rw [hl] at hgood
  have e0 : l.getD 0 0 = 237 := by
    by_cases hh : l.getD 0 0 = 237
    · exact hh
    · exact absurd (.inl ⟨by omega, hh⟩) hgood
  have hc0 : w.cell? ⟨b, off, none⟩ = some (.int .u8 237) := cell_is (hc 0 (by omega)) 237 e0
  have e1 : l.getD 1 0 = 91 := by
    by_cases hh : l.getD 1 0 = 91
    · exact hh
    · exact absurd (.inr ⟨by omega, hh⟩) hgood
  have hc1 : w.cell? ⟨b, off + 1, none⟩ = some (.int .u8 91) := cell_is (hc 1 (by omega)) 91 e1
  have hc2 : w.cell? ⟨b, off + 2, none⟩ = _ := hc 2 (by omega)
  have hc3 : w.cell? ⟨b, off + 3, none⟩ = _ := hc 3 (by omega)
  have hor := len_or (l.getD 2 0) (l.getD 3 0)
  have h2 := (l.getD 2 0).toNat_lt
  have h3 := (l.getD 3 0).toNat_lt
  have hN : bodyLen l = (l.getD 2 0).toNat + 256 * (l.getD 3 0).toNat := rfl
  have hb1 : bodyLen l < 65536 := by omega
  rw [← hN] at hor
  have hs0 : w.cell? ⟨b, off + (4 + bodyLen l), none⟩ = _ := hc (4 + bodyLen l) (by omega)
  have hs1 : w.cell? ⟨b, off + (4 + bodyLen l + 1), none⟩ = _ := hc (4 + bodyLen l + 1) (by omega)
  have hs2 : w.cell? ⟨b, off + (4 + bodyLen l + 2), none⟩ = _ := hc (4 + bodyLen l + 2) (by omega)
  have hs3 : w.cell? ⟨b, off + (4 + bodyLen l + 3), none⟩ = _ := hc (4 + bodyLen l + 3) (by omega)
  have hsum : sumAt l (4 + bodyLen l) = _ := rfl
  unfold sumAt at hsum
  clear hc e0 e1 hgood hN hb
  rw [hF]
  clear hF
  unfold sumAt
  generalize l.getD 2 0 = c2 at *
  generalize l.getD 3 0 = c3 at *
  generalize bodyLen l = N at *
  generalize l.getD (4 + N) 0 = s0 at *
  generalize l.getD (4 + N + 1) 0 = s1 at *
  generalize l.getD (4 + N + 2) 0 = s2 at *
  generalize l.getD (4 + N + 3) 0 = s3 at *
  have H1 := Lib.hid hr1
  have H2 := Lib.hid hr2
  have HL := Lib.hid hl
  clear hl hsum hr1 hr2
  by_cases hsm : crc (List.drop 2 (List.take (4 + N) l)) = rd32 s0 s1 s2 s3
  · rw [if_neg (by simpa using hsm)]
    have hne : (b32 (crc (List.drop 2 (List.take (4 + N) l))) != b32 (w32 s0 ||| w32 s1 <<< 8 ||| w32 s2 <<< 16 ||| w32 s3 <<< 24)) = false := by rw [hsm]; simp [rd32]
    clear hsm
    generalize List.drop 2 (List.take (4 + N) l) = m1 at *
    have hm2 : (List.drop 4 (List.take (4 + N) l)).length ≤ 65536 := by simp; omega
    generalize List.drop 4 (List.take (4 + N) l) = m2 at *
    go_enter Tryd.func43, Tryd.ntmps43
    go_wp2
    go_quiet (fail)
    go_wp2
    go_quiet (fail)
    have hr1 : ∀ (W : World) (kl kh : IntKind), (Instr.slice 27 (.slice (some ⟨b, off, none⟩) n cap) (some (.int kl 2)) (some (.int kh (4 + (N : Int)))) none).run Tryd.prog W = .ok v1 W := fun W kl kh => by simpa using H1.out W kl kh
    have hr2 : ∀ (W : World) (kl kh : IntKind), (Instr.slice 27 (.slice (some ⟨b, off, none⟩) n cap) (some (.int kl 4)) (some (.int kh (4 + (N : Int)))) none).run Tryd.prog W = .ok v2 W := fun W kl kh => by simpa using H2.out W kl kh
    clear H1 H2
    generalize nq = nq2 at *
    go_wp2_with (first
      | (go_at_call 64; refine (seal_Sum v1 _ _ w.heap.size (by exact hv1) (by exact ht)).mono ?_; rintro e w' ⟨rfl, rfl⟩)
      | (at_builtin; (refine wpList_append_bts rfl _ _ rfl w.heap.size _ [] rfl (World.ownsRow_lit _ #[] 0 (by simp) (by simp) rfl) v2 m2 w.heap.size rfl (hv2.below ((bdN _ _ _).alloc (by simp) _) (Nat.le_refl _)) (by simp; omega) (by simp) ?_)))
    intro v3 w3 hown3 hg3 _
    have hB3 : Below w.heap.size w w3 := ((bdN w.heap.size w _).alloc (by simp) _).grown hg3 (by simp) (fun k hk => by cases hk; simp)
    clear hg3
    go_wp2
    go_ret3
    exact ⟨_, by simp; omega, hown3, hB3⟩
  · rw [if_pos (by simpa using hsm)]
    have hne : (b32 (crc (List.drop 2 (List.take (4 + N) l))) != b32 (w32 s0 ||| w32 s1 <<< 8 ||| w32 s2 <<< 16 ||| w32 s3 <<< 24)) = true := by
      rw [bne_iff_ne]; intro h; exact hsm (b32_inj h)
    clear hsm
    go_enter Tryd.func43, Tryd.ntmps43
    go_wp2
    go_quiet (fail)
    go_wp2
    go_quiet (fail)
    have hr1 : ∀ (W : World) (kl kh : IntKind), (Instr.slice 27 (.slice (some ⟨b, off, none⟩) n cap) (some (.int kl 2)) (some (.int kh (4 + (N : Int)))) none).run Tryd.prog W = .ok v1 W := fun W kl kh => by simpa using H1.out W kl kh
    have hr2 : ∀ (W : World) (kl kh : IntKind), (Instr.slice 27 (.slice (some ⟨b, off, none⟩) n cap) (some (.int kl 4)) (some (.int kh (4 + (N : Int)))) none).run Tryd.prog W = .ok v2 W := fun W kl kh => by simpa using H2.out W kl kh
    clear H1 H2
    go_wp2_with (go_at_call 64; refine (seal_Sum v1 _ _ w.heap.size (by exact hv1) (by exact ht)).mono ?_; rintro e w' ⟨rfl, rfl⟩)
    go_ret3
    exact ⟨_, rfl, Own.nil _ _, ⟨rfl, rfl, rfl, Nat.le_refl _, fun _ _ => rfl⟩⟩

end Go.Proofs.YtgnpjenpehfjbaaDoor
