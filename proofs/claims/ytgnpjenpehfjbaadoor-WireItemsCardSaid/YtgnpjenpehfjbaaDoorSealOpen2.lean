/- Open, the program's and the document's: one contract each, over the list of bytes. -/
import Derived.Test.YtgnpjenpehfjbaaDoorSealOpen
namespace Go.Proofs.YtgnpjenpehfjbaaDoor
open Go.RowKit

theorem seal_Open (v : Value) (l : List UInt8) (w : World) (hb : Bts w w.heap.size v l) (ht : TabOK w) :
    Calls Tryd.prog 43 #[v] w fun e w' => ∃ v', e = .returned (.tuple #[v', .int .i64 ((openF l).2.1 : Int), .int .i64 ((openF l).2.2 : Int)]) ∧ Own w' w.heap.size v' (openF l).1 ∧ Below w.heap.size w w' := by
  by_cases hbad : badForm l
  · have hF : openF l = ([], 0, 20) := by unfold openF; rw [if_pos hbad]
    rcases hb.form with ⟨rfl, _⟩ | ⟨hpos, b, off, cap, rfl, hcap, hm, hbB, hc⟩
    · simp [badForm] at hbad
    · refine (open_bad w b off _ cap l rfl hm hc hbad).mono ?_
      rintro e w' ⟨rfl, rfl⟩
      rw [hF]
      exact ⟨_, rfl, Own.nil _ _, Below.refl _ _⟩
  · by_cases h4 : l.length < 4
    · have hF : openF l = ([], 0, 21) := by unfold openF; rw [if_neg hbad, if_pos h4]
      obtain ⟨ao, cap, rfl, hcap, hm, hn, hl⟩ := hb
      refine (open_short w ao _ cap l rfl (fun hp => ?_) hbad h4).mono ?_
      · obtain ⟨b, off, rfl, _, hc⟩ := hl (by intro h; subst h; simp at hp)
        exact ⟨b, off, rfl, hc⟩
      · rintro e w' ⟨rfl, rfl⟩
        rw [hF]
        exact ⟨_, rfl, Own.nil _ _, Below.refl _ _⟩
    · rcases hb.form with ⟨rfl, _⟩ | ⟨hpos, b, off, cap, rfl, hcap, hm, hbB, hc⟩
      · simp at h4
      · by_cases hlen : l.length < bodyLen l + 8
        · have hF : openF l = ([], 0, 21) := by unfold openF; rw [if_neg hbad, if_neg h4, if_pos hlen]
          refine (open_cutoff w b off _ cap l rfl hm hc hbad (by omega) hlen).mono ?_
          rintro e w' ⟨rfl, k, rfl⟩
          rw [hF]
          exact ⟨_, rfl, Own.nil _ _, bdN _ _ _⟩
        · exact open_whole w b off _ cap l rfl hm hcap hbB ht hc hbad (by omega) (by omega)

theorem le32_byte (s : BitVec 32) (j : Nat) (hj : j < 4) : b32 s / 2 ^ (8 * j) % 256 = (((le32 s).getD j 0).toNat : Int) := by
  have hs := s.isLt
  unfold b32 le32
  match j, hj with
  | 0, _ => show _ = ((UInt8.ofNat (s.toNat % 256)).toNat : Int); rw [byte_of _ (by omega)]; simp
  | 1, _ => show _ = ((UInt8.ofNat (s.toNat / 256 % 256)).toNat : Int); rw [byte_of _ (by omega)]; simp
  | 2, _ => show _ = ((UInt8.ofNat (s.toNat / 65536 % 256)).toNat : Int); rw [byte_of _ (by omega)]; simp
  | 3, _ => show _ = ((UInt8.ofNat (s.toNat / 16777216)).toNat : Int); rw [byte_of _ (by omega)]; simp; omega

theorem w32_lt (c : UInt8) : (w32 c).toNat = c.toNat := by
  have := c.toNat_lt
  unfold w32; rw [BitVec.toNat_ofNat]; omega
theorem rd32_toNat (c0 c1 c2 c3 : UInt8) : (rd32 c0 c1 c2 c3).toNat = c0.toNat + 256 * c1.toNat + 65536 * c2.toNat + 16777216 * c3.toNat := by
  have h0 := c0.toNat_lt
  have h1 := c1.toNat_lt
  have h2 := c2.toNat_lt
  have h3 := c3.toNat_lt
  unfold rd32
  simp only [BitVec.toNat_or, BitVec.toNat_shiftLeft, w32_lt, Nat.shiftLeft_eq]
  rw [Nat.mod_eq_of_lt (by omega), Nat.mod_eq_of_lt (by omega), Nat.mod_eq_of_lt (by omega)]
  have e1 := Nat.two_pow_add_eq_or_of_lt (i := 8) (b := c0.toNat) (by omega) c1.toNat
  have e2 := Nat.two_pow_add_eq_or_of_lt (i := 16) (b := c0.toNat + 256 * c1.toNat) (by omega) c2.toNat
  have e3 := Nat.two_pow_add_eq_or_of_lt (i := 24) (b := c0.toNat + 256 * c1.toNat + 65536 * c2.toNat) (by omega) c3.toNat
  have f1 : c0.toNat ||| c1.toNat * 2 ^ 8 = c0.toNat + 256 * c1.toNat := by rw [Nat.or_comm, Nat.mul_comm, ← e1]; omega
  have f2 : (c0.toNat + 256 * c1.toNat) ||| c2.toNat * 2 ^ 16 = c0.toNat + 256 * c1.toNat + 65536 * c2.toNat := by rw [Nat.or_comm, Nat.mul_comm c2.toNat, ← e2]; omega
  have f3 : (c0.toNat + 256 * c1.toNat + 65536 * c2.toNat) ||| c3.toNat * 2 ^ 24 = c0.toNat + 256 * c1.toNat + 65536 * c2.toNat + 16777216 * c3.toNat := by rw [Nat.or_comm, Nat.mul_comm c3.toNat, ← e3]; omega
  rw [f1, f2, f3]

theorem le32_rd32 (c0 c1 c2 c3 : UInt8) : le32 (rd32 c0 c1 c2 c3) = [c0, c1, c2, c3] := by
  have h0 := c0.toNat_lt
  have h1 := c1.toNat_lt
  have h2 := c2.toNat_lt
  have h3 := c3.toNat_lt
  unfold le32
  rw [rd32_toNat]
  have e0 : (c0.toNat + 256 * c1.toNat + 65536 * c2.toNat + 16777216 * c3.toNat) % 256 = c0.toNat := by omega
  have e1 : (c0.toNat + 256 * c1.toNat + 65536 * c2.toNat + 16777216 * c3.toNat) / 256 % 256 = c1.toNat := by omega
  have e2 : (c0.toNat + 256 * c1.toNat + 65536 * c2.toNat + 16777216 * c3.toNat) / 65536 % 256 = c2.toNat := by omega
  have e3 : (c0.toNat + 256 * c1.toNat + 65536 * c2.toNat + 16777216 * c3.toNat) / 16777216 = c3.toNat := by omega
  rw [e0, e1, e2, e3]
  simp

theorem rd32_le32 (s : BitVec 32) : rd32 ((le32 s).getD 0 0) ((le32 s).getD 1 0) ((le32 s).getD 2 0) ((le32 s).getD 3 0) = s := by
  apply BitVec.eq_of_toNat_eq
  rw [rd32_toNat]
  have h0 := le32_byte s 0 (by decide)
  have h1 := le32_byte s 1 (by decide)
  have h2 := le32_byte s 2 (by decide)
  have h3 := le32_byte s 3 (by decide)
  have hs := s.isLt
  unfold b32 at h0 h1 h2 h3
  simp only [Nat.mul_zero, Nat.mul_one, Nat.reduceMul] at h0 h1 h2 h3
  rw [show (2 : Int) ^ 8 = 256 from rfl] at h1
  rw [show (2 : Int) ^ 16 = 65536 from rfl] at h2
  rw [show (2 : Int) ^ 24 = 16777216 from rfl] at h3
  rw [show (2 : Int) ^ 0 = 1 from rfl] at h0
  omega

end Go.Proofs.YtgnpjenpehfjbaaDoor
