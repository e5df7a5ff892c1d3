/- Contract: the document's digits. -/
import Derived.Test.YtckedklopgnloaaDoorFracTextM
import Derived.Test.YtckedklopgnloaaDoorFrac3
import Derived.Outline
namespace Go.Proofs.YtckedklopgnloaaDoor
open Go.RowKit

theorem getD_bytes (s : ByteArray) (k : Nat) (h : k < s.size) : s.data.toList.getD k 0 = s[k] := by
  have h2 : k < s.data.toList.length := by simpa using h
  rw [List.getD_eq_getElem?_getD, List.getElem?_eq_getElem h2]; rfl
theorem take_succ_bytes (s : ByteArray) (k : Nat) (h : k < s.size) : s.data.toList.take (k + 1) = s.data.toList.take k ++ [s[k]] := by
  rw [List.take_succ_eq_append_getElem (by simpa using h)]; rfl
theorem dig_of {s : ByteArray} {k : Nat} (h : k < s.size) : dig (s.data.toList.getD k 0) ↔ 48 ≤ (s[k].toNat : Int) ∧ (s[k].toNat : Int) ≤ 57 := by
  rw [getD_bytes s k h]; unfold dig; omega

set_option maxRecDepth 100000 in
set_option maxHeartbeats 1000000 in
theorem digits_any (s : ByteArray) (w : World) (hs : s.size ≤ 9223372036854775806) : Calls Tryd.prog 52 #[.string s] w fun e w' => ∃ n k : Nat, e = .returned (.tuple #[.int .i64 (n : Int), .int .i64 (k : Int)]) ∧ DigR s.data.toList n k ∧ w = w' := by
  have hlen : s.data.toList.length = s.size := by simp
  have HLEN := Lib.hid hlen
  clear hlen
  go_enter Tryd.func52, Tryd.ntmps52
  go_wp2
  go_loop [4, 5] (fun nv kv => ∃ k n : Nat, k ≤ s.size ∧ k ≤ 11 ∧ kv = .int .i64 (k : Int) ∧ nv = .int .i64 (n : Int) ∧ Hid (n = valD (s.data.toList.take k)) ∧ Hid (∀ c ∈ s.data.toList.take k, dig c)) (fun _ k => s.size - (intOf k).toNat)
  case atStart => exact ⟨0, 0, Nat.zero_le _, by omega, rfl, rfl, rfl, fun c hc => by simp at hc⟩
  case round =>
    obtain ⟨k, n, hk, hk11, rfl, rfl, HN, HD⟩ := hrel
    have hn : n < 100000000000 := by
      have h1 := valD_lt k _ HD.out (by have := HLEN.out; simp; omega)
      have h6 : 10 ^ k ≤ 10 ^ 11 := Nat.pow_le_pow_right (by decide) hk11
      have : (10 : Nat) ^ 11 = 100000000000 := by decide
      have := HN.out
      omega
    by_cases hlt : k < s.size
    · by_cases h11 : k < 11
      · by_cases h48 : 48 ≤ (s[k].toNat : Int)
        · by_cases h57 : (s[k].toNat : Int) ≤ 57
          · have HN2 : Hid (10 * n + (s[k].toNat - 48) = valD (s.data.toList.take (k + 1))) := by
              show _ = _
              rw [take_succ_bytes s k hlt, valD_snoc, ← HN.out]
            have HD2 : Hid (∀ c ∈ s.data.toList.take (k + 1), dig c) := fun c hc => by
              rw [take_succ_bytes s k hlt] at hc
              rcases List.mem_append.1 hc with hc | hc
              · exact HD.out c hc
              · simp only [List.mem_singleton] at hc
                subst hc
                unfold dig; omega
            go_wp2
            go_round
            case rel => exact ⟨k + 1, 10 * n + (s[k].toNat - 48), by omega, by omega, by go_num, by go_num, HN2, HD2⟩
            case measure => simp [intOf]; omega
          · have HE : Hid (DigR s.data.toList n k) := ⟨by rw [HLEN.out]; omega, hk11, HD.out, HN.out, fun _ _ h => h57 ((dig_of hlt).1 h).2⟩
            go_wp2
            go_ret2
            exact ⟨n, k, rfl, HE, rfl⟩
        · have HE : Hid (DigR s.data.toList n k) := ⟨by rw [HLEN.out]; omega, hk11, HD.out, HN.out, fun _ _ h => h48 ((dig_of hlt).1 h).1⟩
          go_wp2
          go_ret2
          exact ⟨n, k, rfl, HE, rfl⟩
      · have HE : Hid (DigR s.data.toList n k) := ⟨by rw [HLEN.out]; omega, hk11, HD.out, HN.out, fun _ h => absurd h h11⟩
        go_wp2
        go_ret2
        exact ⟨n, k, rfl, HE, rfl⟩
    · have HE : Hid (DigR s.data.toList n k) := ⟨by rw [HLEN.out]; omega, hk11, HD.out, HN.out, fun h => absurd (by have := HLEN.out; omega) hlt⟩
      go_wp2
      go_ret2
      exact ⟨n, k, rfl, HE, rfl⟩

end Go.Proofs.YtckedklopgnloaaDoor
