/- Wire: is a text a name? Both sides (by program: wip/tools/gen_wire2.py). -/
import Derived.Test.YtgnpjenpehfjbaaDoorWire1
namespace Go.Proofs.YtgnpjenpehfjbaaDoor
open Go.RowKit

def okC (c : UInt8) : Bool := (decide (97 ≤ (c.toNat : Int)) && decide ((c.toNat : Int) ≤ 122)) || (decide (48 ≤ (c.toNat : Int)) && decide ((c.toNat : Int) ≤ 57)) || decide ((c.toNat : Int) = 95)
def nameB (l : List UInt8) : Bool := decide (1 ≤ l.length) && decide (l.length ≤ 16) && l.all okC
theorem nameB_t {l : List UInt8} (h1 : 1 ≤ l.length) (h2 : l.length ≤ 16) (h : ∀ j, j < l.length → okC (l.getD j 0) = true) : nameB l = true := by
  have : l.all okC = true := by
    rw [List.all_eq_true]
    intro c hc
    obtain ⟨j, hj, rfl⟩ := List.getElem_of_mem hc
    have := h j hj
    rwa [List.getD_eq_getElem?_getD, List.getElem?_eq_getElem hj] at this
  simp [nameB, h1, h2, this]
theorem nameB_bad {l : List UInt8} (k : Nat) (hk : k < l.length) (h : okC (l.getD k 0) = false) : nameB l = false := by
  have : l.all okC = false := by
    rw [List.all_eq_false]
    refine ⟨l[k], List.getElem_mem hk, ?_⟩
    rw [List.getD_eq_getElem?_getD, List.getElem?_eq_getElem hk] at h
    simpa using h
  simp [nameB, this]

set_option maxRecDepth 100000 in
set_option maxHeartbeats 1000000 in
theorem name_any (l : List UInt8) (w : World) (hl : l.length ≤ 9223372036854775807) : Calls Tryd.prog 19 #[.string ⟨l.toArray⟩] w fun e w' => e = .returned (.bool (nameB l)) ∧ w = w' := by
  obtain ⟨s, hs⟩ : ∃ s : ByteArray, s = ⟨l.toArray⟩ := ⟨_, rfl⟩
  have HSZ : Hid (s.size = l.length) := by show _ = _; rw [hs]; simp [ByteArray.size]
  have HG : Hid (∀ k (h : k < s.size), s[k] = l.getD k 0) := by
    intro k h
    subst hs
    rw [List.getD_eq_getElem?_getD, List.getElem?_eq_getElem (by simpa [ByteArray.size] using h)]
    rfl
  rw [← hs]
  clear hs
  obtain ⟨n, hn⟩ : ∃ n, n = s.size := ⟨_, rfl⟩
  have hl' : s.size ≤ 9223372036854775807 := by have := HSZ.out; omega
  by_cases h0 : s.size < 1
  · have e1 : decide ((s.size : Int) < 1) = true := by simp; omega
    have HR : Hid (nameB l = false) := by have := HSZ.out; show _ = _; simp [nameB]; omega
    clear hn h0
    go_enter Tryd.func19, Tryd.ntmps19
    go_wp2
    go_ret
    rw [HR.out]
    exact ⟨rfl, rfl⟩
  by_cases h16 : 16 < s.size
  · have e1 : decide ((s.size : Int) < 1) = false := by simp; omega
    have e2 : decide (16 < (s.size : Int)) = true := by simp; omega
    have HR : Hid (nameB l = false) := by have := HSZ.out; show _ = _; simp [nameB]; omega
    clear hn h0 h16
    go_enter Tryd.func19, Tryd.ntmps19
    go_wp2
    go_ret
    rw [HR.out]
    exact ⟨rfl, rfl⟩
  have e1 : decide ((s.size : Int) < 1) = false := by simp; omega
  have e2 : decide (16 < (s.size : Int)) = false := by simp; omega
  clear hn
  go_enter Tryd.func19, Tryd.ntmps19
  go_wp2
  clear e1 e2
  go_loop [15] (fun i => ∃ k : Nat, k ≤ s.size ∧ i = .int .i64 (k : Int) ∧ Hid (∀ j, j < k → okC (l.getD j 0) = true)) (fun i => s.size - (intOf i).toNat)
  case atStart => exact ⟨0, Nat.zero_le _, rfl, fun j hj => absurd hj (by omega)⟩
  case round =>
  obtain ⟨k, hk, rfl, HALL⟩ := hrel
  by_cases hlt : k < s.size
  · have hk' : k < l.length := by have := HSZ.out; omega
    obtain ⟨c, hc⟩ : ∃ c, c = s[k] := ⟨_, rfl⟩
    have HC : Hid (c = l.getD k 0) := hc.trans (HG.out k hlt)
    have hidx : s[k] = c := hc.symm
    clear hc
    have hb : (c.toNat : Int) < 256 := by have := c.toNat_lt; omega
    rcases (show ((c.toNat : Int) < 48) ∨ (48 ≤ (c.toNat : Int) ∧ (c.toNat : Int) ≤ 57) ∨ (57 < (c.toNat : Int) ∧ (c.toNat : Int) < 95) ∨ ((c.toNat : Int) = 95) ∨ ((c.toNat : Int) = 96) ∨ (97 ≤ (c.toNat : Int) ∧ (c.toNat : Int) ≤ 122) ∨ (122 < (c.toNat : Int)) by omega) with hi | hi | hi | hi | hi | hi | hi
    · have HOK : Hid (okC c = false) := by
        show _ = _
        unfold okC
        simp
        omega
      have e1 : decide ((c.toNat : Int) < 97) = true := by simp; omega
      have e2 : decide (122 < (c.toNat : Int)) = false := by simp; omega
      have e3 : decide ((c.toNat : Int) < 48) = true := by simp; omega
      have e4 : decide (57 < (c.toNat : Int)) = false := by simp; omega
      have e5 : ((c.toNat : Int) == 95) = false := by simp; omega
      have e6 : ((c.toNat : Int) != 95) = true := by simp; omega
      clear hi
      go_wp2
      go_ret
      rw [nameB_bad k hk' (by rw [← HC.out]; exact HOK.out)]
      exact ⟨rfl, rfl⟩
    · have HOK : Hid (okC c = true) := by
        show _ = _
        unfold okC
        simp
        omega
      have e1 : decide ((c.toNat : Int) < 97) = true := by simp; omega
      have e2 : decide (122 < (c.toNat : Int)) = false := by simp; omega
      have e3 : decide ((c.toNat : Int) < 48) = false := by simp; omega
      have e4 : decide (57 < (c.toNat : Int)) = false := by simp; omega
      have e5 : ((c.toNat : Int) == 95) = false := by simp; omega
      have e6 : ((c.toNat : Int) != 95) = true := by simp; omega
      clear hi
      go_wp2
      clear e1 e2 e3 e4 e5 e6
      go_round
      case rel => exact ⟨k + 1, by omega, by go_num, fun j hj => by
        rcases Nat.lt_or_ge j k with h | h
        · exact HALL.out j h
        · obtain rfl : j = k := by omega
          rw [← HC.out]; exact HOK.out⟩
      case measure => simp [intOf]; omega
    · have HOK : Hid (okC c = false) := by
        show _ = _
        unfold okC
        simp
        omega
      have e1 : decide ((c.toNat : Int) < 97) = true := by simp; omega
      have e2 : decide (122 < (c.toNat : Int)) = false := by simp; omega
      have e3 : decide ((c.toNat : Int) < 48) = false := by simp; omega
      have e4 : decide (57 < (c.toNat : Int)) = true := by simp; omega
      have e5 : ((c.toNat : Int) == 95) = false := by simp; omega
      have e6 : ((c.toNat : Int) != 95) = true := by simp; omega
      clear hi
      go_wp2
      go_ret
      rw [nameB_bad k hk' (by rw [← HC.out]; exact HOK.out)]
      exact ⟨rfl, rfl⟩
    · have HOK : Hid (okC c = true) := by
        show _ = _
        unfold okC
        simp
        omega
      have e1 : decide ((c.toNat : Int) < 97) = true := by simp; omega
      have e2 : decide (122 < (c.toNat : Int)) = false := by simp; omega
      have e3 : decide ((c.toNat : Int) < 48) = false := by simp; omega
      have e4 : decide (57 < (c.toNat : Int)) = true := by simp; omega
      have e5 : ((c.toNat : Int) == 95) = true := by simp; omega
      have e6 : ((c.toNat : Int) != 95) = false := by simp; omega
      clear hi
      go_wp2
      clear e1 e2 e3 e4 e5 e6
      go_round
      case rel => exact ⟨k + 1, by omega, by go_num, fun j hj => by
        rcases Nat.lt_or_ge j k with h | h
        · exact HALL.out j h
        · obtain rfl : j = k := by omega
          rw [← HC.out]; exact HOK.out⟩
      case measure => simp [intOf]; omega
    · have HOK : Hid (okC c = false) := by
        show _ = _
        unfold okC
        simp
        omega
      have e1 : decide ((c.toNat : Int) < 97) = true := by simp; omega
      have e2 : decide (122 < (c.toNat : Int)) = false := by simp; omega
      have e3 : decide ((c.toNat : Int) < 48) = false := by simp; omega
      have e4 : decide (57 < (c.toNat : Int)) = true := by simp; omega
      have e5 : ((c.toNat : Int) == 95) = false := by simp; omega
      have e6 : ((c.toNat : Int) != 95) = true := by simp; omega
      clear hi
      go_wp2
      go_ret
      rw [nameB_bad k hk' (by rw [← HC.out]; exact HOK.out)]
      exact ⟨rfl, rfl⟩
    · have HOK : Hid (okC c = true) := by
        show _ = _
        unfold okC
        simp
        omega
      have e1 : decide ((c.toNat : Int) < 97) = false := by simp; omega
      have e2 : decide (122 < (c.toNat : Int)) = false := by simp; omega
      have e3 : decide ((c.toNat : Int) < 48) = false := by simp; omega
      have e4 : decide (57 < (c.toNat : Int)) = true := by simp; omega
      have e5 : ((c.toNat : Int) == 95) = false := by simp; omega
      have e6 : ((c.toNat : Int) != 95) = true := by simp; omega
      clear hi
      go_wp2
      clear e1 e2 e3 e4 e5 e6
      go_round
      case rel => exact ⟨k + 1, by omega, by go_num, fun j hj => by
        rcases Nat.lt_or_ge j k with h | h
        · exact HALL.out j h
        · obtain rfl : j = k := by omega
          rw [← HC.out]; exact HOK.out⟩
      case measure => simp [intOf]; omega
    · have HOK : Hid (okC c = false) := by
        show _ = _
        unfold okC
        simp
        omega
      have e1 : decide ((c.toNat : Int) < 97) = false := by simp; omega
      have e2 : decide (122 < (c.toNat : Int)) = true := by simp; omega
      have e3 : decide ((c.toNat : Int) < 48) = false := by simp; omega
      have e4 : decide (57 < (c.toNat : Int)) = true := by simp; omega
      have e5 : ((c.toNat : Int) == 95) = false := by simp; omega
      have e6 : ((c.toNat : Int) != 95) = true := by simp; omega
      clear hi
      go_wp2
      go_ret
      rw [nameB_bad k hk' (by rw [← HC.out]; exact HOK.out)]
      exact ⟨rfl, rfl⟩
  · have HR : Hid (nameB l = true) := nameB_t (by have := HSZ.out; omega) (by have := HSZ.out; omega) (fun j hj => HALL.out j (by have := HSZ.out; omega))
    go_wp2
    go_ret
    rw [HR.out]
    exact ⟨rfl, rfl⟩

set_option maxRecDepth 100000 in
set_option maxHeartbeats 1000000 in
theorem rname_any (l : List UInt8) (w : World) (hl : l.length ≤ 9223372036854775807) : Calls Tryd.prog 20 #[.string ⟨l.toArray⟩] w fun e w' => e = .returned (.bool (nameB l)) ∧ w = w' := by
  obtain ⟨s, hs⟩ : ∃ s : ByteArray, s = ⟨l.toArray⟩ := ⟨_, rfl⟩
  have HSZ : Hid (s.size = l.length) := by show _ = _; rw [hs]; simp [ByteArray.size]
  have HG : Hid (∀ k (h : k < s.size), s[k] = l.getD k 0) := by
    intro k h
    subst hs
    rw [List.getD_eq_getElem?_getD, List.getElem?_eq_getElem (by simpa [ByteArray.size] using h)]
    rfl
  rw [← hs]
  clear hs
  obtain ⟨n, hn⟩ : ∃ n, n = s.size := ⟨_, rfl⟩
  have hl' : s.size ≤ 9223372036854775807 := by have := HSZ.out; omega
  by_cases h0 : s.size < 1
  · have e1 : decide ((s.size : Int) < 1) = true := by simp; omega
    have HR : Hid (nameB l = false) := by have := HSZ.out; show _ = _; simp [nameB]; omega
    clear hn h0
    go_enter Tryd.func20, Tryd.ntmps20
    go_wp2
    go_ret
    rw [HR.out]
    exact ⟨rfl, rfl⟩
  by_cases h16 : 16 < s.size
  · have e1 : decide ((s.size : Int) < 1) = false := by simp; omega
    have e2 : decide (16 < (s.size : Int)) = true := by simp; omega
    have HR : Hid (nameB l = false) := by have := HSZ.out; show _ = _; simp [nameB]; omega
    clear hn h0 h16
    go_enter Tryd.func20, Tryd.ntmps20
    go_wp2
    go_ret
    rw [HR.out]
    exact ⟨rfl, rfl⟩
  have e1 : decide ((s.size : Int) < 1) = false := by simp; omega
  have e2 : decide (16 < (s.size : Int)) = false := by simp; omega
  clear hn
  go_enter Tryd.func20, Tryd.ntmps20
  go_wp2
  clear e1 e2
  go_loop [3] (fun i => ∃ k : Nat, k ≤ s.size ∧ i = .int .i64 (k : Int) ∧ Hid (∀ j, j < k → okC (l.getD j 0) = true)) (fun i => s.size - (intOf i).toNat)
  case atStart => exact ⟨0, Nat.zero_le _, rfl, fun j hj => absurd hj (by omega)⟩
  case round =>
  obtain ⟨k, hk, rfl, HALL⟩ := hrel
  by_cases hlt : k < s.size
  · have hk' : k < l.length := by have := HSZ.out; omega
    obtain ⟨c, hc⟩ : ∃ c, c = s[k] := ⟨_, rfl⟩
    have HC : Hid (c = l.getD k 0) := hc.trans (HG.out k hlt)
    have hidx : s[k] = c := hc.symm
    clear hc
    have hb : (c.toNat : Int) < 256 := by have := c.toNat_lt; omega
    rcases (show ((c.toNat : Int) < 48) ∨ (48 ≤ (c.toNat : Int) ∧ (c.toNat : Int) ≤ 57) ∨ (57 < (c.toNat : Int) ∧ (c.toNat : Int) < 95) ∨ ((c.toNat : Int) = 95) ∨ ((c.toNat : Int) = 96) ∨ (97 ≤ (c.toNat : Int) ∧ (c.toNat : Int) ≤ 122) ∨ (122 < (c.toNat : Int)) by omega) with hi | hi | hi | hi | hi | hi | hi
    · have HOK : Hid (okC c = false) := by
        show _ = _
        unfold okC
        simp
        omega
      have e1 : decide (97 ≤ (c.toNat : Int)) = false := by simp; omega
      have e2 : decide ((c.toNat : Int) ≤ 122) = true := by simp; omega
      have e3 : decide (48 ≤ (c.toNat : Int)) = false := by simp; omega
      have e4 : decide ((c.toNat : Int) ≤ 57) = true := by simp; omega
      have e5 : ((c.toNat : Int) == 95) = false := by simp; omega
      clear hi
      go_wp2
      go_ret
      rw [nameB_bad k hk' (by rw [← HC.out]; exact HOK.out)]
      exact ⟨rfl, rfl⟩
    · have HOK : Hid (okC c = true) := by
        show _ = _
        unfold okC
        simp
        omega
      have e1 : decide (97 ≤ (c.toNat : Int)) = false := by simp; omega
      have e2 : decide ((c.toNat : Int) ≤ 122) = true := by simp; omega
      have e3 : decide (48 ≤ (c.toNat : Int)) = true := by simp; omega
      have e4 : decide ((c.toNat : Int) ≤ 57) = true := by simp; omega
      have e5 : ((c.toNat : Int) == 95) = false := by simp; omega
      clear hi
      go_wp2
      clear e1 e2 e3 e4 e5
      go_round
      case rel => exact ⟨k + 1, by omega, by go_num, fun j hj => by
        rcases Nat.lt_or_ge j k with h | h
        · exact HALL.out j h
        · obtain rfl : j = k := by omega
          rw [← HC.out]; exact HOK.out⟩
      case measure => simp [intOf]; omega
    · have HOK : Hid (okC c = false) := by
        show _ = _
        unfold okC
        simp
        omega
      have e1 : decide (97 ≤ (c.toNat : Int)) = false := by simp; omega
      have e2 : decide ((c.toNat : Int) ≤ 122) = true := by simp; omega
      have e3 : decide (48 ≤ (c.toNat : Int)) = true := by simp; omega
      have e4 : decide ((c.toNat : Int) ≤ 57) = false := by simp; omega
      have e5 : ((c.toNat : Int) == 95) = false := by simp; omega
      clear hi
      go_wp2
      go_ret
      rw [nameB_bad k hk' (by rw [← HC.out]; exact HOK.out)]
      exact ⟨rfl, rfl⟩
    · have HOK : Hid (okC c = true) := by
        show _ = _
        unfold okC
        simp
        omega
      have e1 : decide (97 ≤ (c.toNat : Int)) = false := by simp; omega
      have e2 : decide ((c.toNat : Int) ≤ 122) = true := by simp; omega
      have e3 : decide (48 ≤ (c.toNat : Int)) = true := by simp; omega
      have e4 : decide ((c.toNat : Int) ≤ 57) = false := by simp; omega
      have e5 : ((c.toNat : Int) == 95) = true := by simp; omega
      clear hi
      go_wp2
      clear e1 e2 e3 e4 e5
      go_round
      case rel => exact ⟨k + 1, by omega, by go_num, fun j hj => by
        rcases Nat.lt_or_ge j k with h | h
        · exact HALL.out j h
        · obtain rfl : j = k := by omega
          rw [← HC.out]; exact HOK.out⟩
      case measure => simp [intOf]; omega
    · have HOK : Hid (okC c = false) := by
        show _ = _
        unfold okC
        simp
        omega
      have e1 : decide (97 ≤ (c.toNat : Int)) = false := by simp; omega
      have e2 : decide ((c.toNat : Int) ≤ 122) = true := by simp; omega
      have e3 : decide (48 ≤ (c.toNat : Int)) = true := by simp; omega
      have e4 : decide ((c.toNat : Int) ≤ 57) = false := by simp; omega
      have e5 : ((c.toNat : Int) == 95) = false := by simp; omega
      clear hi
      go_wp2
      go_ret
      rw [nameB_bad k hk' (by rw [← HC.out]; exact HOK.out)]
      exact ⟨rfl, rfl⟩
    · have HOK : Hid (okC c = true) := by
        show _ = _
        unfold okC
        simp
        omega
      have e1 : decide (97 ≤ (c.toNat : Int)) = true := by simp; omega
      have e2 : decide ((c.toNat : Int) ≤ 122) = true := by simp; omega
      have e3 : decide (48 ≤ (c.toNat : Int)) = true := by simp; omega
      have e4 : decide ((c.toNat : Int) ≤ 57) = false := by simp; omega
      have e5 : ((c.toNat : Int) == 95) = false := by simp; omega
      clear hi
      go_wp2
      clear e1 e2 e3 e4 e5
      go_round
      case rel => exact ⟨k + 1, by omega, by go_num, fun j hj => by
        rcases Nat.lt_or_ge j k with h | h
        · exact HALL.out j h
        · obtain rfl : j = k := by omega
          rw [← HC.out]; exact HOK.out⟩
      case measure => simp [intOf]; omega
    · have HOK : Hid (okC c = false) := by
        show _ = _
        unfold okC
        simp
        omega
      have e1 : decide (97 ≤ (c.toNat : Int)) = true := by simp; omega
      have e2 : decide ((c.toNat : Int) ≤ 122) = false := by simp; omega
      have e3 : decide (48 ≤ (c.toNat : Int)) = true := by simp; omega
      have e4 : decide ((c.toNat : Int) ≤ 57) = false := by simp; omega
      have e5 : ((c.toNat : Int) == 95) = false := by simp; omega
      clear hi
      go_wp2
      go_ret
      rw [nameB_bad k hk' (by rw [← HC.out]; exact HOK.out)]
      exact ⟨rfl, rfl⟩
  · have HR : Hid (nameB l = true) := nameB_t (by have := HSZ.out; omega) (by have := HSZ.out; omega) (fun j hj => HALL.out j (by have := HSZ.out; omega))
    go_wp2
    go_ret
    rw [HR.out]
    exact ⟨rfl, rfl⟩

end Go.Proofs.YtgnpjenpehfjbaaDoor
