/- The document's Number (by program: wip/tools/gen_snum.py).
Scripts, plain: a line cut from the left. -/
import Derived.Test.YtaeoghagpeihkaaDoorSC
import Derived.Test.YtaeoghagpeihkaaDoorSA
set_option linter.unusedSimpArgs false
set_option linter.unusedVariables false
namespace Go.Proofs.YtaeoghagpeihkaaDoor
open Go.RowKit

set_option maxRecDepth 100000 in
set_option maxHeartbeats 4000000 in
theorem rnum_any (s : ByteArray) (w : World) (hs : s.size ≤ 100000000) : Calls Tryd.prog 52 #[.string s] w fun e w' => e = .returned (.tuple #[.int .i64 ((numF s.data.toList).getD 0), .bool (numF s.data.toList).isSome]) ∧ w = w' := by
  obtain ⟨L, hL⟩ : ∃ l, l = s.data.toList := ⟨_, rfl⟩
  have hLs : L.length = s.size := by rw [hL]; simp
  have hLg : ∀ (i : Nat) (hi : i < s.size), s[i] = L[i]'(by omega) := by intro i hi; subst hL; rfl
  rw [← hL]
  have HLG := Lib.hid hLg
  clear hL hLg
  obtain ⟨q, hq⟩ : ∃ q, q = numF L := ⟨_, rfl⟩
  rw [← hq]
  have HQQ := Lib.hid hq
  clear hq
  by_cases h0 : s.size = 0
  · have HE : Hid (q = none) := HQQ.out.trans (by rw [List.eq_nil_of_length_eq_zero (hLs.trans h0)]; exact num_nil)
    go_enter Tryd.func52, Tryd.ntmps52
    go_wp2_with (fail)
    go_ret2
    exact ⟨by rw [HE.out]; rfl, rfl⟩
  · obtain ⟨c0, hc0⟩ : ∃ c, s[0] = c := ⟨_, rfl⟩
    have hL0 : L[0]'(by omega) = c0 := by rw [← HLG.out 0 (by omega)]; exact hc0
    have hsz : 0 < s.size := by omega
    by_cases hm : c0 = 45
    · subst hm
      obtain ⟨ds, hds⟩ : ∃ ds, L = 45 :: ds := by
        cases L with
        | nil => simp at hLs; omega
        | cons x r => exact ⟨r, by rw [show x = 45 from hL0]⟩
      have hdl : ds.length + 1 = s.size := by rw [← hLs, hds]; rfl
      have HSH : Hid (L = (if true then 45 :: ds else ds) ∧ (true = false → ds.head? ≠ some 45)) := ⟨by simpa using hds, (fun h => by cases h)⟩
      by_cases h1 : s.size = 1
      · have HE : Hid (q = none) := HQQ.out.trans (num_none (neg := true) HSH.out.1 HSH.out.2 (.inl (List.eq_nil_of_length_eq_zero (by omega))))
        go_enter Tryd.func52, Tryd.ntmps52
        go_wp2_with (fail)
        go_ret2
        exact ⟨by rw [HE.out]; rfl, rfl⟩
      · obtain ⟨c1, hc1⟩ : ∃ c, s[1] = c := ⟨_, rfl⟩
        have hD0 : ds.head? = some c1 := by
          have h := HLG.out 1 (by omega)
          rw [hc1] at h
          rw [List.head?_eq_getElem?, List.getElem?_eq_getElem (by omega)]
          rw [h]
          subst hds
          rfl
        by_cases h48 : c1 = 48
        · subst h48
          have HE : Hid (q = none) := HQQ.out.trans (num_none (neg := true) HSH.out.1 HSH.out.2 (.inr (.inl ⟨hD0, by omega⟩)))
          go_enter Tryd.func52, Tryd.ntmps52
          go_wp2_with (fail)
          go_ret2
          exact ⟨by rw [HE.out]; rfl, rfl⟩
        · have n48 : ((c1.toNat : Int) == 48) = false := by
            rw [beq_eq_false_iff_ne]
            intro e
            exact h48 (UInt8.toNat_inj.1 (by show c1.toNat = 48; omega))
          have HNE : Hid (ds ≠ []) := by show _; intro e; rw [e] at hdl; simp at hdl; omega
          have HH0 : Hid (ds.head? ≠ some 48) := by show _ ≠ _; rw [hD0]; intro e; exact h48 (by simpa using e)
          clear hds hD0 hL0
          go_enter Tryd.func52, Tryd.ntmps52
          go_wp2_with (fail)
          go_loopw [5, 6] (fun nv iv wr => ∃ (k v : Nat) (ts : List UInt8), 1 ≤ k ∧ k ≤ s.size ∧ v ≤ 9223372036854775808 ∧ iv = .int .i64 (k : Int) ∧ nv = .int .i64 (-(v : Int)) ∧ Hid (ts = ds.take (k - 1)) ∧ Hid (v = valD ts ∧ ∀ c ∈ ts, dig c) ∧ wr = w) (fun _ iv _ => s.size - (intOf iv).toNat)
          case atStart => exact ⟨1, 0, [], Nat.le_refl _, by omega, by omega, rfl, rfl, rfl, ⟨rfl, (fun c h => by cases h)⟩, rfl⟩
          case round =>
            obtain ⟨k, v, ts, hka, hk, hv, rfl, rfl, HT, HV, rfl⟩ := hrel
            by_cases hlt : k < s.size
            · obtain ⟨c, hc⟩ : ∃ c, s[k] = c := ⟨_, rfl⟩
              have hkd : k - 1 < ds.length := by omega
              have hdc : ds[k - 1] = c := by
                rw [← hc, HLG.out k hlt]
                have h1 := HSH.out.1
                have h2 : ∀ (m : Nat) (hm : m < L.length) (hm2 : m - 1 < ds.length), 1 ≤ m → ds[m - 1] = L[m] := by
                  subst h1
                  intro m hm hm2 ha
                  obtain ⟨j, rfl⟩ : ∃ j, m = j + 1 := ⟨m - 1, by omega⟩
                  rfl
                exact h2 k (by omega) hkd hka
              have hts : ds.take (k + 1 - 1) = ts ++ [c] := by
                rw [show k + 1 - 1 = (k - 1) + 1 by omega, List.take_succ_eq_append_getElem hkd, hdc, HT.out]
              have HTS := Lib.hid hts
              have hdec : ds = (ts ++ [c]) ++ ds.drop (k + 1 - 1) := by rw [← hts, List.take_append_drop]
              have HDEC := Lib.hid hdec
              have hmem : c ∈ ds := by rw [hdec]; simp
              have HMEM := Lib.hid hmem
              have hct := c.toNat_lt
              clear hts hdec hmem hdc
              have hw0 : IntKind.i64.wrap (c.toNat : Int) = (c.toNat : Int) := by simp only [IntKind.wrap_i64]; omega
              have hw1 : IntKind.i64.wrap ((c.toNat : Int) - 48) = (c.toNat : Int) - 48 := by simp only [IntKind.wrap_i64]; omega
              by_cases g1 : c.toNat < 48
              · have g1' : (c.toNat : Int) - 48 < 0 := by omega
                have HE : Hid (q = none) := HQQ.out.trans (num_none (neg := true) HSH.out.1 HSH.out.2 (by right; right; left; exact ⟨c, HMEM.out, fun h => by have := h.1; omega⟩))
                go_wp2_with (fail)
                go_ret2
                exact ⟨by rw [HE.out]; rfl, rfl⟩
              · have g1' : ¬ (c.toNat : Int) - 48 < 0 := by omega
                by_cases g2 : 57 < c.toNat
                · have g2' : 9 < (c.toNat : Int) - 48 := by omega
                  have HE : Hid (q = none) := HQQ.out.trans (num_none (neg := true) HSH.out.1 HSH.out.2 (by right; right; left; exact ⟨c, HMEM.out, fun h => by have := h.2; omega⟩))
                  go_wp2_with (fail)
                  go_ret2
                  exact ⟨by rw [HE.out]; rfl, rfl⟩
                · have g2' : ¬ 9 < (c.toNat : Int) - 48 := by omega
                  have HVN : Hid (valD (ts ++ [c]) = 10 * v + (c.toNat - 48)) := by show _ = _; rw [valD_snoc, ← HV.out.1]
                  by_cases g3 : 922337203685477580 < v
                  · have g3' : -(v : Int) < -922337203685477580 := by omega
                    have HE : Hid (q = none) := HQQ.out.trans (num_none (neg := true) HSH.out.1 HSH.out.2 (by right; right; right; left; exact ⟨_, _, HDEC.out, by rw [HVN.out]; omega⟩))
                    go_wp2_with (fail)
                    go_ret2
                    exact ⟨by rw [HE.out]; rfl, rfl⟩
                  · have g3' : ¬ -(v : Int) < -922337203685477580 := by omega
                    by_cases g4 : v = 922337203685477580 ∧ 56 < c.toNat
                    · have g4e : v = 922337203685477580 := g4.1
                      subst g4e
                      have g5' : 8 < (c.toNat : Int) - 48 := by omega
                      have HE : Hid (q = none) := HQQ.out.trans (num_none (neg := true) HSH.out.1 HSH.out.2 (by right; right; right; left; exact ⟨_, _, HDEC.out, by rw [HVN.out]; omega⟩))
                      go_wp2_with (fail)
                      go_ret2
                      exact ⟨by rw [HE.out]; rfl, rfl⟩
                    · have hw2 : IntKind.i64.wrap (10 * (-(v : Int))) = 10 * (-(v : Int)) := by simp only [IntKind.wrap_i64]; omega
                      have hw3 : IntKind.i64.wrap (10 * (-(v : Int)) - ((c.toNat : Int) - 48)) = -((10 * v + (c.toNat - 48) : Nat) : Int) := by simp only [IntKind.wrap_i64]; omega
                      have HV2 : Hid (10 * v + (c.toNat - 48) = valD (ts ++ [c]) ∧ ∀ e ∈ ts ++ [c], dig e) := ⟨HVN.out.symm, by
                        intro e he
                        rcases List.mem_append.1 he with he | he
                        · exact HV.out.2 e he
                        · have he := List.mem_singleton.1 he
                          subst he
                          exact ⟨by omega, by omega⟩⟩
                      by_cases g5 : v = 922337203685477580
                      · have g5' : ¬ 8 < (c.toNat : Int) - 48 := by omega
                        have g6 : (-(v : Int) == -922337203685477580) = true := by rw [beq_iff_eq]; omega
                        go_wp2_with (fail)
                        go_roundw
                        case rel => exact ⟨k + 1, 10 * v + (c.toNat - 48), ts ++ [c], by omega, by omega, by omega, by go_num, (by subst g5; congr 1; omega), HTS.out.symm, HV2.out, by trivial⟩
                        case measure => simp [intOf] <;> omega
                      · have g6 : (-(v : Int) == -922337203685477580) = false := by rw [beq_eq_false_iff_ne]; omega
                        go_wp2_with (fail)
                        go_roundw
                        case rel => exact ⟨k + 1, 10 * v + (c.toNat - 48), ts ++ [c], by omega, by omega, by omega, by go_num, rfl, HTS.out.symm, HV2.out, by trivial⟩
                        case measure => simp [intOf] <;> omega
            · have htd : ts = ds := by rw [HT.out, List.take_of_length_le (by omega)]
              subst htd
              have HE : Hid (q = some (-(v : Int))) := HQQ.out.trans (by
                have h := num_neg HV.out.2 HNE.out HH0.out (by rw [← HV.out.1]; exact hv)
                rw [← HV.out.1] at h
                rw [HSH.out.1]
                exact h)
              go_wp2_with (fail)
              go_ret2
              exact ⟨by rw [HE.out]; rfl, rfl⟩
    · have n45 : ((c0.toNat : Int) == 45) = false := by
        rw [beq_eq_false_iff_ne]
        intro e
        exact hm (UInt8.toNat_inj.1 (by show c0.toNat = 45; omega))
      obtain ⟨ds, hds⟩ : ∃ ds, L = ds := ⟨_, rfl⟩
      have hdl : ds.length = s.size := by rw [← hLs, hds]
      have hD0 : ds.head? = some c0 := by
        rw [List.head?_eq_getElem?, List.getElem?_eq_getElem (by omega), ← hL0]
        subst hds
        rfl
      have HSH : Hid (L = (if false then 45 :: ds else ds) ∧ (false = false → ds.head? ≠ some 45)) := ⟨by simpa using hds, fun _ => by rw [hD0]; intro e; exact hm (by simpa using e)⟩
      by_cases h48 : c0 = 48 ∧ 1 < s.size
      · obtain ⟨rfl, h1⟩ := h48
        have h1' : (1 : Int) < (s.size : Int) := by omega
        have HE : Hid (q = none) := HQQ.out.trans (num_none (neg := false) HSH.out.1 HSH.out.2 (.inr (.inl ⟨hD0, by omega⟩)))
        go_enter Tryd.func52, Tryd.ntmps52
        go_wp2_with (fail)
        go_ret2
        exact ⟨by rw [HE.out]; rfl, rfl⟩
      · have HNE : Hid (ds ≠ []) := by show _; intro e; rw [e] at hdl; simp at hdl; omega
        have HH0 : Hid (ds.length = 1 ∨ ds.head? ≠ some 48) := by
          show _ ∨ _
          by_cases h1 : ds.length = 1
          · exact .inl h1
          · right; rw [hD0]; intro e; exact h48 ⟨by simpa using e, by omega⟩
        clear hds hD0 hL0
        by_cases e48 : c0 = 48
        · subst e48
          have h1' : ¬ (1 : Int) < (s.size : Int) := by intro h; exact h48 ⟨rfl, by omega⟩
          go_enter Tryd.func52, Tryd.ntmps52
          go_wp2_with (fail)
          go_loopw [5, 6] (fun nv iv wr => ∃ (k v : Nat) (ts : List UInt8), 0 ≤ k ∧ k ≤ s.size ∧ v ≤ 9223372036854775808 ∧ iv = .int .i64 (k : Int) ∧ nv = .int .i64 (-(v : Int)) ∧ Hid (ts = ds.take (k - 0)) ∧ Hid (v = valD ts ∧ ∀ c ∈ ts, dig c) ∧ wr = w) (fun _ iv _ => s.size - (intOf iv).toNat)
          case atStart => exact ⟨0, 0, [], Nat.le_refl _, by omega, by omega, rfl, rfl, rfl, ⟨rfl, (fun c h => by cases h)⟩, rfl⟩
          case round =>
            obtain ⟨k, v, ts, hka, hk, hv, rfl, rfl, HT, HV, rfl⟩ := hrel
            by_cases hlt : k < s.size
            · obtain ⟨c, hc⟩ : ∃ c, s[k] = c := ⟨_, rfl⟩
              have hkd : k - 0 < ds.length := by omega
              have hdc : ds[k - 0] = c := by
                rw [← hc, HLG.out k hlt]
                have h1 := HSH.out.1
                have h2 : ∀ (m : Nat) (hm : m < L.length) (hm2 : m - 0 < ds.length), 0 ≤ m → ds[m - 0] = L[m] := by
                  subst h1
                  intro m hm hm2 ha
                  skip
                  rfl
                exact h2 k (by omega) hkd hka
              have hts : ds.take (k + 1 - 0) = ts ++ [c] := by
                rw [show k + 1 - 0 = (k - 0) + 1 by omega, List.take_succ_eq_append_getElem hkd, hdc, HT.out]
              have HTS := Lib.hid hts
              have hdec : ds = (ts ++ [c]) ++ ds.drop (k + 1 - 0) := by rw [← hts, List.take_append_drop]
              have HDEC := Lib.hid hdec
              have hmem : c ∈ ds := by rw [hdec]; simp
              have HMEM := Lib.hid hmem
              have hct := c.toNat_lt
              clear hts hdec hmem hdc
              have hw0 : IntKind.i64.wrap (c.toNat : Int) = (c.toNat : Int) := by simp only [IntKind.wrap_i64]; omega
              have hw1 : IntKind.i64.wrap ((c.toNat : Int) - 48) = (c.toNat : Int) - 48 := by simp only [IntKind.wrap_i64]; omega
              by_cases g1 : c.toNat < 48
              · have g1' : (c.toNat : Int) - 48 < 0 := by omega
                have HE : Hid (q = none) := HQQ.out.trans (num_none (neg := false) HSH.out.1 (fun _ => HSH.out.2 trivial) (by right; right; left; exact ⟨c, HMEM.out, fun h => by have := h.1; omega⟩))
                go_wp2_with (fail)
                go_ret2
                exact ⟨by rw [HE.out]; rfl, rfl⟩
              · have g1' : ¬ (c.toNat : Int) - 48 < 0 := by omega
                by_cases g2 : 57 < c.toNat
                · have g2' : 9 < (c.toNat : Int) - 48 := by omega
                  have HE : Hid (q = none) := HQQ.out.trans (num_none (neg := false) HSH.out.1 (fun _ => HSH.out.2 trivial) (by right; right; left; exact ⟨c, HMEM.out, fun h => by have := h.2; omega⟩))
                  go_wp2_with (fail)
                  go_ret2
                  exact ⟨by rw [HE.out]; rfl, rfl⟩
                · have g2' : ¬ 9 < (c.toNat : Int) - 48 := by omega
                  have HVN : Hid (valD (ts ++ [c]) = 10 * v + (c.toNat - 48)) := by show _ = _; rw [valD_snoc, ← HV.out.1]
                  by_cases g3 : 922337203685477580 < v
                  · have g3' : -(v : Int) < -922337203685477580 := by omega
                    have HE : Hid (q = none) := HQQ.out.trans (num_none (neg := false) HSH.out.1 (fun _ => HSH.out.2 trivial) (by right; right; right; left; exact ⟨_, _, HDEC.out, by rw [HVN.out]; omega⟩))
                    go_wp2_with (fail)
                    go_ret2
                    exact ⟨by rw [HE.out]; rfl, rfl⟩
                  · have g3' : ¬ -(v : Int) < -922337203685477580 := by omega
                    by_cases g4 : v = 922337203685477580 ∧ 56 < c.toNat
                    · have g4e : v = 922337203685477580 := g4.1
                      subst g4e
                      have g5' : 8 < (c.toNat : Int) - 48 := by omega
                      have HE : Hid (q = none) := HQQ.out.trans (num_none (neg := false) HSH.out.1 (fun _ => HSH.out.2 trivial) (by right; right; right; left; exact ⟨_, _, HDEC.out, by rw [HVN.out]; omega⟩))
                      go_wp2_with (fail)
                      go_ret2
                      exact ⟨by rw [HE.out]; rfl, rfl⟩
                    · have hw2 : IntKind.i64.wrap (10 * (-(v : Int))) = 10 * (-(v : Int)) := by simp only [IntKind.wrap_i64]; omega
                      have hw3 : IntKind.i64.wrap (10 * (-(v : Int)) - ((c.toNat : Int) - 48)) = -((10 * v + (c.toNat - 48) : Nat) : Int) := by simp only [IntKind.wrap_i64]; omega
                      have HV2 : Hid (10 * v + (c.toNat - 48) = valD (ts ++ [c]) ∧ ∀ e ∈ ts ++ [c], dig e) := ⟨HVN.out.symm, by
                        intro e he
                        rcases List.mem_append.1 he with he | he
                        · exact HV.out.2 e he
                        · have he := List.mem_singleton.1 he
                          subst he
                          exact ⟨by omega, by omega⟩⟩
                      by_cases g5 : v = 922337203685477580
                      · have g5' : ¬ 8 < (c.toNat : Int) - 48 := by omega
                        have g6 : (-(v : Int) == -922337203685477580) = true := by rw [beq_iff_eq]; omega
                        go_wp2_with (fail)
                        go_roundw
                        case rel => exact ⟨k + 1, 10 * v + (c.toNat - 48), ts ++ [c], by omega, by omega, by omega, by go_num, (by subst g5; congr 1; omega), HTS.out.symm, HV2.out, by trivial⟩
                        case measure => simp [intOf] <;> omega
                      · have g6 : (-(v : Int) == -922337203685477580) = false := by rw [beq_eq_false_iff_ne]; omega
                        go_wp2_with (fail)
                        go_roundw
                        case rel => exact ⟨k + 1, 10 * v + (c.toNat - 48), ts ++ [c], by omega, by omega, by omega, by go_num, rfl, HTS.out.symm, HV2.out, by trivial⟩
                        case measure => simp [intOf] <;> omega
            · have htd : ts = ds := by rw [HT.out, List.take_of_length_le (by omega)]
              subst htd
              by_cases g7 : v = 9223372036854775808
              · have g8 : (-(v : Int) == -9223372036854775808) = true := by rw [beq_iff_eq]; omega
                have HE : Hid (q = none) := HQQ.out.trans (num_none (neg := false) HSH.out.1 (fun _ => HSH.out.2 trivial) (by right; right; right; right; exact ⟨rfl, by rw [← HV.out.1]; omega⟩))
                go_wp2_with (fail)
                go_ret2
                exact ⟨by rw [HE.out]; rfl, rfl⟩
              · have g8 : (-(v : Int) == -9223372036854775808) = false := by rw [beq_eq_false_iff_ne]; omega
                have hw4 : IntKind.i64.wrap (v : Int) = (v : Int) := by simp only [IntKind.wrap_i64]; omega
                have HE : Hid (q = some (v : Int)) := HQQ.out.trans (by
                  have h := num_pos HV.out.2 HNE.out HH0.out (by rw [← HV.out.1]; omega)
                  rw [← HV.out.1] at h
                  rw [HSH.out.1]
                  exact h)
                go_wp2_with (fail)
                go_ret2
                exact ⟨by rw [HE.out]; rfl, rfl⟩
        · have n48 : ((c0.toNat : Int) == 48) = false := by
            rw [beq_eq_false_iff_ne]
            intro e
            exact e48 (UInt8.toNat_inj.1 (by show c0.toNat = 48; omega))
          go_enter Tryd.func52, Tryd.ntmps52
          go_wp2_with (fail)
          go_loopw [5, 6] (fun nv iv wr => ∃ (k v : Nat) (ts : List UInt8), 0 ≤ k ∧ k ≤ s.size ∧ v ≤ 9223372036854775808 ∧ iv = .int .i64 (k : Int) ∧ nv = .int .i64 (-(v : Int)) ∧ Hid (ts = ds.take (k - 0)) ∧ Hid (v = valD ts ∧ ∀ c ∈ ts, dig c) ∧ wr = w) (fun _ iv _ => s.size - (intOf iv).toNat)
          case atStart => exact ⟨0, 0, [], Nat.le_refl _, by omega, by omega, rfl, rfl, rfl, ⟨rfl, (fun c h => by cases h)⟩, rfl⟩
          case round =>
            obtain ⟨k, v, ts, hka, hk, hv, rfl, rfl, HT, HV, rfl⟩ := hrel
            by_cases hlt : k < s.size
            · obtain ⟨c, hc⟩ : ∃ c, s[k] = c := ⟨_, rfl⟩
              have hkd : k - 0 < ds.length := by omega
              have hdc : ds[k - 0] = c := by
                rw [← hc, HLG.out k hlt]
                have h1 := HSH.out.1
                have h2 : ∀ (m : Nat) (hm : m < L.length) (hm2 : m - 0 < ds.length), 0 ≤ m → ds[m - 0] = L[m] := by
                  subst h1
                  intro m hm hm2 ha
                  skip
                  rfl
                exact h2 k (by omega) hkd hka
              have hts : ds.take (k + 1 - 0) = ts ++ [c] := by
                rw [show k + 1 - 0 = (k - 0) + 1 by omega, List.take_succ_eq_append_getElem hkd, hdc, HT.out]
              have HTS := Lib.hid hts
              have hdec : ds = (ts ++ [c]) ++ ds.drop (k + 1 - 0) := by rw [← hts, List.take_append_drop]
              have HDEC := Lib.hid hdec
              have hmem : c ∈ ds := by rw [hdec]; simp
              have HMEM := Lib.hid hmem
              have hct := c.toNat_lt
              clear hts hdec hmem hdc
              have hw0 : IntKind.i64.wrap (c.toNat : Int) = (c.toNat : Int) := by simp only [IntKind.wrap_i64]; omega
              have hw1 : IntKind.i64.wrap ((c.toNat : Int) - 48) = (c.toNat : Int) - 48 := by simp only [IntKind.wrap_i64]; omega
              by_cases g1 : c.toNat < 48
              · have g1' : (c.toNat : Int) - 48 < 0 := by omega
                have HE : Hid (q = none) := HQQ.out.trans (num_none (neg := false) HSH.out.1 (fun _ => HSH.out.2 trivial) (by right; right; left; exact ⟨c, HMEM.out, fun h => by have := h.1; omega⟩))
                go_wp2_with (fail)
                go_ret2
                exact ⟨by rw [HE.out]; rfl, rfl⟩
              · have g1' : ¬ (c.toNat : Int) - 48 < 0 := by omega
                by_cases g2 : 57 < c.toNat
                · have g2' : 9 < (c.toNat : Int) - 48 := by omega
                  have HE : Hid (q = none) := HQQ.out.trans (num_none (neg := false) HSH.out.1 (fun _ => HSH.out.2 trivial) (by right; right; left; exact ⟨c, HMEM.out, fun h => by have := h.2; omega⟩))
                  go_wp2_with (fail)
                  go_ret2
                  exact ⟨by rw [HE.out]; rfl, rfl⟩
                · have g2' : ¬ 9 < (c.toNat : Int) - 48 := by omega
                  have HVN : Hid (valD (ts ++ [c]) = 10 * v + (c.toNat - 48)) := by show _ = _; rw [valD_snoc, ← HV.out.1]
                  by_cases g3 : 922337203685477580 < v
                  · have g3' : -(v : Int) < -922337203685477580 := by omega
                    have HE : Hid (q = none) := HQQ.out.trans (num_none (neg := false) HSH.out.1 (fun _ => HSH.out.2 trivial) (by right; right; right; left; exact ⟨_, _, HDEC.out, by rw [HVN.out]; omega⟩))
                    go_wp2_with (fail)
                    go_ret2
                    exact ⟨by rw [HE.out]; rfl, rfl⟩
                  · have g3' : ¬ -(v : Int) < -922337203685477580 := by omega
                    by_cases g4 : v = 922337203685477580 ∧ 56 < c.toNat
                    · have g4e : v = 922337203685477580 := g4.1
                      subst g4e
                      have g5' : 8 < (c.toNat : Int) - 48 := by omega
                      have HE : Hid (q = none) := HQQ.out.trans (num_none (neg := false) HSH.out.1 (fun _ => HSH.out.2 trivial) (by right; right; right; left; exact ⟨_, _, HDEC.out, by rw [HVN.out]; omega⟩))
                      go_wp2_with (fail)
                      go_ret2
                      exact ⟨by rw [HE.out]; rfl, rfl⟩
                    · have hw2 : IntKind.i64.wrap (10 * (-(v : Int))) = 10 * (-(v : Int)) := by simp only [IntKind.wrap_i64]; omega
                      have hw3 : IntKind.i64.wrap (10 * (-(v : Int)) - ((c.toNat : Int) - 48)) = -((10 * v + (c.toNat - 48) : Nat) : Int) := by simp only [IntKind.wrap_i64]; omega
                      have HV2 : Hid (10 * v + (c.toNat - 48) = valD (ts ++ [c]) ∧ ∀ e ∈ ts ++ [c], dig e) := ⟨HVN.out.symm, by
                        intro e he
                        rcases List.mem_append.1 he with he | he
                        · exact HV.out.2 e he
                        · have he := List.mem_singleton.1 he
                          subst he
                          exact ⟨by omega, by omega⟩⟩
                      by_cases g5 : v = 922337203685477580
                      · have g5' : ¬ 8 < (c.toNat : Int) - 48 := by omega
                        have g6 : (-(v : Int) == -922337203685477580) = true := by rw [beq_iff_eq]; omega
                        go_wp2_with (fail)
                        go_roundw
                        case rel => exact ⟨k + 1, 10 * v + (c.toNat - 48), ts ++ [c], by omega, by omega, by omega, by go_num, (by subst g5; congr 1; omega), HTS.out.symm, HV2.out, by trivial⟩
                        case measure => simp [intOf] <;> omega
                      · have g6 : (-(v : Int) == -922337203685477580) = false := by rw [beq_eq_false_iff_ne]; omega
                        go_wp2_with (fail)
                        go_roundw
                        case rel => exact ⟨k + 1, 10 * v + (c.toNat - 48), ts ++ [c], by omega, by omega, by omega, by go_num, rfl, HTS.out.symm, HV2.out, by trivial⟩
                        case measure => simp [intOf] <;> omega
            · have htd : ts = ds := by rw [HT.out, List.take_of_length_le (by omega)]
              subst htd
              by_cases g7 : v = 9223372036854775808
              · have g8 : (-(v : Int) == -9223372036854775808) = true := by rw [beq_iff_eq]; omega
                have HE : Hid (q = none) := HQQ.out.trans (num_none (neg := false) HSH.out.1 (fun _ => HSH.out.2 trivial) (by right; right; right; right; exact ⟨rfl, by rw [← HV.out.1]; omega⟩))
                go_wp2_with (fail)
                go_ret2
                exact ⟨by rw [HE.out]; rfl, rfl⟩
              · have g8 : (-(v : Int) == -9223372036854775808) = false := by rw [beq_eq_false_iff_ne]; omega
                have hw4 : IntKind.i64.wrap (v : Int) = (v : Int) := by simp only [IntKind.wrap_i64]; omega
                have HE : Hid (q = some (v : Int)) := HQQ.out.trans (by
                  have h := num_pos HV.out.2 HNE.out HH0.out (by rw [← HV.out.1]; omega)
                  rw [← HV.out.1] at h
                  rw [HSH.out.1]
                  exact h)
                go_wp2_with (fail)
                go_ret2
                exact ⟨by rw [HE.out]; rfl, rfl⟩

end Go.Proofs.YtaeoghagpeihkaaDoor

namespace Go.Proofs.YtaeoghagpeihkaaDoor

/-- cut up to i: the words so far are ts -/
def CI (L : List UInt8) (i : Nat) (ts : List Tok) : Prop := cutL L = (cutL (L.drop i)).map (ts ++ ·)
theorem CI.start (L : List UInt8) : CI L 0 [] := by
  unfold CI
  rw [List.drop_zero]
  cases cutL L <;> simp
theorem CI.done {L : List UInt8} {i : Nat} {ts : List Tok} (h : CI L i ts) (hi : L.length ≤ i) : cutL L = some ts := by
  unfold CI at h
  rw [h, List.drop_eq_nil_of_le hi, cutL_nil]
  simp
theorem CI.hash {L : List UInt8} {i : Nat} {ts : List Tok} (h : CI L i ts) (hi : i < L.length) (hc : L[i] = 35) : cutL L = some ts := by
  unfold CI at h
  rw [h, drop_at hi, hc, cutL_hash]
  simp
theorem CI.blank {L : List UInt8} {i : Nat} {ts : List Tok} (h : CI L i ts) (hi : i < L.length) (hc : blankB L[i] = true) : CI L (i + 1) ts := by
  unfold CI at h ⊢
  rw [h, drop_at hi, cutL_blank _ _ hc]
theorem cutL_34 (r : List UInt8) : cutL (34 :: r) = match qF r with
    | none => none
    | some (t, n) => if (r.drop n).head?.all stopB then (cutL (r.drop n)).map (⟨true, t⟩ :: ·) else none := by
  show cutF (r.length + 1 + 1) (34 :: r) = _
  rw [cutF, if_neg (by decide), if_neg (by decide), if_pos rfl]
  cases h : qF r with
  | none => rfl
  | some p =>
    obtain ⟨t, n⟩ := p
    have := qF_len r t n h
    simp only
    rw [cutF_L (by rw [List.length_drop]; omega)]
theorem CI.qnone {L : List UInt8} {i : Nat} {ts : List Tok} (h : CI L i ts) (hi : i < L.length) (hc : L[i] = 34) (hq : qF (L.drop (i + 1)) = none) : cutL L = none := by
  unfold CI at h
  rw [h, drop_at hi, hc, cutL_34, hq]
  rfl
theorem CI.qend {L : List UInt8} {i n : Nat} {t : List UInt8} {ts : List Tok} (h : CI L i ts) (hi : i < L.length) (hc : L[i] = 34) (hq : qF (L.drop (i + 1)) = some (t, n)) (he : i + 1 + n < L.length) (hs : stopB L[i + 1 + n] = false) : cutL L = none := by
  unfold CI at h
  rw [h, drop_at hi, hc, cutL_34, hq]
  simp only
  rw [List.drop_drop, drop_at he, List.head?_cons, Option.all_some, hs]
  rfl
theorem CI.quote {L : List UInt8} {i n : Nat} {t : List UInt8} {ts : List Tok} (h : CI L i ts) (hi : i < L.length) (hc : L[i] = 34) (hq : qF (L.drop (i + 1)) = some (t, n)) (hs : ∀ he : i + 1 + n < L.length, stopB L[i + 1 + n] = true) : CI L (i + 1 + n) (ts ++ [⟨true, t⟩]) := by
  unfold CI at h ⊢
  rw [h, drop_at hi, hc, cutL_34, hq]
  simp only
  rw [List.drop_drop, if_pos]
  · cases cutL (L.drop (i + 1 + n)) <;> simp
  · by_cases he : i + 1 + n < L.length
    · rw [drop_at he, List.head?_cons, Option.all_some]; exact hs he
    · rw [List.drop_eq_nil_of_le (by omega)]; rfl
theorem CI.word {L : List UInt8} {i k : Nat} {ts : List Tok} (h : CI L i ts) (hik : i < k) (hk : k ≤ L.length) (hc : L[i]'(by omega) ≠ 34) (hw : ∀ j (h1 : i ≤ j) (h2 : j < k), stopB (L[j]'(by omega)) = false) (he : ∀ he : k < L.length, stopB L[k] = true) : CI L k (ts ++ [⟨false, (L.drop i).take (k - i)⟩]) := by
  unfold CI at h ⊢
  have e : L.drop i = (L.drop i).take (k - i) ++ L.drop k := by
    conv => lhs; rw [← List.take_append_drop (k - i) (L.drop i)]
    rw [List.drop_drop, show i + (k - i) = k by omega]
  have hlen : ((L.drop i).take (k - i)).length = k - i := by rw [List.length_take, List.length_drop]; omega
  have h1 := cutL_word ((L.drop i).take (k - i)) (L.drop k) (by intro h0; rw [h0] at hlen; simp at hlen; omega) (by
    intro c hcm
    obtain ⟨j, hj, rfl⟩ := List.mem_iff_getElem.1 hcm
    rw [hlen] at hj
    rw [List.getElem_take, List.getElem_drop]
    exact hw (i + j) (by omega) (by omega)) (by
    rw [List.head?_take, if_neg (by omega), drop_at (by omega), List.head?_cons]
    intro e
    exact hc (by simpa using e)) (by
    intro c r hr
    by_cases h2 : k < L.length
    · rw [drop_at h2] at hr
      injection hr with hr _
      rw [← hr]
      exact he h2
    · rw [List.drop_eq_nil_of_le (by omega)] at hr
      cases hr)
  rw [← e] at h1
  rw [h, h1]
  cases cutL (L.drop k) <;> simp

end Go.Proofs.YtaeoghagpeihkaaDoor

