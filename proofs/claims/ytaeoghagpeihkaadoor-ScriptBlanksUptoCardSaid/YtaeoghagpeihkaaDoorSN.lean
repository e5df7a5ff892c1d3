/- The program's lines: strings.Cut at a line's end, the iterator (by program: wip/tools/gen_slines.py). -/
import Derived.Test.YtaeoghagpeihkaaDoorSA
import Derived.Test.YtaeoghagpeihkaaDoorSF
import Derived.Test.YtaeoghagpeihkaaDoorSL
import Derived.Test.YtaeoghagpeihkaaDoorSI
import Derived.BigQuiet
import Derived.Deep.QuietTactic
set_option linter.unusedSimpArgs false
set_option linter.unusedVariables false
namespace Go.Proofs.YtaeoghagpeihkaaDoor
open Go.RowKit

set_option maxRecDepth 100000 in
set_option maxHeartbeats 4000000 in
theorem lcut_any (s : ByteArray) (w : World) (hs : s.size ≤ 100000000) : Calls Tryd.prog 48 #[.string s, .string ⟨#[10]⟩] w fun e w' => ∃ b, e = .returned (.tuple #[.string ⟨(lineOf s.data.toList).toArray⟩, .string ⟨(restOf s.data.toList).toArray⟩, .bool b]) ∧ Below w.heap.size w w' := by
  have hcon := Lib.hid (Tryd.stringslite_Index_one s 10 w)
  obtain ⟨L, hL⟩ : ∃ l, l = s.data.toList := ⟨_, rfl⟩
  have hLs : L.length = s.size := by rw [hL]; simp
  have HEX : Hid (∀ a b, s.extract a b = ⟨((L.drop a).take (b - a)).toArray⟩) := by show ∀ a b, _; intro a b; rw [hL]; exact extr_list s a b
  have hse : s = ⟨L.toArray⟩ := by rw [hL]
  rw [← hL]
  rw [← hL] at hcon
  have HSE := Lib.hid hse
  clear hL hse
  rcases idx_cases 10 L with ⟨e1, e2, e3⟩ | ⟨i, e1, e2, e3, e4⟩
  · have H1 : Hid (lineOf L = L) := e2
    have H2 : Hid (restOf L = []) := by show _ = _; unfold restOf; rw [e3]; rfl
    rw [e1] at hcon
    clear e1 e2 e3
    go_enter Tryd.func48, Tryd.ntmps48
    go_wp2_with (fail)
    with_reducible refine hcon.out.mono ?_
    rintro e w' ⟨rfl, rfl⟩
    go_wp2_with (fail)
    go_ret3
    refine ⟨false, ?_, Below.refl _ _⟩
    rw [H1.out, H2.out, ← HSE.out]
    rfl
  · have H1 : Hid ((⟨(lineOf L).toArray⟩ : ByteArray) = s.extract 0 i) := by show _ = _; unfold lineOf; rw [e3, HEX.out]; simp
    have H2 : Hid ((⟨(restOf L).toArray⟩ : ByteArray) = s.extract (i + 1) s.size) := by
      show _ = _
      unfold restOf
      rw [e4, HEX.out, List.drop_drop, List.take_of_length_le (by rw [List.length_drop]; omega)]
    rw [e1] at hcon
    have c1 : (0 : Int) ≤ (i : Int) := by omega
    have c2 : (i : Int) ≤ (s.size : Int) := by omega
    have c3 : (0 : Int) ≤ (i : Int) + 1 := by omega
    have c4 : (i : Int) + 1 ≤ (s.size : Int) := by omega
    clear e1 e3 e4
    go_enter Tryd.func48, Tryd.ntmps48
    go_wp2_with (fail)
    with_reducible refine hcon.out.mono ?_
    rintro e w' ⟨rfl, rfl⟩
    go_wp2_with (fail)
    go_quiet (fail)
    go_wp2
    go_ret3
    refine ⟨true, ?_, (Below.refl _ _).trans ⟨rfl, rfl, rfl, Nat.le_refl _, fun _ _ => rfl⟩⟩
    rw [H1.out, H2.out]
    rfl

set_option maxRecDepth 100000 in
set_option maxHeartbeats 4000000 in
theorem scut_any (s : ByteArray) (w : World) (hs : s.size ≤ 100000000) : Calls Tryd.prog 35 #[.string s, .string ⟨#[10]⟩] w fun e w' => ∃ b, e = .returned (.tuple #[.string ⟨(lineOf s.data.toList).toArray⟩, .string ⟨(restOf s.data.toList).toArray⟩, .bool b]) ∧ Below w.heap.size w w' := by
  have hcon := Lib.hid (lcut_any s w hs)
  go_enter Tryd.func35, Tryd.ntmps35
  go_wp2_with (fail)
  with_reducible refine hcon.out.mono ?_
  rintro e w' ⟨b, rfl, hB⟩
  have HB := Lib.hid hB
  clear hB
  go_wp2_with (fail)
  go_ret3
  exact ⟨_, rfl, HB.out⟩

attribute [local go_sem] Oper.semAt_some

def encL (x : Nat × List UInt8) : Array Value := #[.int .i64 (x.1 : Int), .string ⟨x.2.toArray⟩]
def strLen : Value → Nat | .string s => s.size | _ => 0
def strO (l : List UInt8) : Obj := .cells #[.string ⟨l.toArray⟩] 9 (0, 0)

set_option maxRecDepth 100000 in
set_option maxHeartbeats 4000000 in
theorem lines1_iter (bx : Nat) (L : List UInt8) (hs : L.length ≤ 100000000) (fu : Nat) :
    IteratesBX Fence.wide fu Tryd.prog 34 #[.pointer (some ⟨bx, 0, none⟩)] encL bx (strO L) (fun pre x => ∃ post, linesL 1 L = pre ++ x :: post) (fun xs => linesL 1 L = xs) (fun _ => True) := by
  intro yl J Jx W hJ hY h0 hbx
  have HJ := Lib.hid hJ
  have HY := Lib.hid hY
  have HL := Lib.hid hs
  clear hJ hY
  refine callsIn_of_wp Tryd.func34 rfl trivial ?_ rfl
  simp only [Tryd.ntmps34, List.size_toArray, List.length_cons, List.length_nil, Nat.reduceAdd, Nat.reduceSub, Array.replicate_succ, Array.replicate_zero, List.push_toArray, List.append_toArray, List.nil_append, List.cons_append]
  gi_wp2
  gi_loopw [3] (fun kv wr => ∃ (k : Nat) (pre : List (Nat × List UInt8)) (T : List UInt8), k = pre.length + 1 ∧ k ≤ 100000001 ∧ kv = .int .i64 (k : Int) ∧ Hid (linesL 1 L = pre ++ linesL k T) ∧ T.length ≤ 100000000 ∧ Hid (J pre wr) ∧ Hid (wr.heap[bx]? = some (strO T))) (fun _ wr => strLen ((wr.cell? ⟨bx, 0, none⟩).getD undef))
  case atStart => exact ⟨1, [], L, rfl, by omega, rfl, rfl, HL.out, h0, hbx⟩
  case round =>
    clear h0 hbx hs
    obtain ⟨k, pre, T, hkp, hk, rfl, HE, hT, HI, HB⟩ := hrel
    have HKP := Lib.hid hkp
    clear hkp
    have a0 : wr.cell? ⟨bx, 0, none⟩ = some (.string ⟨T.toArray⟩) := cell_of_row _ _ 0 _ _ _ HB.out
    cases T with
    | nil =>
      have HE2 : Hid (linesL 1 L = pre) := by have h := HE.out; rw [linesL_nil, List.append_nil] at h; exact h
      gi_wp2
      refine bodyPost_end (results_none rfl _ _ _) rfl ⟨⟨.tuple #[], rfl⟩, .inl ⟨_, HE2.out, HI.out⟩⟩
    | cons c r =>
      have hrl := restOf_len c r
      have HE2 := Lib.hid (HE.out.trans (by rw [linesL_cons]))
      have hlen : pre.length + 1 ≤ 100000000 := by
        have h := (linesL_len 100000000 L 1 HL.out).1
        rw [HE2.out] at h
        simp at h
        omega
      have HCON := Lib.hid (scut_any ⟨(c :: r).toArray⟩ wr (by show (c :: r).length ≤ _; exact hT))
      obtain ⟨ln, hln⟩ : ∃ l, l = lineOf (c :: r) := ⟨_, rfl⟩
      obtain ⟨T2, hT2⟩ : ∃ l, l = restOf (c :: r) := ⟨_, rfl⟩
      simp only [← hln, ← hT2] at HCON HE2 hrl
      have hcr : ((c :: r) == ([] : List UInt8)) = false := rfl
      have HTL : Hid (T2.length < (c :: r).length) := by show _ < _; simp; omega
      have hT2l : T2.length ≤ 100000000 := by simp only [List.length_cons] at hT; omega
      obtain ⟨T, hTe⟩ : ∃ t, t = c :: r := ⟨_, rfl⟩
      rw [← hTe] at HCON HTL a0 HB hcr hT
      clear hln hT2 hTe hrl HE
      gi_wp2_with (fail)
      refine ⟨trivial, wide_room _, ?_⟩
      refine (callsIn_wide.2 HCON.out).mono ?_
      rintro e w1 ⟨b, rfl, hB1⟩
      have HI1 := Lib.hid (HJ.out _ _ _ HI.out (Turns.of_below hB1))
      have HB1 := Lib.hid ((hB1.block _ (Array.getElem?_eq_some_iff.1 HB.out).1).trans HB.out)
      clear HCON hB1 HI a0
      obtain ⟨fn, tmps, assign, body, hy, hR⟩ := HY.out pre (k, ln) w1 HI1.out ⟨_, HE2.out⟩
      simp only [encL] at hy
      gi_wp2_with (fail)
      refine ⟨wide_room _, ?_⟩
      refine hR.mono ?_
      rintro e w2 (⟨rfl, hJ2, hb2⟩ | ⟨rfl, hJ2⟩)
      · have HB2 := Lib.hid (hb2.trans HB1.out)
        have HJ2 := Lib.hid hJ2
        have a2 : w2.cell? ⟨bx, 0, none⟩ = some (.string ⟨T.toArray⟩) := cell_of_row _ _ 0 _ _ _ HB2.out
        have q2 : w2.frozen? ⟨bx, 0, none⟩ = false := frozen_of_row _ _ 0 _ _ HB2.out
        have HB3 : Hid ((w2.setCell ⟨bx, 0, none⟩ (.string ⟨T2.toArray⟩)).heap[bx]? = some (strO T2)) := set_block w2 bx 0 _ _ (.string ⟨T2.toArray⟩) HB2.out
        have HJ3 := Lib.hid (HJ.out _ _ _ HJ2.out (Turns.set (i := 0) (v := .string ⟨T2.toArray⟩) (Turns.of_below (b := bx) (Below.refl _ w2))))
        clear hJ2 hb2 hR hy
        gi_wp2
        go_roundw
        case rel => exact ⟨k + 1, pre ++ [(k, ln)], T2, by have := HKP.out; simp; omega, by have := HKP.out; omega, by go_num, by show _ = _; rw [HE2.out]; simp, hT2l, HJ3, HB3⟩
        case measure =>
          have m1 := cell_of_row _ bx 0 _ _ _ HB3.out
          have m2 := cell_of_row _ bx 0 _ _ _ HB.out
          rw [m1, m2]
          exact HTL.out
      · have HJ2 := Lib.hid hJ2
        clear hJ2 hR hy
        gi_wp2
        refine bodyPost_ret (results_none rfl _ _ _) rfl ⟨⟨.tuple #[], rfl⟩, .inr ⟨_, trivial, HJ2.out⟩⟩

end Go.Proofs.YtaeoghagpeihkaaDoor

