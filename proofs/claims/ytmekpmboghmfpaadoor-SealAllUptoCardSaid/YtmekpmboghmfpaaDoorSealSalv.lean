/- What Salvage tells: the places where a frame stands whole, from the beginning on; the iterator's contract. -/
import Derived.Test.YtmekpmboghmfpaaDoorSealROpen
import Derived.Test.YtmekpmboghmfpaaDoorRange
namespace Go.Proofs.YtmekpmboghmfpaaDoor
open Go.RowKit

attribute [local go_sem] Oper.semAt_some

theorem openF_le (l : List UInt8) : (openF l).2.1 ≤ l.length := by
  unfold openF
  by_cases h1 : badForm l
  · rw [if_pos h1]; exact Nat.zero_le _
  · rw [if_neg h1]
    by_cases h2 : l.length < 4
    · rw [if_pos h2]; exact Nat.zero_le _
    · rw [if_neg h2]
      by_cases h3 : l.length < bodyLen l + 8
      · rw [if_pos h3]; exact Nat.zero_le _
      · rw [if_neg h3]
        by_cases h4 : crc ((l.take (4 + bodyLen l)).drop 2) ≠ sumAt l (4 + bodyLen l)
        · rw [if_pos h4]; exact Nat.zero_le _
        · rw [if_neg h4]; show bodyLen l + 8 ≤ _; omega

theorem openF_code (l : List UInt8) : (openF l).2.2 ≤ 22 := by
  unfold openF
  repeat (first | (split) | exact Nat.zero_le _ | decide)

/-- one place more: (where the next frame may begin, the places) -/
def salvStep (l : List UInt8) (s : Nat × List Nat) (k : Nat) : Nat × List Nat :=
  if k < s.1 then s else if (openF (l.drop k)).2.2 ≠ 0 then s else (k + (openF (l.drop k)).2.1, s.2 ++ [k])
def salv (l : List UInt8) : Nat → Nat × List Nat
  | 0 => (0, [])
  | k + 1 => salvStep l (salv l k) k
def places (l : List UInt8) : List Nat := (salv l l.length).2
def bodyAt (l : List UInt8) (k : Nat) : List UInt8 := (openF (l.drop k)).1

theorem salv_le (l : List UInt8) (k : Nat) (hk : k ≤ l.length) : (salv l k).1 ≤ l.length := by
  induction k with
  | zero => exact Nat.zero_le _
  | succ k ih =>
    have h := ih (by omega)
    have h2 := openF_le (l.drop k)
    rw [List.length_drop] at h2
    show (salvStep l (salv l k) k).1 ≤ _
    unfold salvStep
    by_cases h3 : k < (salv l k).1
    · rw [if_pos h3]; exact h
    · rw [if_neg h3]
      by_cases h4 : (openF (l.drop k)).2.2 ≠ 0
      · rw [if_pos h4]; exact h
      · rw [if_neg h4]; show k + (openF (l.drop k)).2.1 ≤ _; omega

theorem salv_count (l : List UInt8) (k : Nat) : (salv l k).2.length ≤ k := by
  induction k with
  | zero => exact Nat.le_refl _
  | succ k ih =>
    show (salvStep l (salv l k) k).2.length ≤ _
    unfold salvStep
    by_cases h3 : k < (salv l k).1
    · rw [if_pos h3]; omega
    · rw [if_neg h3]
      by_cases h4 : (openF (l.drop k)).2.2 ≠ 0
      · rw [if_pos h4]; omega
      · rw [if_neg h4]; simp; omega

def encS (x : Nat × Value) : Array Value := #[.int .i64 (x.1 : Int), x.2]
/-- what the iterator reads: its captured variable, the bytes, the table -/
def InvS (bx base : Nat) (v : Value) (l : List UInt8) (W : World) : Prop := W.cell? ⟨bx, 0, none⟩ = some v ∧ Bts W W.heap.size v l ∧ TabOK W ∧ base ≤ W.heap.size
def RS (base : Nat) (l : List UInt8) (pre : List (Nat × Value)) (x : Nat × Value) (W : World) : Prop := Own W base x.2 (bodyAt l x.1) ∧ pre.length < l.length ∧ x.1 < l.length

set_option maxRecDepth 100000 in
set_option maxHeartbeats 1000000 in
theorem whole1_iter (bx base : Nat) (v : Value) (l : List UInt8) (n : Nat) :
    Iterates Fence.wide n Tryd.prog 49 #[.pointer (some ⟨bx, 0, none⟩)] encS (InvS bx base v l) (RS base l) (fun xs => xs.map (·.1) = places l) (fun _ => True) := by
  intro yl J Jx W hJ hInv hY h0
  obtain ⟨hbx, hb, ht, hbase⟩ := hInv _ _ h0
  obtain ⟨ao, cap, hv, _⟩ := id hb
  have hm := hb.len
  have HJ := Lib.hid hJ
  have HI := Lib.hid hInv
  have HY := Lib.hid hY
  clear hJ hInv hY
  subst hv
  refine callsIn_of_wp Tryd.func49 rfl trivial ?_ rfl
  simp only [Tryd.ntmps49, List.size_toArray, List.length_cons, List.length_nil, Nat.reduceAdd, Nat.reduceSub, Array.replicate_succ, Array.replicate_zero, List.push_toArray, List.append_toArray, List.nil_append, List.cons_append]
  refine wpIn_scope_wide ?_
  gi_wp2
  refine wpIn_label ?_
  gi_wp2
  gi_loopw [3, 10] (fun nx i wr => ∃ (k : Nat) (pre : List (Nat × Value)), k ≤ l.length ∧ i = .int .i64 k ∧ nx = .int .i64 ((salv l k).1 : Int) ∧ Hid (pre.map (·.1) = (salv l k).2) ∧ J pre wr) (fun _ i _ => l.length - (intOf i).toNat)
  case atStart => exact ⟨0, [], Nat.zero_le _, rfl, rfl, rfl, h0⟩
  case round =>
    obtain ⟨k, pre, hk, rfl, rfl, HP, hJr⟩ := hrel
    obtain ⟨hbxr, hbr, htr, hbaser⟩ := HI.out _ _ hJr
    have hsl := salv_le l k hk
    by_cases hlt : k < l.length
    · have hstep : Hid (salv l (k + 1) = salvStep l (salv l k) k) := rfl
      by_cases hnext : k < (salv l k).1
      · have hst : salv l (k + 1) = salv l k := by
          rw [hstep.out]; unfold salvStep; rw [if_pos hnext]
        have HS := Lib.hid hst
        clear hst
        gi_wp2
        go_roundw
        case rel => exact ⟨k + 1, pre, by omega, by go_num, by rw [HS.out], by rw [HS.out]; exact HP, hJr⟩
        case measure => simp [intOf]; omega
      · obtain ⟨v1, hb1, hr1⟩ := hbr.fromB k (by omega)
        have hO := Lib.hid (seal_Open v1 (l.drop k) wr hb1 htr)
        by_cases he : (openF (l.drop k)).2.2 = 0
        · have hst : salv l (k + 1) = (k + (openF (l.drop k)).2.1, (salv l k).2 ++ [k]) := by
            rw [hstep.out]; unfold salvStep; rw [if_neg hnext, if_neg (by simp [he])]
          have hle := openF_le (l.drop k)
          rw [List.length_drop] at hle
          have HS := Lib.hid hst
          have HB : Hid (bodyAt l k = (openF (l.drop k)).1) := rfl
          have hpl : Hid (pre.length = (salv l k).2.length) := by
            show _ = _
            rw [← HP.out, List.length_map]
          have hpc := salv_count l k
          clear hst
          have hne : (((openF (l.drop k)).2.2 : Int) != 0) = false := by rw [he]; rfl
          generalize openF (l.drop k) = r at *
          gi_wp2_with (fail)
          refine ⟨trivial, wide_room _, ?_⟩
          refine (callsIn_wide.2 hO.out).mono ?_
          rintro e w' ⟨v', rfl, hown, hbel⟩
          have hJ' := HJ.out _ _ _ hJr hbel
          obtain ⟨hbx2, hb2, ht2, hbase2⟩ := HI.out _ _ hJ'
          obtain ⟨fn, tmps, assign, body, hy, hR⟩ := HY.out pre (k, v') w' hJ' ⟨by rw [HB.out]; exact hown.mono hbaser, by rw [hpl.out]; omega, hlt⟩
          simp only [encS] at hy
          clear hO hown hbel
          gi_wp2
          refine ⟨wide_room _, ?_⟩
          refine hR.mono ?_
          rintro e W' (⟨rfl, hJ3⟩ | ⟨rfl, hJx3⟩)
          · gi_wp2
            go_roundw
            case rel => exact ⟨k + 1, pre ++ [(k, v')], by omega, by go_num, by rw [HS.out]; go_num, by show _ = _; rw [HS.out, List.map_append, HP.out]; rfl, hJ3⟩
            case measure => simp [intOf]; omega
          · gi_wp2
            rw [Exit.noGoto_ret]
            refine bodyPost_ret (results_none rfl _ _ _) rfl ?_
            exact ⟨⟨_, rfl⟩, .inr ⟨_, trivial, hJx3⟩⟩
        · have hst : salv l (k + 1) = salv l k := by
            rw [hstep.out]; unfold salvStep; rw [if_neg hnext, if_pos he]
          have HS := Lib.hid hst
          clear hst
          have hne : (((openF (l.drop k)).2.2 : Int) != 0) = true := by rw [bne_iff_ne]; omega
          clear he
          generalize openF (l.drop k) = r at *
          gi_wp2_with (fail)
          refine ⟨trivial, wide_room _, ?_⟩
          refine (callsIn_wide.2 hO.out).mono ?_
          rintro e w' ⟨v', rfl, hown, hbel⟩
          have hJ' := HJ.out _ _ _ hJr hbel
          clear hO hown hbel
          gi_wp2
          go_roundw
          case rel => exact ⟨k + 1, pre, by omega, by go_num, by rw [HS.out], by rw [HS.out]; exact HP, hJ'⟩
          case measure => simp [intOf]; omega
    · have hkl : k = l.length := by omega
      have hpl : Hid (pre.map (·.1) = places l) := by
        show _ = _
        unfold places; rw [← hkl]; exact HP.out
      clear hkl hsl
      gi_wp2
      rw [Exit.noGoto_normal]
      go_end0
      exact ⟨⟨_, rfl⟩, .inl ⟨pre, hpl.out, hJr⟩⟩

end Go.Proofs.YtmekpmboghmfpaaDoor
