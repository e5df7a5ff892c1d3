/- The law SealWrites, walked: it returns true, and what was there stays as it was. -/
import Derived.Test.YtmekpmboghmfpaaDoorSealLawA
namespace Go.Proofs.YtmekpmboghmfpaaDoor
open Go.RowKit

set_option maxRecDepth 100000 in
set_option maxHeartbeats 2000000 in
theorem law_SealWrites (v : Value) (l : List UInt8) (w : World) (hb : Bts w w.heap.size v l) (ht : TabOK w) (hl : l.length ≤ 140737488355328) :
    Calls Tryd.prog 3 #[v] w fun e w' => e = .returned (.bool true) ∧ Below w.heap.size w w' := by
  have c1 := copied_any v l w hb hl
  go_enter Tryd.func3, Tryd.ntmps3
  go_wp2_with fail
  refine c1.mono ?_
  rintro e w1 ⟨v1, rfl, hown1, hB1⟩
  have ht1 := ht.below hB1 ht.lt
  have c2 := seal_any v1 l w1 hown1.bts ht1
  clear c1
  go_wp2_with fail
  refine c2.mono ?_
  rintro e w2 ⟨vf, rfl, hownf, hB2⟩
  have Bw2 : Below w.heap.size w w2 := hB1.trans (hB2.mono hB1.size)
  have c3 := rseal_any v l w2 (hb.below Bw2 Bw2.size)
  clear c2
  go_wp2_with fail
  refine c3.mono ?_
  rintro e w3 ⟨vg, rfl, hown3, hB3⟩
  clear c3
  have Bw3 : Below w.heap.size w w3 := Bw2.trans (hB3.mono Bw2.size)
  have ht3 := ht.below Bw3 ht.lt
  have hown13 : Own w3 w.heap.size v1 l := (hown1.below hB2).below hB3
  have hownf3 : Own w3 w1.heap.size vf (sealB l) := hownf.below hB3
  have sF := hownf3.bts.strB
  have sG := hown3.bts.strB
  have s1 := hown13.bts.strB
  have sv := (hb.below Bw3 Bw3.size).strB
  have c4 := seal_Sum v1 l w3 _ hown13.bts ht3
  have c5 := ref_Sum v l w3 _ (hb.below Bw3 Bw3.size)
  have eqF : ((⟨(sealB l).toArray⟩ : ByteArray).toList != (⟨(sealB l).toArray⟩ : ByteArray).toList) = false := by simp
  have eql : ((⟨l.toArray⟩ : ByteArray).toList != (⟨l.toArray⟩ : ByteArray).toList) = false := by simp
  go_wp2_with (first
    | (go_at_call 15; refine c4.mono ?_; rintro e w' ⟨rfl, rfl⟩)
    | (go_at_call 16; refine c5.mono ?_; rintro e w' ⟨rfl, rfl⟩))
  clear sF sG s1 sv c4 c5 eql
  have hsz : w.heap.size ≤ w1.heap.size := hB1.size
  have ht0 := ht.lt
  have HFn := Lib.hid hownf3
  have HG := Lib.hid (hown3.mono hB2.size)
  have HB := Lib.hid Bw3
  have HT := Lib.hid ht3
  have HO := Lib.hid hown13
  have HR := Lib.hid hown1
  clear hown13 hownf3 hown3 Bw3 ht3 hb ht hown1 ht1 hownf hB2 Bw2 hB3 hB1
  rcases HR.out.2 with ⟨rfl, hl0⟩ | ⟨g, cap, cur, rfl, hbg, hgg, _⟩
  · have hnil : l = [] := List.eq_nil_of_length_eq_zero hl0
    go_loopw [8] (fun i wr => i = .int .i64 0 ∧ wr = w3) (fun i _ => 0)
    case atStart => exact ⟨rfl, rfl⟩
    case round =>
      obtain ⟨rfl, rfl⟩ := hrel
      have sF := HFn.out.bts.strB
      have sG := HG.out.bts.strB
      have c6 := awake_true wr HT.out
      clear hnil hl0
      go_wp2_with (go_at_call 17; refine c6.mono ?_; rintro e w' ⟨rfl, hB6⟩)
      go_ret
      exact ⟨rfl, HB.out.trans (hB6.mono HB.out.size)⟩
  · have hg1 : g < w1.heap.size := (Array.getElem?_eq_some_iff.1 hgg).1
    clear hgg HR
    generalize hn : l.length = n at *
    have HN := Lib.hid hn
    clear hn
    go_loopw [8] (fun i wr => ∃ (k : Nat) (l' : List UInt8), k ≤ n ∧ i = .int .i64 k ∧ Hid (l'.length = n) ∧ Hid (Own wr w.heap.size (.slice (some ⟨g, 0, none⟩) n cap) l') ∧ Hid (Own wr w1.heap.size vf (sealB l)) ∧ Hid (Own wr w1.heap.size vg (sealB l)) ∧ Hid (Below w.heap.size w wr) ∧ Hid (TabOK wr)) (fun i _ => n - (intOf i).toNat)
    case atStart => exact ⟨0, l, Nat.zero_le _, rfl, HN, HO, HFn, HG, HB, HT⟩
    case round =>
      obtain ⟨k, l', hk, rfl, HL', HO', HF', HG', HB', HT'⟩ := hrel
      clear HO HFn HG HB HT
      by_cases hlt : k < n
      · have hc : wr.cell? ⟨g, k, none⟩ = some (.int .u8 ((l'.getD k 0).toNat : Int)) := by
          have h := HO'.out
          unfold Own at h
          rw [HL'.out] at h
          rw [World.ownsRow.cellAt h k (by omega)]
          have := HL'.out
          simp [List.getD, byteV, show k < l'.length by omega]
        have hf : wr.frozen? ⟨g, k, none⟩ = false := by
          have h := HO'.out
          unfold Own at h
          rw [HL'.out] at h
          exact World.ownsRow.frozenAt h k
        have hst : Below w.heap.size wr (wr.setCell ⟨g, k, none⟩ (.int .u8 ((7 : UInt8).toNat : Int))) := (Below.refl _ _).setCell (p := ⟨g, k, none⟩) hbg _
        go_wp2
        go_roundw
        case rel =>
          exact ⟨k + 1, l'.set k 7, by omega, by go_num, by show _ = _; rw [List.length_set]; exact HL'.out, HO'.out.stored k 7, ownsRow_setCell_below HF'.out (by exact hg1) _, ownsRow_setCell_below HG'.out (by exact hg1) _, HB'.out.trans hst, HT'.out.below hst ht0⟩
        case measure => simp [intOf]; omega
      · have sF := HF'.out.bts.strB
        have sG := HG'.out.bts.strB
        have c6 := awake_true wr HT'.out
        go_wp2_with (go_at_call 17; refine c6.mono ?_; rintro e w' ⟨rfl, hB6⟩)
        go_ret
        exact ⟨rfl, HB'.out.trans (hB6.mono HB'.out.size)⟩

end Go.Proofs.YtmekpmboghmfpaaDoor
