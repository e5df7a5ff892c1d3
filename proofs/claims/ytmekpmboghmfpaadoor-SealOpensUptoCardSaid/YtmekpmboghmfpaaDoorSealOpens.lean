/- The law SealOpens, walked: it returns true, and what was there stays as it was. -/
import Derived.Test.YtmekpmboghmfpaaDoorSealRows
namespace Go.Proofs.YtmekpmboghmfpaaDoor
open Go.RowKit

set_option maxRecDepth 100000 in
set_option maxHeartbeats 2000000 in
theorem law_SealOpens (v vb : Value) (ls : List (List UInt8)) (lb : List UInt8) (w : World) (hb : BtsL w w.heap.size v ls) (hbb : Bts w w.heap.size vb lb) (ht : TabOK w) (hs : (flat ls).length ≤ 1000000000) (hlb : lb.length ≤ 1000000000) :
    Calls Tryd.prog 4 #[v, vb] w fun e w' => e = .returned (.bool true) ∧ Below w.heap.size w w' := by
  have c1 := sealed_any v vb ls lb w hb hbb hs hlb
  go_enter Tryd.func4, Tryd.ntmps4
  go_wp2_with fail
  refine c1.mono ?_
  rintro e w1 ⟨v1, rfl, hown1, hB1⟩
  clear c1
  have ht1 := ht.below hB1 ht.lt
  have c2 := seal_Open v1 _ w1 hown1.bts ht1
  go_wp2_with fail
  refine c2.mono ?_
  rintro e w2 ⟨v2, rfl, hown2, hB2⟩
  clear c2
  have Bw2 : Below w.heap.size w w2 := hB1.trans (hB2.mono hB1.size)
  have c3 := sealed_any v vb ls lb w2 (hb.below Bw2 Bw2.size) (hbb.below Bw2 Bw2.size) hs hlb
  go_wp2_with fail
  refine c3.mono ?_
  rintro e w3 ⟨v3, rfl, hown3, hB3⟩
  clear c3
  have c4 := ref_Open v3 _ w3 hown3.bts
  go_wp2_with fail
  refine c4.mono ?_
  rintro e w4 ⟨v4, rfl, hown4, hB4⟩
  clear c4
  have B24 : Below w2.heap.size w2 w4 := hB3.trans (hB4.mono hB3.size)
  have B14 : Below w1.heap.size w1 w4 := hB2.trans (B24.mono hB2.size)
  have Bw4 : Below w.heap.size w w4 := hB1.trans (B14.mono hB1.size)
  have ht4 := ht.below Bw4 ht.lt
  have h2 : Own w4 w1.heap.size v2 _ := hown2.below B24
  have h4 : Own w4 w1.heap.size v4 _ := hown4.mono (Nat.le_trans hB2.size hB3.size)
  have h1 : Own w4 w.heap.size v1 _ := hown1.below B14
  generalize openF (flat ls ++ lb) = o at *
  generalize flat ls ++ lb = L at *
  obtain ⟨ob, on, oc⟩ := o
  simp only at h2 h4
  have hsz : w.heap.size ≤ w1.heap.size := hB1.size
  have ht0 := ht.lt
  have HF := Lib.hid h2
  have HG := Lib.hid h4
  have HB := Lib.hid Bw4
  have HT := Lib.hid ht4
  have HO := Lib.hid h1
  have HR := Lib.hid hown1
  clear h1 h2 h4 hown1 hown2 hown3 hown4 hB1 hB2 hB3 hB4 B24 B14 Bw4 ht4 ht1 hb hbb ht hs hlb Bw2
  go_wp2_with fail
  rcases HR.out.2 with ⟨rfl, hl0⟩ | ⟨g, cap, cur, rfl, hbg, hgg, _⟩
  · go_loopw [12] (fun i wr => i = .int .i64 0 ∧ wr = w4) (fun i _ => 0)
    case atStart => exact ⟨rfl, rfl⟩
    case round =>
      obtain ⟨rfl, rfl⟩ := hrel
      have sF := HF.out.bts.strB
      have sG := HG.out.bts.strB
      have eqF : ((⟨ob.toArray⟩ : ByteArray).toList == (⟨ob.toArray⟩ : ByteArray).toList) = true := by simp
      have c6 := awake_true wr HT.out
      clear hl0
      go_wp2_with (go_at_call 17; refine c6.mono ?_; rintro e w' ⟨rfl, hB6⟩)
      go_ret
      exact ⟨rfl, HB.out.trans (hB6.mono HB.out.size)⟩
  · have hg1 : g < w1.heap.size := (Array.getElem?_eq_some_iff.1 hgg).1
    have hLm := HO.out.bts.len
    clear hgg HR
    generalize hn : L.length = n at *
    have HN := Lib.hid hn
    clear hn
    go_loopw [12] (fun i wr => ∃ (k : Nat) (l' : List UInt8), k ≤ n ∧ i = .int .i64 k ∧ Hid (l'.length = n) ∧ Hid (Own wr w.heap.size (.slice (some ⟨g, 0, none⟩) n cap) l') ∧ Hid (Own wr w1.heap.size v2 ob) ∧ Hid (Own wr w1.heap.size v4 ob) ∧ Hid (Below w.heap.size w wr) ∧ Hid (TabOK wr)) (fun i _ => n - (intOf i).toNat)
    case atStart => exact ⟨0, L, Nat.zero_le _, rfl, HN, HO, HF, HG, HB, HT⟩
    case round =>
      obtain ⟨k, l', hk, rfl, HL', HO', HF', HG', HB', HT'⟩ := hrel
      clear HO HF HG HB HT
      by_cases hlt : k < n
      · have hc : wr.cell? ⟨g, k, none⟩ = some (.int .u8 ((l'.getD k 0).toNat : Int)) := by
          have h := HO'.out
          unfold Own at h
          rw [HL'.out] at h
          rw [World.ownsRow.cellAt h k (by omega)]
          have := HL'.out
          simp [List.getD, byteV, show k < l'.length by omega]
        have hf : wr.frozen? ⟨g, k, none⟩ = false := by
          have h := HO'.out
          unfold Own at h
          rw [HL'.out] at h
          exact World.ownsRow.frozenAt h k
        have hst : Below w.heap.size wr (wr.setCell ⟨g, k, none⟩ (.int .u8 ((7 : UInt8).toNat : Int))) := (Below.refl _ _).setCell (p := ⟨g, k, none⟩) hbg _
        go_wp2
        go_roundw
        case rel =>
          exact ⟨k + 1, l'.set k 7, by omega, by go_num, by show _ = _; rw [List.length_set]; exact HL'.out, HO'.out.stored k 7, ownsRow_setCell_below HF'.out (by exact hg1) _, ownsRow_setCell_below HG'.out (by exact hg1) _, HB'.out.trans hst, HT'.out.below hst ht0⟩
        case measure => simp [intOf]; omega
      · have sF := HF'.out.bts.strB
        have sG := HG'.out.bts.strB
        have eqF : ((⟨ob.toArray⟩ : ByteArray).toList == (⟨ob.toArray⟩ : ByteArray).toList) = true := by simp
        have c6 := awake_true wr HT'.out
        go_wp2_with (go_at_call 17; refine c6.mono ?_; rintro e w' ⟨rfl, hB6⟩)
        go_ret
        exact ⟨rfl, HB'.out.trans (hB6.mono HB'.out.size)⟩

end Go.Proofs.YtmekpmboghmfpaaDoor
