/- What the statements' own function 'sealed' makes: the frames of bodies one behind the other, and bytes behind them. -/
import Derived.Test.YtmekpmboghmfpaaDoorSealBack
import Derived.Test.YtmekpmboghmfpaaDoorReads2
namespace Go.Proofs.YtmekpmboghmfpaaDoor
open Go.RowKit

def flat (ls : List (List UInt8)) : List UInt8 := ls.flatMap sealB

theorem sealB_len (l : List UInt8) : (sealB l).length ≤ l.length + 8 := by
  unfold sealB
  by_cases h : l.length ≤ 65535
  · rw [if_pos h, frameOf_len]; omega
  · rw [if_neg h]; simp

theorem flat_len (ls : List (List UInt8)) : (flat ls).length ≤ (ls.map List.length).sum + 8 * ls.length := by
  induction ls with
  | nil => simp [flat]
  | cons x r ih =>
    have h := sealB_len x
    unfold flat at *
    rw [List.flatMap_cons, List.length_append, List.map_cons, List.sum_cons, List.length_cons]
    omega

theorem flat_snoc (ls : List (List UInt8)) (k : Nat) (h : k < ls.length) : flat (ls.take (k + 1)) = flat (ls.take k) ++ sealB (ls.getD k []) := by
  unfold flat
  rw [List.take_add_one, List.flatMap_append]
  simp [List.getD, h]

theorem flat_le (ls : List (List UInt8)) (k : Nat) : (flat (ls.take k)).length ≤ (flat ls).length := by
  have h : flat ls = flat (ls.take k) ++ flat (ls.drop k) := by unfold flat; rw [← List.flatMap_append, List.take_append_drop]
  rw [h, List.length_append]; omega

set_option maxRecDepth 100000 in
set_option maxHeartbeats 2000000 in
theorem sealed_any (v vb : Value) (ls : List (List UInt8)) (lb : List UInt8) (w : World) (hb : BtsL w w.heap.size v ls) (hbb : Bts w w.heap.size vb lb) (hs : (flat ls).length ≤ 1000000000) (hlb : lb.length ≤ 1000000000) :
    Calls Tryd.prog 18 #[v, vb] w fun e w' => ∃ v', e = .returned v' ∧ Own w' w.heap.size v' (flat ls ++ lb) ∧ Below w.heap.size w w' := by
  obtain ⟨ao, cap, rfl, hcap, hmax, _⟩ := id hb
  have hmax' : ls.length ≤ 9223372036854775807 := by unfold maxLen at hmax; omega
  clear hmax
  have HL := Lib.hid hb
  have HS := Lib.hid hs
  have HBB := Lib.hid hbb
  clear hb hs hbb
  generalize hN : ls.length = n at *
  have HN := Lib.hid hN
  clear hN
  go_enter Tryd.func18, Tryd.ntmps18
  go_wp2_with fail
  go_loopw [5, 6, 7, 8] (fun o i f e wr => ∃ k : Nat, k ≤ n ∧ i = .int .i64 k ∧ Hid (Own wr w.heap.size o (flat (ls.take k))) ∧ Hid (Below w.heap.size w wr)) (fun _ i _ _ _ => n - (intOf i).toNat)
  case atStart => exact ⟨0, Nat.zero_le _, rfl, Own.nil _ _, Below.refl _ _⟩
  case round =>
    obtain ⟨k, hk, rfl, HO, HB⟩ := hrel
    by_cases hlt : k < n
    · have hbL := HL.out.below HB.out HB.out.size
      obtain ⟨ao', cap', he, _, _, h4⟩ := hbL
      injection he with e1 e2 e3
      subst e1 e3
      obtain ⟨b, off, rfl, hbw, hcell⟩ := h4 (fun h => by have := HN.out; rw [h] at this; simp at this; omega)
      obtain ⟨u, hcu, hbu⟩ := hcell k (by have := HN.out; omega)
      clear hcell h4 e2
      have c1 := rseal_any u _ wr hbu
      have hsn := Lib.hid (flat_snoc ls k (by have := HN.out; omega))
      have hle := flat_le ls (k + 1)
      rw [hsn.out, List.length_append] at hle
      have hS := HS.out
      generalize ls.getD k [] = l at *
      clear hbu
      go_wp2_with fail
      refine c1.mono ?_
      rintro e w1 ⟨v1, rfl, hown1, hB1⟩
      clear c1
      have HO1 : Own w1 w.heap.size _ _ := HO.out.below hB1
      have hwr : w.heap.size ≤ w1.heap.size := Nat.le_trans HB.out.size hB1.size
      go_wp2_with (at_builtin; (refine wpList_append_bts rfl _ _ rfl w.heap.size _ (flat (ls.take k)) rfl HO1 v1 (sealB l) w1.heap.size rfl hown1.bts (by omega) hwr ?_))
      intro v2 w2 hown2 hg2 _
      have hB2 : Below w.heap.size w w2 := (HB.out.trans (hB1.mono HB.out.size)).grown hg2 hwr (fun j hj => (HO1.lt j hj).1)
      rw [← hsn.out] at hown2
      have HO2 := Lib.hid hown2
      have HB2 := Lib.hid hB2
      clear hown2 hB2 HO1 hown1 hB1 hg2
      go_wp2_with fail
      go_roundw
      case rel => exact ⟨k + 1, by omega, by go_num, HO2, HB2⟩
      case measure => simp [intOf]; omega
    · have hkn : k = n := by omega
      have hfull : ls.take k = ls := by rw [hkn, ← HN.out]; exact List.take_length
      rw [hfull] at HO
      have hbb := HBB.out.below HB.out HB.out.size
      have hS := HS.out
      have hO := HO.out
      go_wp2_with (at_builtin; (refine wpList_append_bts rfl _ _ rfl w.heap.size _ (flat ls) rfl hO vb lb wr.heap.size rfl hbb (by omega) HB.out.size ?_))
      intro v2 w2 hown2 hg2 _
      have hB2 : Below w.heap.size w w2 := HB.out.grown hg2 HB.out.size (fun j hj => (hO.lt j hj).1)
      clear hO hbb hg2
      go_wp2
      go_ret
      exact ⟨v2, rfl, hown2, hB2⟩

end Go.Proofs.YtmekpmboghmfpaaDoor
