/- Chapter 4's examples: awake() is true. -/
import Derived.Test.YtmekpmboghmfpaaDoorSealSalv3
import Derived.Lib.SlBytesConst
namespace Go.Proofs.YtmekpmboghmfpaaDoor
open Go.RowKit

/-- []byte of a constant text, just laid -/
abbrev litO (l : List UInt8) : Obj := .cells (l.map byteV).toArray 5 (l.length, l.length + 1)
theorem lit_bytes (w : World) (l : List UInt8) (hl : l.length ≤ 100) : Bts (w.alloc (litO l)) (w.heap.size + 1) (.slice (some ⟨w.heap.size, 0, none⟩) l.length l.length) l := by
  have h := Bts.lit (w.alloc (litO l)) w.heap.size (l.map byteV).toArray 5 _ l l.length l.length (heap_alloc_new w _) rfl (Nat.le_refl _) (by simp [maxLen]; omega) (fun i hi => by simp [List.getD, hi, byteV])
  simpa using h

theorem open_a : openF (frameOf [97]) = ([97], 9, 0) := by decide +kernel
theorem open_x : openF [120] = ([], 0, 20) := by decide +kernel
theorem places_xa : places (120 :: frameOf [97]) = [1] := by decide +kernel
theorem crc_check : crc [49, 50, 51, 52, 53, 54, 55, 56, 57] = 0xcbf43926#32 := by decide +kernel
theorem frame_len : (frameOf [97]).length = 9 := by decide +kernel

set_option maxRecDepth 100000 in
set_option maxHeartbeats 2000000 in
theorem awake_true (w : World) (ht : TabOK w) : Calls Tryd.prog 17 #[] w fun e w' => e = .returned (.bool true) ∧ Below w.heap.size w w' := by
  have b1 := lit_bytes w [97] (by decide)
  have B1 : Below w.heap.size w (w.alloc (litO [97])) := (Below.refl _ _).alloc (Nat.le_refl _) _
  have t1 := ht.below B1 ht.lt
  have c1 := seal_Seal _ _ _ _ b1 t1 (by simp) (by decide)
  have HW := Lib.hid B1
  have kc := fun (w : World) (C : Array Value) (n c : Nat) => Lib.run_convert_bytes_const (P := Tryd.prog) w 22 5 C n c Tryd.underlying22 Tryd.underlying5
  clear B1
  go_enter Tryd.func17, Tryd.ntmps17
  go_wp2_with fail
  refine c1.mono ?_
  rintro e w1 ⟨v1, rfl, hown1, hB1⟩
  clear c1 b1
  have Bw1 : Below w.heap.size w w1 := HW.out.trans (hB1.mono (by simp))
  have ht1 := ht.below Bw1 ht.lt
  have c2 := seal_Open v1 _ w1 hown1.bts ht1
  rw [open_a] at c2
  go_wp2_with fail
  refine c2.mono ?_
  rintro e w2 ⟨v2, rfl, hown2, hB2⟩
  clear c2
  have Bw2 : Below w.heap.size w w2 := Bw1.trans (hB2.mono Bw1.size)
  have ht2 := ht.below Bw2 ht.lt
  have b3 := lit_bytes w2 [120] (by decide)
  have B3 : Below w2.heap.size w2 (w2.alloc (litO [120])) := (Below.refl _ _).alloc (Nat.le_refl _) _
  have c3 := seal_Open _ _ _ (b3.mono (by simp)) (ht2.below B3 ht2.lt)
  rw [open_x] at c3
  go_wp2_with fail
  refine c3.mono ?_
  rintro e w3 ⟨v3, rfl, hown3, hB3⟩
  clear c3 b3
  have Bw23 : Below w2.heap.size w2 w3 := B3.trans (hB3.mono (by simp))
  have Bw3 : Below w.heap.size w w3 := Bw2.trans (Bw23.mono Bw2.size)
  have ht3 := ht.below Bw3 ht.lt
  have hf3 : Own w3 _ v1 _ := (hown1.below hB2).below Bw23
  have B23 := Lib.hid Bw23
  clear hown1 hB2 Bw23 B3 hB3 hown3 ht2
  have hb4 := lit_bytes w3 [120] (by decide)
  have B4 : Below w3.heap.size w3 (w3.alloc (litO [120])) := (Below.refl _ _).alloc (Nat.le_refl _) _
  have hf4 := (hf3.below B4).bts
  have hs4 : (w3.alloc (litO [120])).heap.size = w3.heap.size + 1 := by simp
  have HS4 := Lib.hid hs4
  clear hs4
  go_wp2_with (at_builtin; (refine wpList_append_bts_grows rfl _ _ rfl (some ⟨w3.heap.size, 0, none⟩) 1 1 [120] (w3.heap.size + 1) rfl hb4 v1 (frameOf [97]) _ rfl hf4 (by rw [frame_len]; decide) (by rw [frame_len]; decide) (by rw [frame_len]; decide) ?_))
  intro v4 w4 hown4 hg4
  have hB4 : Below w3.heap.size w3 w4 := B4.grown hg4 (by simp) (fun k hk => by cases hk)
  have Bw4 : Below w.heap.size w w4 := Bw3.trans (hB4.mono Bw3.size)
  have ht4 := ht.below Bw4 ht.lt
  have c5 := seal_Salvage v4 (120 :: frameOf [97]) w4 hown4.bts ht4 (by rw [List.length_cons, frame_len]; decide)
  rw [places_xa] at c5
  clear hb4 hf4 hg4 B4
  go_wp2_with fail
  refine c5.mono ?_
  rintro e w5 ⟨lv, pv, xs, rfl, hB5, hx1, _, hlv, hpv⟩
  clear c5
  have Bw25 : Below w2.heap.size w2 w5 := (B23.out.trans (hB4.mono B23.out.size)).trans (hB5.mono (Nat.le_trans B23.out.size hB4.size))
  have Bw5 : Below w.heap.size w w5 := Bw4.trans (hB5.mono Bw4.size)
  have ht5 := ht.below Bw5 ht.lt
  obtain ⟨xv, rfl⟩ : ∃ xv, xs = [(1, xv)] := by
    match xs, hx1 with
    | [(k, xv)], h => simp at h; subst h; exact ⟨xv, rfl⟩
  obtain ⟨lg, lcap, rfl⟩ : ∃ g cap, lv = .slice (some ⟨g, 0, none⟩) 1 cap := by
    rcases hlv.2 with ⟨_, h⟩ | ⟨g, cap, cur, h, _⟩
    · simp at h
    · exact ⟨g, cap, h⟩
  obtain ⟨pg, pcap, rfl, hpc⟩ : ∃ g cap, pv = .slice (some ⟨g, 0, none⟩) 1 cap ∧ w5.cell? ⟨g, 0, none⟩ = some (.int .i64 1) := by
    rcases hpv.2 with ⟨_, h⟩ | ⟨g, cap, cur, h, _⟩
    · simp at h
    · subst h
      exact ⟨g, cap, rfl, World.ownsRow.cellAt hpv 0 (by simp)⟩
  have hb6 := lit_bytes w5 [49, 50, 51, 52, 53, 54, 55, 56, 57] (by decide)
  have B6 : Below w5.heap.size w5 (w5.alloc (litO [49, 50, 51, 52, 53, 54, 55, 56, 57])) := (Below.refl _ _).alloc (Nat.le_refl _) _
  have c6 := seal_Sum _ _ _ _ hb6 (ht5.below B6 ht5.lt)
  rw [crc_check] at c6
  have hpc6 : (w5.alloc (litO [49, 50, 51, 52, 53, 54, 55, 56, 57])).cell? ⟨pg, 0, none⟩ = some (.int .i64 1) := Lib.cell?_alloc_marked _ hpc
  have hv2 : Bts (w5.alloc (litO [49, 50, 51, 52, 53, 54, 55, 56, 57])) _ v2 [97] := hown2.bts.below (((Below.refl w2.heap.size w2).trans (by exact Bw25)).trans (B6.mono (by exact Bw25.size))) (Nat.le_refl _)
  have hstr := hv2.strB
  obtain ⟨fo, fc, hv1⟩ : ∃ ao cap, v1 = .slice ao 9 cap := by
    obtain ⟨ao, cap, h, _⟩ := hf3.bts
    rw [frame_len] at h
    exact ⟨ao, cap, h⟩
  have hcrc : (b32 0xcbf43926#32 == 3421780262) = true := by decide
  have hst : ((⟨[97].toArray⟩ : ByteArray).toList == [97]) = true := by decide +kernel
  have Bw6 : Below w.heap.size w (w5.alloc (litO [49, 50, 51, 52, 53, 54, 55, 56, 57])) := Bw5.trans (B6.mono Bw5.size)
  clear hown4 ht4 ht3 ht1 hB1 hB4 hB5 hlv hpv hpc hb6 hown2 hf3 Bw1 Bw2 Bw3 Bw4 B6 ht5 hv2
  subst hv1
  have HB6 := Lib.hid Bw6
  go_wp2_with fail
  refine c6.mono ?_
  rintro e w6 ⟨rfl, rfl⟩
  go_wp2
  go_ret
  exact ⟨rfl, HB6.out⟩

end Go.Proofs.YtmekpmboghmfpaaDoor
