/- The law SealAll, walked: it returns true, and what was there stays as it was. -/
import Derived.Test.YtmekpmboghmfpaaDoorSealAll2
namespace Go.Proofs.YtmekpmboghmfpaaDoor
open Go.RowKit

theorem OwnP.form {w : World} {B : Nat} {v : Value} {xs : List Value} (h : OwnP w B v xs) : ∃ ao cap, v = .slice ao xs.length cap ∧ (0 < xs.length → ∃ g, ao = some ⟨g, 0, none⟩ ∧ ∀ i, i < xs.length → w.cell? ⟨g, i, none⟩ = xs[i]?) := by
  rcases id h.2 with ⟨rfl, h0⟩ | ⟨g, cap, cur, rfl, _⟩
  · exact ⟨none, 0, by rw [h0], fun hp => by omega⟩
  · exact ⟨_, _, rfl, fun _ => ⟨g, rfl, fun i hi => World.ownsRow.cellAt h i (by omega)⟩⟩

set_option maxRecDepth 100000 in
set_option maxHeartbeats 4000000 in
theorem law_SealAll (v vb : Value) (ls : List (List UInt8)) (lb : List UInt8) (w : World) (hb : BtsL w w.heap.size v ls) (hbb : Bts w w.heap.size vb lb) (ht : TabOK w) (hs : (flat ls).length ≤ 1000000000) (hlb : lb.length ≤ 1000000000) :
    Calls Tryd.prog 8 #[v, vb] w fun e w' => e = .returned (.bool true) ∧ Below w.heap.size w w' := by
  have c1 := sealed_any v vb ls lb w hb hbb hs hlb
  have hLl : (flat ls ++ lb).length ≤ 1099511627776 := by rw [List.length_append]; omega
  generalize flat ls ++ lb = L at *
  have hap := all_places L
  go_enter Tryd.func8, Tryd.ntmps8
  go_wp2_with fail
  refine c1.mono ?_
  rintro e w1 ⟨v1, rfl, hown1, hB1⟩
  clear c1
  have ht1 := ht.below hB1 ht.lt
  have c2 := seal_All v1 L w1 hown1.bts ht1 hLl
  generalize hA : allG L (L.length + 1) 0 = A at *
  obtain ⟨ps, an, ac⟩ := A
  obtain ⟨rest, hpl, hrest⟩ := hap
  simp only at hpl hrest c2
  go_wp2_with fail
  refine c2.mono ?_
  rintro e w2 ⟨lv, rfl, hB2, hlv⟩
  clear c2
  have h2 : Own w2 w.heap.size v1 L := hown1.below hB2
  have Bw2 : Below w.heap.size w w2 := hB1.trans (hB2.mono hB1.size)
  have c3 := ref_All v1 L w2 h2.bts hLl
  rw [hA] at c3
  clear hA
  simp only at c3
  go_wp2_with fail
  refine c3.mono ?_
  rintro e w3 ⟨mv, rfl, hB3, hmv⟩
  clear c3
  have B13 : Below w1.heap.size w1 w3 := hB2.trans (hB3.mono hB2.size)
  have Bw3 : Below w.heap.size w w3 := Bw2.trans (hB3.mono Bw2.size)
  have c4 := salv_rows v1 L w3 (hown1.below B13 : Own w3 w.heap.size v1 L).bts (ht.below Bw3 ht.lt) hLl
  go_wp2_with fail
  refine c4.mono ?_
  rintro e w4 ⟨sv, pv, rfl, hB4, hsv, hpv⟩
  clear c4
  have B14 : Below w1.heap.size w1 w4 := B13.trans (hB4.mono B13.size)
  have Bw4 : Below w.heap.size w w4 := Bw3.trans (hB4.mono Bw3.size)
  have c5 := ref_Salvage v1 L w4 (hown1.below B14 : Own w4 w.heap.size v1 L).bts hLl
  go_wp2_with fail
  refine c5.mono ?_
  rintro e w5 ⟨tv, qv, rfl, hB5, htv, hqv⟩
  clear c5
  have Bw5 : Below w.heap.size w w5 := Bw4.trans (hB5.mono Bw4.size)
  have B45 := hB5
  have B35 : Below w3.heap.size w3 w5 := hB4.trans (hB5.mono hB4.size)
  have B25 : Below w2.heap.size w2 w5 := hB3.trans (B35.mono hB3.size)
  have hlv5 := hlv.below B25 B25.size
  have hmv5 := hmv.below B35 B35.size
  have hsv5 := hsv.below B45 B45.size
  have hpv5 : OwnP w5 w3.heap.size pv _ := owns_below hpv B45
  clear hlv hmv hsv hpv hB1 hB2 hB3 hB4 hB5 B13 B14 B25 B35 B45 Bw2 Bw3 Bw4 h2 ht1 hown1 hb hbb hs hlb
  have HT := Lib.hid ht
  have HBW := Lib.hid Bw5
  clear ht Bw5
  have hle : (ps.map (bodyAt L)).length ≤ ((places L).map (bodyAt L)).length := by rw [hpl]; simp
  have htk : ((places L).map (bodyAt L)).take (ps.map (bodyAt L)).length = ps.map (bodyAt L) := by rw [hpl]; simp
  have heq : ac = 0 → (ps.map (bodyAt L)).length = ((places L).map (bodyAt L)).length := fun h0 => by rw [hpl, hrest h0]; simp
  have hlp : ((places L).map fun k : Nat => Value.int .i64 (k : Int)).length = ((places L).map (bodyAt L)).length := by simp
  have hqs : ∀ i, i < ((places L).map (bodyAt L)).length → ((places L).map fun k : Nat => Value.int .i64 (k : Int))[i]? = some (.int .i64 (((places L).getD i 0 : Nat) : Int)) := fun i hi => by
    rw [List.length_map] at hi
    simp [List.getD, hi]
  clear hpl hrest
  generalize (places L).map (bodyAt L) = R2 at *
  generalize ps.map (bodyAt L) = R1 at *
  generalize ((places L).map fun k : Nat => Value.int .i64 (k : Int)) = PV at *
  generalize places L = PL at *
  obtain ⟨lo, lcap, rfl, hlc, hlmax, _⟩ := id hlv5
  obtain ⟨so, scap, rfl, hsc, hsmax, _⟩ := id hsv5
  obtain ⟨po, pcap, rfl, hpc⟩ := hpv5.form
  obtain ⟨qo, qcap, rfl, hqc⟩ := hqv.form
  rw [hlp] at hpc hqc
  rw [hlp]
  have HLV := Lib.hid hlv5
  have HMV := Lib.hid hmv5
  have HSV := Lib.hid hsv5
  have HTV := Lib.hid htv
  have HTK := Lib.hid htk
  have HPC := Lib.hid hpc
  have HQC := Lib.hid hqc
  have HQS := Lib.hid hqs
  have HEQ := Lib.hid heq
  have hm2 : R2.length ≤ 9223372036854775807 := by unfold maxLen at hsmax; omega
  clear hlv5 hmv5 hsv5 htv htk hpc hqc hqs heq hpv5 hqv hlp hlmax hsmax
  generalize hM1 : R1.length = m1 at *
  generalize hM2 : R2.length = m2 at *
  have HM1 := Lib.hid hM1
  have HM2 := Lib.hid hM2
  clear hM1 hM2
  have c6 := same_true _ _ R1 w5 HLV.out HMV.out
  go_wp2_with fail
  refine c6.mono ?_
  rintro e w6 ⟨rfl, hB6⟩
  clear c6
  have c7 := same_true _ _ R2 w6 (HSV.out.below hB6 hB6.size) (HTV.out.below hB6 hB6.size)
  have hgt : decide ((m2 : Int) < (m1 : Int)) = false := by simp; omega
  have HB6 := Lib.hid hB6
  clear hB6
  go_wp2_with fail
  refine c7.mono ?_
  rintro e w7 ⟨rfl, hB7⟩
  clear c7
  have HB57 := Lib.hid (HB6.out.trans (hB7.mono HB6.out.size))
  clear hB7
  go_wp2_with fail
  clear hgt
  go_loopw [16] (fun i wr => ∃ k : Nat, k ≤ m2 ∧ i = .int .i64 k ∧ Hid (Below w5.heap.size w5 wr)) (fun i _ => m2 - (intOf i).toNat)
  case atStart => exact ⟨0, Nat.zero_le _, rfl, HB57.out⟩
  case round =>
    obtain ⟨k, hk, rfl, HW⟩ := hrel
    by_cases hlt : k < m2
    · obtain ⟨pg, rfl, hpc⟩ := HPC.out (by omega)
      obtain ⟨qg, rfl, hqc⟩ := HQC.out (by omega)
      have hpg : pg < w5.heap.size := World.block_lt_of_cell? w5 ⟨pg, k, none⟩ ((hpc k hlt).trans (HQS.out k hlt))
      have hqg : qg < w5.heap.size := World.block_lt_of_cell? w5 ⟨qg, k, none⟩ ((hqc k hlt).trans (HQS.out k hlt))
      have hc1 : wr.cell? ⟨pg, k, none⟩ = some (.int .i64 ((PL.getD k 0 : Nat) : Int)) := (HW.out.cell (p := ⟨pg, k, none⟩) hpg).trans ((hpc k hlt).trans (HQS.out k hlt))
      have hc2 : wr.cell? ⟨qg, k, none⟩ = some (.int .i64 ((PL.getD k 0 : Nat) : Int)) := (HW.out.cell (p := ⟨qg, k, none⟩) hqg).trans ((hqc k hlt).trans (HQS.out k hlt))
      clear hpc hqc hpg hqg
      generalize PL.getD k 0 = z at *
      go_wp2_with fail
      go_quiet (fail)
      go_wp2
      go_roundw
      case rel => exact ⟨k + 1, by omega, by go_num, HW.out.trans (bdN _ _ _)⟩
      case measure => simp [intOf]; omega
    · have hsp := (HSV.out.below HW.out HW.out.size).pre m1 (by rw [HM2.out]; omega)
      rw [HTK.out] at hsp
      have c8 := same_true _ _ R1 wr (HLV.out.below HW.out HW.out.size) hsp
      have hm1s : m1 ≤ scap := by omega
      by_cases hc0 : ac = 0
      · have hmm : m1 = m2 := HEQ.out hc0
        have hb0 : ((ac : Int) != 0) = false := by rw [hc0]; rfl
        have hb1 : ((m1 : Int) == (m2 : Int)) = true := by rw [hmm]; simp
        clear hmm hc0
        go_wp2_with fail
        refine c8.mono ?_
        rintro e w8 ⟨rfl, hB8⟩
        clear c8 hsp
        have hBB := HBW.out.trans ((HW.out.trans (hB8.mono HW.out.size)).mono HBW.out.size)
        have c9 := awake_true w8 (HT.out.below hBB HT.out.lt)
        have HBB := Lib.hid hBB
        clear hBB hB8
        go_wp2_with (go_at_call 17; refine c9.mono ?_; rintro e w' ⟨rfl, hB9⟩)
        go_ret
        exact ⟨rfl, HBB.out.trans (hB9.mono HBB.out.size)⟩
      · have hb0 : ((ac : Int) != 0) = true := by rw [bne_iff_ne]; omega
        clear hc0
        go_wp2_with fail
        refine c8.mono ?_
        rintro e w8 ⟨rfl, hB8⟩
        clear c8 hsp
        have hBB := HBW.out.trans ((HW.out.trans (hB8.mono HW.out.size)).mono HBW.out.size)
        have c9 := awake_true w8 (HT.out.below hBB HT.out.lt)
        have HBB := Lib.hid hBB
        clear hBB hB8
        go_wp2_with (go_at_call 17; refine c9.mono ?_; rintro e w' ⟨rfl, hB9⟩)
        go_ret
        exact ⟨rfl, HBB.out.trans (hB9.mono HBB.out.size)⟩

end Go.Proofs.YtmekpmboghmfpaaDoor
