/- The law SealFinds, walked: it returns true, and what was there stays as it was. -/
import Derived.Test.YtmekpmboghmfpaaDoorSealRows2
namespace Go.Proofs.YtmekpmboghmfpaaDoor
open Go.RowKit

set_option maxRecDepth 100000 in
set_option maxHeartbeats 2000000 in
theorem law_SealFinds (v vb : Value) (ls : List (List UInt8)) (la : List UInt8) (w : World) (hb : BtsL w w.heap.size v ls) (hbb : Bts w w.heap.size vb la) (ht : TabOK w) (hs : (flat ls).length ≤ 1000000000) (hla : la.length ≤ 1000000000) :
    Calls Tryd.prog 7 #[v, vb] w fun e w' => e = .returned (.bool true) ∧ Below w.heap.size w w' := by
  obtain ⟨ao, cap, rfl, hcap, hmax, _⟩ := id hb
  have hmax' : ls.length ≤ 9223372036854775807 := by unfold maxLen at hmax; omega
  clear hmax
  obtain ⟨bo, bcap, rfl, hbcap, _, _, hbc⟩ := id hbb
  have HL := Lib.hid hb
  have HS := Lib.hid hs
  have HBB := Lib.hid hbb
  have HBC := Lib.hid hbc
  have HT := Lib.hid ht
  clear hb hs hbb ht hbc
  generalize hN : ls.length = N at *
  generalize hM : la.length = M at *
  have HN := Lib.hid hN
  have HM := Lib.hid hM
  clear hN hM
  go_enter Tryd.func7, Tryd.ntmps7
  go_wp2_with fail
  go_loopw [5, 6] (fun o i wr => ∃ k : Nat, k ≤ M ∧ i = .int .i64 k ∧ Hid (Own wr w.heap.size o (no237 (la.take k))) ∧ Hid (Below w.heap.size w wr)) (fun _ i _ => M - (intOf i).toNat)
  case atStart => exact ⟨0, Nat.zero_le _, rfl, Own.nil _ _, Below.refl _ _⟩
  case round =>
    obtain ⟨k, hk, rfl, HO, HB⟩ := hrel
    by_cases hlt : k < M
    · obtain ⟨b, off, rfl, hbw, hcell⟩ := HBC.out (fun h => by have := HM.out; rw [h] at this; simp at this; omega)
      have hc : wr.cell? ⟨b, off + k, none⟩ = some (.int .u8 ((la.getD k 0).toNat : Int)) := (HB.out.cell (p := ⟨b, off + k, none⟩) hbw).trans (hcell k hlt)
      have htk := no237_take la k (by have := HM.out; omega)
      have hle := no237_len (la.take k)
      rw [List.length_take] at hle
      clear hcell
      by_cases h237 : la.getD k 0 = 237
      · rw [if_pos h237] at htk
        have HTK := Lib.hid htk
        have hc' : wr.cell? ⟨b, off + k, none⟩ = some (.int .u8 237) := cell_is hc 237 h237
        clear htk hc
        go_wp2_with fail
        go_roundw
        case rel => exact ⟨k + 1, by omega, by go_num, by show Own _ _ _ _; rw [HTK.out]; exact HO.out, HB⟩
        case measure => simp [intOf]; omega
      · rw [if_neg h237] at htk
        have HTK := Lib.hid htk
        have hne : (((la.getD k 0).toNat : Int) != 237) = true := ne_test' _ 237 h237
        clear htk
        generalize la.getD k 0 = c at *
        have hO1 : Own (wr.alloc (.cells #[.int .u8 (c.toNat : Int)] 5)) w.heap.size u5 (no237 (la.take k)) := HO.out.alloc _
        have hsz := HB.out.size
        go_wp2_with (at_builtin; (refine wpList_append_bts rfl _ _ rfl w.heap.size _ (no237 (la.take k)) rfl hO1 _ [c] (wr.heap.size + 1) rfl ((Bts.lit _ wr.heap.size _ 5 (0, 0) [c] 1 1 (heap_alloc_new wr _) rfl (by omega) (by decide) (lit1 c)).mono (by simp)) (by simp; omega) (by simp; omega) ?_))
        intro v2 w2 hown2 hg2 _
        have hB2 : Below w.heap.size w w2 := (HB.out.alloc hsz _).grown hg2 (by simp; omega) (fun j hj => (hO1.lt j hj).1)
        rw [← HTK.out] at hown2
        have HO2 := Lib.hid hown2
        have HB2 := Lib.hid hB2
        clear hown2 hB2 hO1 hg2
        go_wp2_with fail
        go_roundw
        case rel => exact ⟨k + 1, by omega, by go_num, HO2, HB2⟩
        case measure => simp [intOf]; omega
    · have hkn : k = M := by omega
      have hfull : la.take k = la := by rw [hkn, ← HM.out]; exact List.take_length
      rw [hfull] at HO
      have hle := no237_len la
      rw [HM.out] at hle
      have hA := no237_ne la
      subst hkn
      obtain ⟨ao1, cap1, hv1⟩ := HO.out.form
      subst hv1
      have hfin := finds (no237 la) ls hA
      generalize no237 la = A at *
      have HF := Lib.hid hfin
      clear hfull hA hfin
      obtain ⟨wo, rfl⟩ : ∃ wo : World, wo = wr := ⟨_, rfl⟩
      go_wp2_with fail
      go_loopw [5, 8, 9, 10, 11] (fun o n i f e wr => ∃ k : Nat, k ≤ N ∧ i = .int .i64 k ∧ n = .int .i64 ((okL (ls.take k)).length : Nat) ∧ Hid (Own wr w.heap.size o (A ++ flat (ls.take k))) ∧ Hid (Below w.heap.size w wr)) (fun _ _ i _ _ _ => N - (intOf i).toNat)
      case atStart => exact ⟨0, Nat.zero_le _, rfl, rfl, by show Own _ _ _ _; unfold flat; simpa using HO.out, HB⟩
      case round =>
        obtain ⟨k2, hk2, rfl, rfl, HO2, HB2⟩ := hrel
        by_cases hlt2 : k2 < N
        · have hbL := HL.out.below HB2.out HB2.out.size
          obtain ⟨ao', cap', he, _, _, h4⟩ := hbL
          injection he with e1 e2 e3
          subst e1 e3
          obtain ⟨b, off, rfl, hbw, hcell⟩ := h4 (fun h => by have := HN.out; rw [h] at this; simp at this; omega)
          obtain ⟨u, hcu, hbu⟩ := hcell k2 (by have := HN.out; omega)
          clear hcell h4 e2
          have c1 := seal_any u _ wr hbu (HT.out.below HB2.out HT.out.lt)
          have hsn := flat_snoc ls k2 (by have := HN.out; omega)
          have hle2 := flat_le ls (k2 + 1)
          rw [hsn, List.length_append] at hle2
          have hS := HS.out
          have hkN : k2 < ls.length := by have := HN.out; omega
          have hwr := HB2.out.size
          by_cases hx : (ls.getD k2 []).length ≤ 65535
          · have hok := (okL_take ls k2 hkN hx).1
            have e1 : sealC (ls.getD k2 []) = 0 := by unfold sealC; rw [if_pos hx]
            rw [e1] at c1
            have HSN := Lib.hid hsn
            have hokl : ((okL (ls.take k2)).length : Int) + 1 = (((okL (ls.take (k2 + 1))).length : Nat) : Int) := by rw [hok]; simp
            have hc63 : (okL (ls.take k2)).length ≤ k2 := Nat.le_trans (List.length_filter_le _ _) (by rw [List.length_take]; omega)
            have HOK := Lib.hid hokl
            clear hsn hbu hok e1 hx hkN hokl
            generalize ls.getD k2 [] = l at *
            generalize hm1 : (okL (ls.take k2)).length = m1 at *
            go_wp2_with fail
            refine c1.mono ?_
            rintro e w1 ⟨v1, rfl, hown1, hB1⟩
            clear c1
            have HO1 : Own w1 w.heap.size _ _ := HO2.out.below hB1
            have hwr1 : w.heap.size ≤ w1.heap.size := Nat.le_trans HB2.out.size hB1.size
            go_wp2_with (at_builtin; (refine wpList_append_bts rfl _ _ rfl w.heap.size _ (A ++ flat (ls.take k2)) rfl HO1 v1 (sealB l) w1.heap.size rfl hown1.bts (by rw [List.length_append]; omega) hwr1 ?_))
            intro v2 w2 hown2 hg2 _
            have hB22 : Below w.heap.size w w2 := (HB2.out.trans (hB1.mono HB2.out.size)).grown hg2 hwr1 (fun j hj => (HO1.lt j hj).1)
            rw [← HSN.out] at hown2
            have HO22 := Lib.hid hown2
            have HB22 := Lib.hid hB22
            clear hown2 hB22 HO1 hown1 hB1 hg2
            go_wp2_with fail
            go_roundw
            case rel => exact ⟨k2 + 1, by omega, by go_num, by rw [HOK.out], HO22, HB22⟩
            case measure => simp [intOf]; omega
          · have hok := okL_skip ls k2 hkN hx
            have e1 : sealC (ls.getD k2 []) = 23 := by unfold sealC; rw [if_neg hx]
            have e2 : sealB (ls.getD k2 []) = [] := by unfold sealB; rw [if_neg hx]
            rw [e1] at c1
            rw [e2, List.append_nil] at hsn
            have HSN := Lib.hid hsn
            have HOK := Lib.hid hok
            clear hsn hbu hok e1 hx hkN e2
            generalize ls.getD k2 [] = l at *
            go_wp2_with fail
            refine c1.mono ?_
            rintro e w1 ⟨v1, rfl, hown1, hB1⟩
            clear c1
            have HO1 := Lib.hid (HO2.out.below hB1)
            have HB22 := Lib.hid (HB2.out.trans (hB1.mono HB2.out.size))
            clear hown1 hB1
            go_wp2_with fail
            go_roundw
            case rel => exact ⟨k2 + 1, by omega, by go_num, by rw [HOK.out], by rw [HSN.out]; exact HO1, HB22⟩
            case measure => simp [intOf]; omega
        · have hkn2 : k2 = N := by omega
          have hfull2 : ls.take k2 = ls := by rw [hkn2, ← HN.out]; exact List.take_length
          rw [hfull2] at HO2
          rw [hfull2]
          subst hkn2
          have hS := HS.out
          have c5 := salv_rows _ _ wr HO2.out.bts (HT.out.below HB2.out HT.out.lt) (by rw [List.length_append]; omega)
          rw [HF.out.2, HF.out.1] at c5
          clear hfull2
          go_wp2_with fail
          refine c5.mono ?_
          rintro e w5 ⟨lv, pv, rfl, hB5, hlv, hpv⟩
          clear c5
          have HBw5 := Lib.hid (HB2.out.trans (hB5.mono HB2.out.size))
          have HLV := Lib.hid hlv
          obtain ⟨lo, lcap, rfl, hlc, hlmax, _⟩ := id hlv
          have hmlen : (okL ls).length ≤ k2 := Nat.le_trans (List.length_filter_le _ _) (by have := HN.out; omega)
          have hpv' := hpv
          unfold OwnP at hpv'
          rw [List.length_map, starts_len] at hpv'
          generalize hm : (okL ls).length = m at *
          have hMM := Lib.hid hm
          by_cases hm0 : m < 1
          · obtain ⟨po, pcap, rfl⟩ : ∃ po pcap, pv = .slice po m pcap := by
              rcases hpv'.2 with ⟨rfl, h0⟩ | ⟨g, cap, cur, rfl, _⟩
              · exact ⟨none, 0, by rw [h0]⟩
              · exact ⟨_, _, rfl⟩
            clear hlv hpv hpv' hB5 hm
            go_wp2_with fail
            go_loopw [14, 15] (fun kk i wq => ∃ j : Nat, j ≤ k2 ∧ i = .int .i64 j ∧ kk = .int .i64 ((okL (ls.take j)).length : Nat) ∧ Hid (Below w5.heap.size w5 wq)) (fun _ i _ => k2 - (intOf i).toNat)
            case atStart => exact ⟨0, Nat.zero_le _, rfl, rfl, Below.refl _ _⟩
            case round =>
              obtain ⟨j, hj, rfl, rfl, HBq⟩ := hrel
              by_cases hjl : j < k2
              · have hbL := HL.out.below (HBw5.out.trans (HBq.out.mono HBw5.out.size)) (HBw5.out.trans (HBq.out.mono HBw5.out.size)).size
                obtain ⟨ao', cap', he, _, _, h4⟩ := hbL
                injection he with e1 e2 e3
                subst e1 e3
                obtain ⟨b, off, rfl, hbw, hcell⟩ := h4 (fun h => by have := HN.out; rw [h] at this; simp at this; omega)
                obtain ⟨u, hcu, hbu⟩ := hcell j (by have := HN.out; omega)
                clear hcell h4 e2
                have hjN : j < ls.length := by have := HN.out; omega
                obtain ⟨uo, ucap, rfl, _⟩ := id hbu
                have hulen := hbu.len
                by_cases hx : (ls.getD j []).length ≤ 65535
                · obtain ⟨hok1, hok2, hok3⟩ := okL_take ls j hjN hx
                  rw [hMM.out] at hok2
                  exfalso
                  omega
                · have hok := okL_skip ls j hjN hx
                  have HOK := Lib.hid hok
                  clear hok hbu hjN
                  generalize hul : (ls.getD j []).length = ul at *
                  clear hul
                  go_wp2_with fail
                  go_roundw
                  case rel => exact ⟨j + 1, by omega, by go_num, by rw [HOK.out], HBq⟩
                  case measure => simp [intOf]; omega
              · have c6 := awake_true wr (HT.out.below (HBw5.out.trans (HBq.out.mono HBw5.out.size)) HT.out.lt)
                go_wp2_with (go_at_call 17; refine c6.mono ?_; rintro e w' ⟨rfl, hB6⟩)
                go_ret
                have hBB := HBw5.out.trans (HBq.out.mono HBw5.out.size)
                exact ⟨rfl, hBB.trans (hB6.mono hBB.size)⟩
          · obtain ⟨pg, pcap, rfl, hpc⟩ : ∃ pg pcap, pv = .slice (some ⟨pg, 0, none⟩) m pcap ∧ w5.cell? ⟨pg, 0, none⟩ = some (.int .i64 (A.length : Int)) := by
              rcases hpv'.2 with ⟨rfl, h0⟩ | ⟨g, cap, cur, rfl, _⟩
              · omega
              · refine ⟨_, _, rfl, ?_⟩
                rw [World.ownsRow.cellAt hpv' 0 (by omega)]
                cases hok : okL ls with
                | nil => rw [hok] at hm; simp at hm; omega
                | cons x r => simp [starts]
            clear hlv hpv hpv' hB5 hm
            go_wp2_with fail
            go_loopw [14, 15] (fun kk i wq => ∃ j : Nat, j ≤ k2 ∧ i = .int .i64 j ∧ kk = .int .i64 ((okL (ls.take j)).length : Nat) ∧ Hid (Below w5.heap.size w5 wq)) (fun _ i _ => k2 - (intOf i).toNat)
            case atStart => exact ⟨0, Nat.zero_le _, rfl, rfl, Below.refl _ _⟩
            case round =>
              obtain ⟨j, hj, rfl, rfl, HBq⟩ := hrel
              by_cases hjl : j < k2
              · have hbL := HL.out.below (HBw5.out.trans (HBq.out.mono HBw5.out.size)) (HBw5.out.trans (HBq.out.mono HBw5.out.size)).size
                obtain ⟨ao', cap', he, _, _, h4⟩ := hbL
                injection he with e1 e2 e3
                subst e1 e3
                obtain ⟨b, off, rfl, hbw, hcell⟩ := h4 (fun h => by have := HN.out; rw [h] at this; simp at this; omega)
                obtain ⟨u, hcu, hbu⟩ := hcell j (by have := HN.out; omega)
                clear hcell h4 e2
                have hjN : j < ls.length := by have := HN.out; omega
                obtain ⟨uo, ucap, rfl, _⟩ := id hbu
                have hulen := hbu.len
                by_cases hx : (ls.getD j []).length ≤ 65535
                · obtain ⟨hok1, hok2, hok3⟩ := okL_take ls j hjN hx
                  have hokl : ((okL (ls.take j)).length : Int) + 1 = (((okL (ls.take (j + 1))).length : Nat) : Int) := by rw [hok1]; simp
                  have HOK := Lib.hid hokl
                  have hlvq := HLV.out.below (HBq.out) HBq.out.size
                  obtain ⟨lo', lcap', he, hlm, _, h4⟩ := hlvq
                  injection he with e1 e2 e3
                  subst e1 e3
                  obtain ⟨gb, goff, rfl, hgw, hcell⟩ := h4 (fun h => by rw [h] at hok2; simp at hok2)
                  obtain ⟨u2, hcu2, hbu2⟩ := hcell _ hok2
                  rw [hok3] at hbu2
                  rw [hMM.out] at hok2 hlm
                  have hj63 : (okL (ls.take j)).length ≤ j := Nat.le_trans (List.length_filter_le _ _) (by rw [List.length_take]; omega)
                  clear hcell h4 e2 hok1 hok3 hokl hjN
                  have s1 := hbu.strB
                  have s2 := hbu2.strB
                  have s1q := fun n => (hbu.below (bdN _ wr n) (Nat.le_refl _)).strB
                  have s2q := fun n => (hbu2.below (bdN _ wr n) (Nat.le_refl _)).strB
                  clear hbu hbu2
                  generalize ls.getD j [] = l at *
                  generalize hK : (okL (ls.take j)).length = K at *
                  generalize hul : l.length = ul at *
                  clear hul hK
                  have eqF : ((⟨l.toArray⟩ : ByteArray).toList != (⟨l.toArray⟩ : ByteArray).toList) = false := by simp
                  go_wp2_with fail
                  go_quiet (fail)
                  go_wp2
                  go_roundw
                  case rel => exact ⟨j + 1, by omega, by go_num, by rw [HOK.out], HBq.out.trans (bdN _ _ _)⟩
                  case measure => simp [intOf]; omega
                · have hok := okL_skip ls j hjN hx
                  have HOK := Lib.hid hok
                  clear hok hbu hjN
                  generalize hul : (ls.getD j []).length = ul at *
                  clear hul
                  go_wp2_with fail
                  go_roundw
                  case rel => exact ⟨j + 1, by omega, by go_num, by rw [HOK.out], HBq⟩
                  case measure => simp [intOf]; omega
              · have c6 := awake_true wr (HT.out.below (HBw5.out.trans (HBq.out.mono HBw5.out.size)) HT.out.lt)
                go_wp2_with (go_at_call 17; refine c6.mono ?_; rintro e w' ⟨rfl, hB6⟩)
                go_ret
                have hBB := HBw5.out.trans (HBq.out.mono HBw5.out.size)
                exact ⟨rfl, hBB.trans (hB6.mono hBB.size)⟩

end Go.Proofs.YtmekpmboghmfpaaDoor
