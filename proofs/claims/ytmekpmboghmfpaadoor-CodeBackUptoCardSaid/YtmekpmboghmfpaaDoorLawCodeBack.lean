/- The law CodeBack, walked. -/
import Derived.Test.YtmekpmboghmfpaaDoorCodeKinds
import Derived.Test.YtmekpmboghmfpaaDoorCodeMath
import Derived.Test.YtmekpmboghmfpaaDoorLawCodeFields
namespace Go.Proofs.YtmekpmboghmfpaaDoor
open Go.RowKit

theorem rem_at (c : Int) (m : Nat) (h0 : 0 < m) (h1 : m ≤ 1000000000) : ∃ k : Nat, wrap64 ((IntKind.u64.wrap c).tmod (m : Int)) = (k : Int) ∧ k < m := by
  have hw : 0 ≤ IntKind.u64.wrap c := by rw [IntKind.wrap_u64]; omega
  have h2 := Int.tmod_lt_of_pos (IntKind.u64.wrap c) (b := (m : Int)) (by omega)
  have h3 := Int.tmod_nonneg (m : Int) hw
  refine ⟨((IntKind.u64.wrap c).tmod (m : Int)).toNat, ?_, by omega⟩
  have : wrap64 ((IntKind.u64.wrap c).tmod (m : Int)) = (IntKind.u64.wrap c).tmod (m : Int) := by
    unfold wrap64
    omega
  rw [this]; omega

set_option maxRecDepth 100000 in
set_option maxHeartbeats 400000 in
theorem law_CodeBack (v vm : Value) (fs : List Fld) (more : List UInt8) (cut : Int) (w : World) (hv : Flds w w.heap.size v fs) (hm : Bts w w.heap.size vm more)
    (hok : ∀ f ∈ fs, FldOk f) (htot : (fs.flatMap fbytes).length ≤ 100000000) (hl : fs.length ≤ 1000000000) (hml : more.length ≤ 100000000) :
    Calls Tryd.prog 10 #[v, vm, .int .i64 cut] w fun e w' => e = .returned (.bool true) ∧ Below w.heap.size w w' := by
  have c1 := kinds_any v fs w hv hok (by omega) hl
  obtain ⟨ao, cap, rfl, _⟩ := id hv
  obtain ⟨mo, mcap, rfl⟩ := bts_form hm
  have HV := Lib.hid hv
  have HM := Lib.hid hm
  have HOK := Lib.hid hok
  have HT := Lib.hid htot
  have HL := Lib.hid hl
  clear hv hm hok
  generalize hn : fs.length = n at *
  generalize hmn : more.length = mn at *
  have HN := Lib.hid hn
  have HMN := Lib.hid hmn
  clear hn hmn
  go_enter Tryd.func10, Tryd.ntmps10
  go_wp2_with fail
  refine c1.mono ?_
  rintro e w1 ⟨⟨hr, kv, rfl, hk⟩ | ⟨⟨f, hf, hrf⟩, rfl⟩, hB1⟩
  · have hE : fieldsB fs = fs.flatMap fbytes := by unfold fieldsB; rw [if_pos (List.all_eq_true.2 hr)]
    have c2 := code_Fields (.slice ao n cap) fs w1 (HV.out.below hB1 hB1.size) HOK.out (by have := HT.out; omega) (by rw [HN.out]; exact HL.out)
    rw [hE] at c2
    have hki := hk.ints
    have hret := read_back ((fs.flatMap fbytes) ++ more) more fs [] 0 hr HOK.out rfl
    have hrc := fun k => read_cut ((fs.flatMap fbytes).take k) fs [] 0 k hr HOK.out rfl
    have HRB := Lib.hid hret
    have HRC := Lib.hid hrc
    have HTT := HT.out
    have HFE : Hid (∃ bs, fs.flatMap fbytes = bs) := ⟨_, rfl⟩
    generalize fs.flatMap fbytes = bs at *
    obtain ⟨ko, kcap, hkv⟩ : ∃ ko kcap, kv = .slice ko n kcap := by
      obtain ⟨ko, kcap, hkv, _⟩ := id hki
      exact ⟨ko, kcap, by rw [hkv, List.length_map, HN.out]⟩
    subst hkv
    have HK := Lib.hid hk
    have HB1 := Lib.hid hB1
    clear c1 hr hE hk hki hret hrc hB1
    go_wp2_with fail
    refine c2.mono ?_
    rintro e w2 ⟨bv, rfl, hO2, hB2⟩
    obtain ⟨bo, bcap, rfl⟩ := bts_form hO2.bts
    have HB2 := Lib.hid (HB1.out.trans (hB2.mono HB1.out.size))
    have HK2 := Lib.hid (HK.out.below hB2)
    have HO2 := Lib.hid hO2
    clear c2 hO2 hB2 HK
    have hmb := HM.out.below HB2.out HB2.out.size
    go_wp2_with (at_builtin; (refine wpList_append_bts rfl _ _ rfl w2.heap.size _ [] rfl (Own.nil _ _) _ bs w2.heap.size rfl HO2.out.bts (by simp; omega) (Nat.le_refl _) ?_))
    intro v3 w3 hO3 hg3 _
    have HB3 := Lib.hid (HB2.out.grown hg3 HB2.out.size (fun k hk => by simp [Value.ownBlock] at hk))
    have hb23 : Below w2.heap.size w2 w3 := (Below.refl _ _).grown hg3 (Nat.le_refl _) (fun k hk => by simp [Value.ownBlock] at hk)
    have hmb3 := HM.out.below HB3.out HB3.out.size
    have HO3 := Lib.hid (show Own w3 w2.heap.size v3 bs by simpa using hO3)
    have hs23 := hb23.size
    have HB23 := Lib.hid hb23
    clear hg3 hb23 hmb hO3
    go_wp2_with (at_builtin; (refine wpList_append_bts rfl _ _ rfl w2.heap.size _ bs rfl HO3.out _ more w3.heap.size rfl hmb3 (by have := HMN.out; omega) hs23 ?_))
    intro v4 w4 hO4 hg4 _
    have hlow : ∀ k, v3.ownBlock = some k → w2.heap.size ≤ k := fun k hk => (World.ownsRow.lt HO3.out k hk).1
    have HB4 := Lib.hid (HB3.out.grown hg4 HB3.out.size (fun k hk => by have := hlow k hk; have := HB2.out.size; omega))
    have hb24 : Below w2.heap.size w2 w4 := HB23.out.trans ((Below.refl _ _).grown hg4 hs23 hlow)
    have hs24 := hb24.size
    have HBB := Lib.hid (HO2.out.bts.below hb24 hs24)
    have HKI := Lib.hid (HK2.out.ints.below hb24 hs24)
    obtain ⟨ll, hll⟩ : ∃ ll, ll = (bs ++ more).length := ⟨_, rfl⟩
    obtain ⟨lo, lcap, hv4⟩ := bts_form hO4.bts
    rw [← hll] at hv4
    subst hv4
    have HLL := Lib.hid hll
    clear hll
    have c3 := code_Read _ _ (bs ++ more) (fs.map Fld.kind) w4 hO4.bts HKI.out (by have := HMN.out; rw [List.length_append]; omega) (by have := HN.out; simp; omega)
    rw [HRB.out] at c3
    simp only [List.nil_append, Nat.zero_add] at c3
    clear HO3 HO2 HK2 hg4 hlow hb24 hO4 hmb3
    go_wp2_with fail
    refine c3.mono ?_
    rintro e w5 ⟨xv, rfl, hB5, hO5⟩
    have HB5 := Lib.hid (HB4.out.trans (hB5.mono HB4.out.size))
    have hf5 := HV.out.below HB5.out HB5.out.size
    have c4 := same_yes _ _ fs _ _ w5 hO5.flds hf5 (by have := HN.out; omega)
    obtain ⟨xo, xcap, rfl⟩ := owns_form hO5
    have HBB5 := Lib.hid (HBB.out.below hB5 hB5.size)
    have HKI5 := Lib.hid (HKI.out.below hB5 hB5.size)
    have hfl := HN.out
    rw [hfl] at c4
    simp only [hfl]
    clear c3 hO5 hf5 HBB HKI hB5
    go_wp2_with fail
    refine c4.mono ?_
    rintro e w6 ⟨rfl, nn, rfl⟩
    clear c4
    have hb6 : Below w5.heap.size w5 (w5.drewN nn) := ⟨rfl, rfl, rfl, Nat.le_refl _, fun _ _ => rfl⟩
    have HB6 := Lib.hid (HB5.out.trans (hb6.mono HB5.out.size))
    have HBB6 := Lib.hid (HBB5.out.below hb6 hb6.size)
    have HKI6 := Lib.hid (HKI5.out.below hb6 hb6.size)
    clear hb6 HBB5 HKI5 HB5
    generalize w5.drewN nn = w6 at *
    by_cases hz : bs.length = 0
    · have hz0 : bs = [] := List.eq_nil_of_length_eq_zero hz
      subst hz0
      have c5 := awake_true w6
      clear hz
      go_wp2_with fail
      refine c5.mono ?_
      rintro e w7 ⟨rfl, hB7⟩
      clear c5
      go_wp2
      go_ret
      exact ⟨rfl, HB6.out.trans (hB7.mono HB6.out.size)⟩
    · obtain ⟨k, hk, hkl⟩ := rem_at cut bs.length (by omega) (by omega)
      have hbz : ((bs.length : Int) == 0) = false := by rw [beq_eq_false_iff_ne]; omega
      have hcapb : bs.length ≤ bcap := by
        obtain ⟨ao', cap', he, hc, _⟩ := HBB6.out
        injection he with _ _ h3
        omega
      have hbt : Bts w6 w6.heap.size (.slice bo k bcap) (bs.take k) := by
        obtain ⟨ao', cap', he, hc, hm, hz, hx⟩ := HBB6.out
        injection he with h4 h5 h6
        subst h4 h6
        have hl : (bs.take k).length = k := by rw [List.length_take]; omega
        refine ⟨bo, bcap, by rw [hl], by rw [hl]; omega, by rw [hl]; omega, hz, fun hne => ?_⟩
        obtain ⟨b, off, g1, g2, g3⟩ := hx (by intro h; subst h; simp at hne)
        refine ⟨b, off, g1, g2, fun i hi => ?_⟩
        rw [hl] at hi
        rw [g3 i (by omega)]
        simp [List.getD, hi]
      have c5 := code_Read _ _ (bs.take k) (fs.map Fld.kind) w6 hbt HKI6.out (by rw [List.length_take]; omega) (by have := HN.out; simp; omega)
      rw [HRC.out k hkl] at c5
      simp only [List.length_nil] at c5
      clear hbt HLL HRB HRC HT HFE HTT
      generalize bs.length = bl at *
      go_wp2_with fail
      refine c5.mono ?_
      rintro e w7 ⟨yv, rfl, hB7, hO7⟩
      have c6 := awake_true w7
      have HB7 := Lib.hid (HB6.out.trans (hB7.mono HB6.out.size))
      clear c5 hO7 hB7
      go_wp2_with fail
      refine c6.mono ?_
      rintro e w8 ⟨rfl, hB8⟩
      clear c6
      go_wp2
      go_ret
      exact ⟨rfl, HB7.out.trans (hB8.mono HB7.out.size)⟩
  · have hE : fieldsB fs = [] := by
      obtain ⟨j, hj, rfl⟩ := List.mem_iff_getElem.1 hf
      exact fieldsB_bad fs j _ (List.getElem?_eq_getElem hj) hrf
    have c2 := code_Fields (.slice ao n cap) fs w1 (HV.out.below hB1 hB1.size) HOK.out (by have := HT.out; omega) (by rw [HN.out]; exact HL.out)
    rw [hE] at c2
    have HB1 := Lib.hid hB1
    clear c1 hE hf hrf hB1
    go_wp2_with fail
    refine c2.mono ?_
    rintro e w2 ⟨bv, rfl, hO2, hB2⟩
    obtain ⟨bo, bcap, rfl⟩ := bts_form hO2.bts
    have HB2 := Lib.hid (HB1.out.trans (hB2.mono HB1.out.size))
    have c3 := awake_true w2
    simp only [List.length_nil]
    clear c2 hO2 hB2
    go_wp2_with fail
    refine c3.mono ?_
    rintro e w3 ⟨rfl, hB3⟩
    clear c3
    go_wp2
    go_ret
    exact ⟨rfl, HB2.out.trans (hB3.mono HB2.out.size)⟩

end Go.Proofs.YtmekpmboghmfpaaDoor
