/- The law SealBack, walked: it returns true, and what was there stays as it was. -/
import Derived.Test.YtmekpmboghmfpaaDoorSealLawA
import Derived.Test.YtmekpmboghmfpaaDoorSealMath
import Derived.Test.YtmekpmboghmfpaaDoorBytesW
namespace Go.Proofs.YtmekpmboghmfpaaDoor
open Go.RowKit

theorem Own.form {w : World} {B : Nat} {v : Value} {l : List UInt8} (h : Own w B v l) : ∃ ao cap, v = .slice ao l.length cap := by
  obtain ⟨ao, cap, h, _⟩ := h.bts
  exact ⟨ao, cap, h⟩

theorem Bts.pre {w : World} {B : Nat} {ao : Option Addr} {n cap : Nat} {l : List UInt8} (h : Bts w B (.slice ao n cap) l) (k : Nat) (hk : k ≤ l.length) : Bts w B (.slice ao k cap) (l.take k) := by
  obtain ⟨ao', cap', he, hc, hm, hz, hx⟩ := id h
  injection he with h4 h5 h6
  subst h4 h6
  subst h5
  have hl : (l.take k).length = k := by rw [List.length_take]; omega
  refine ⟨ao, cap, by rw [hl], by omega, by omega, hz, fun hne => ?_⟩
  obtain ⟨b, off, h7, h8, h9⟩ := hx (fun h => hne (by rw [h]; simp))
  refine ⟨b, off, h7, h8, fun i hi => ?_⟩
  rw [hl] at hi
  rw [h9 i (by omega)]
  simp only [List.getD_eq_getElem?_getD]
  rw [List.getElem?_take_of_lt hi]

theorem rem_at (c : Int) (m : Nat) (h0 : 0 < m) (h1 : m ≤ 1000000) : ∃ k : Nat, wrap64 ((IntKind.u64.wrap c).tmod (m : Int)) = (k : Int) ∧ k < m := by
  have hw : 0 ≤ IntKind.u64.wrap c := wrap_u64_nonneg c
  have h2 := Int.tmod_lt_of_pos (IntKind.u64.wrap c) (b := (m : Int)) (by omega)
  have h3 := Int.tmod_nonneg (m : Int) hw
  refine ⟨((IntKind.u64.wrap c).tmod (m : Int)).toNat, ?_, by omega⟩
  have : wrap64 ((IntKind.u64.wrap c).tmod (m : Int)) = (IntKind.u64.wrap c).tmod (m : Int) := by
    unfold wrap64
    omega
  rw [this]; omega

set_option maxRecDepth 100000 in
set_option maxHeartbeats 2000000 in
theorem back_long (v vb : Value) (l : List UInt8) (cut : Int) (w : World) (hb : Bts w w.heap.size v l) (ht : TabOK w) (hl : 65535 < l.length) :
    Calls Tryd.prog 5 #[v, vb, .int .i64 cut] w fun e w' => e = .returned (.bool true) ∧ Below w.heap.size w w' := by
  have c1 := seal_any v l w hb ht
  have e1 : sealB l = [] := by unfold sealB; rw [if_neg (by omega)]
  have e2 : sealC l = 23 := by unfold sealC; rw [if_neg (by omega)]
  rw [e1, e2] at c1
  have hmax := hb.len
  obtain ⟨ao, cap, rfl, _⟩ := hb
  generalize l.length = n at *
  go_enter Tryd.func5, Tryd.ntmps5
  go_wp2_with fail
  refine c1.mono ?_
  rintro e w1 ⟨v1, rfl, hown1, hB1⟩
  obtain ⟨ao1, cap1, rfl⟩ := hown1.form
  have ht1 := ht.below hB1 ht.lt
  have c2 := awake_true w1 ht1
  clear c1
  go_wp2_with (go_at_call 17; refine c2.mono ?_; rintro e w' ⟨rfl, hB2⟩)
  go_ret
  exact ⟨rfl, hB1.trans (hB2.mono hB1.size)⟩

set_option maxRecDepth 100000 in
set_option maxHeartbeats 2000000 in
theorem back_short (v vb : Value) (l lb : List UInt8) (cut : Int) (w : World) (hb : Bts w w.heap.size v l) (hbb : Bts w w.heap.size vb lb) (ht : TabOK w) (hl : l.length ≤ 65535) (hlb : lb.length ≤ 140737488355328) :
    Calls Tryd.prog 5 #[v, vb, .int .i64 cut] w fun e w' => e = .returned (.bool true) ∧ Below w.heap.size w w' := by
  have c1 := seal_any v l w hb ht
  have e1 : sealB l = frameOf l := by unfold sealB; rw [if_pos hl]
  have e2 : sealC l = 0 := by unfold sealC; rw [if_pos hl]
  rw [e1, e2] at c1
  have hF := frameOf_len l
  have hO := open_frame l lb hl
  have hC := fun k hk => open_cut l k hl hk
  generalize frameOf l = F at *
  obtain ⟨ao, cap, rfl, hb'⟩ := id hb
  clear hb'
  go_enter Tryd.func5, Tryd.ntmps5
  go_wp2_with fail
  refine c1.mono ?_
  rintro e w1 ⟨v1, rfl, hown1, hB1⟩
  have ht1 := ht.below hB1 ht.lt
  obtain ⟨ao1, cap1, hv1⟩ := hown1.form
  rw [hF] at hv1
  have c2 := copied_any v1 F w1 hown1.bts (by omega)
  clear c1
  subst hv1
  generalize hN : l.length = n at *
  go_wp2_with fail
  refine c2.mono ?_
  rintro e w2 ⟨v2, rfl, hown2, hB2⟩
  clear c2
  have hbb2 : Bts w2 w2.heap.size vb lb := hbb.below (hB1.trans (hB2.mono hB1.size)) (Nat.le_trans hB1.size hB2.size)
  go_wp2_with (at_builtin; (refine wpList_append_btsW rfl _ _ rfl w1.heap.size _ F rfl hown2 vb lb w2.heap.size rfl hbb2 (by omega) hB2.size ?_))
  intro v3 w3 hown3 hg3 _
  have hB3 : Below w1.heap.size w1 w3 := hB2.grown hg3 hB2.size (fun k hk => (hown2.lt k hk).1)
  have Bw3 : Below w.heap.size w w3 := hB1.trans (hB3.mono hB1.size)
  have ht3 := ht1.below hB3 ht1.lt
  have c3 := seal_Open v3 _ w3 hown3.bts ht3
  rw [hO] at c3
  clear hown2 hbb2 hg3
  go_wp2_with fail
  refine c3.mono ?_
  rintro e w4 ⟨v4, rfl, hown4, hB4⟩
  clear c3
  have Bw14 : Below w1.heap.size w1 w4 := hB3.trans (hB4.mono hB3.size)
  have Bw4 : Below w.heap.size w w4 := Bw3.trans (hB4.mono Bw3.size)
  have ht4 := ht3.below hB4 ht3.lt
  have hF4 : Own w4 w.heap.size (Value.slice ao1 (n + 8) cap1) F := hown1.below Bw14
  obtain ⟨k, hk, hkl⟩ := rem_at cut (n + 8) (by omega) (by omega)
  have hcap1 : n + 8 ≤ cap1 := by
    obtain ⟨ao', cap', he, hc, _⟩ := hF4.bts
    injection he with _ _ h3
    omega
  have c5 := seal_Open _ _ w4 (hF4.bts.pre k (by omega)) ht4
  rw [hC k hkl] at c5
  rw [show (((n + 8 : Nat) : Int)) = (n : Int) + 8 by omega] at hk
  clear hown1 hown3 hB1 hB2 hB3 hB4 Bw14 Bw3 hbb
  go_wp2_with fail
  refine c5.mono ?_
  rintro e w5 ⟨v5, rfl, hown5, hB5⟩
  clear c5
  have Bw5 : Below w.heap.size w w5 := Bw4.trans (hB5.mono Bw4.size)
  have ht5 := ht4.below hB5 ht4.lt
  have c6 := awake_true w5 ht5
  have s4 := (hown4.below hB5).bts.strB
  have sv := (hb.below Bw5 Bw5.size).strB
  have eql : ((⟨l.toArray⟩ : ByteArray).toList == (⟨l.toArray⟩ : ByteArray).toList) = true := by simp
  clear hown5 hF4 hown4 hb
  go_wp2_with (go_at_call 17; refine c6.mono ?_; rintro e w' ⟨rfl, hB6⟩)
  go_ret
  exact ⟨rfl, Bw5.trans (hB6.mono Bw5.size)⟩

theorem law_SealBack (v vb : Value) (l lb : List UInt8) (cut : Int) (w : World) (hb : Bts w w.heap.size v l) (hbb : Bts w w.heap.size vb lb) (ht : TabOK w) (hlb : lb.length ≤ 140737488355328) :
    Calls Tryd.prog 5 #[v, vb, .int .i64 cut] w fun e w' => e = .returned (.bool true) ∧ Below w.heap.size w w' := by
  by_cases h : l.length ≤ 65535
  · exact back_short v vb l lb cut w hb hbb ht h hlb
  · exact back_long v vb l cut w hb ht (by omega)

end Go.Proofs.YtmekpmboghmfpaaDoor
