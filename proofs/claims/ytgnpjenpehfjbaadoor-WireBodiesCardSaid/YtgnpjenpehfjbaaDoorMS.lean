/- The document's reader behind a failure: it stands still.
The document's reader: small numbers, extremes.
The document's readItem (by program: wip/tools/gen_rd3.py). -/
import Derived.Test.YtgnpjenpehfjbaaDoorMB
import Derived.Test.YtgnpjenpehfjbaaDoorMO
import Derived.Test.YtgnpjenpehfjbaaDoorML
import Derived.Laws.ResultCell
set_option linter.unusedSimpArgs false
set_option linter.unusedVariables false
namespace Go.Proofs.YtgnpjenpehfjbaaDoor
open Go.RowKit

set_option maxRecDepth 100000 in
set_option maxHeartbeats 1000000 in
theorem ref_Num_f (rb : Nat) (vb : Value) (a c : Nat) (w : World) (hc : w.heap[rb]? = some (refO vb a c)) (h0 : c ≠ 0) :
    Calls Tryd.prog 79 #[.pointer (some ⟨rb, 0, none⟩)] w fun x w' => x = .returned (.int .u64 0) ∧ Rx rb (refO vb a c) w w' := by
  have HC := Lib.hid (Rx.refl hc)
  have h2 : w.cell? ⟨rb, 2, none⟩ = some (.int .i64 (c : Int)) := cell_of_row w rb 2 _ _ _ hc
  have he0 : ((c : Int) == 0) = false := by rw [beq_eq_false_iff_ne]; omega
  have he1 : ((c : Int) != 0) = true := by rw [bne_iff_ne]; omega
  clear hc
  go_enter Tryd.func79, Tryd.ntmps79
  go_wp2_with fail
  go_loopw [3, 4, 5] (fun x k _ wr => x = .int .u64 0 ∧ k = .int .i64 0 ∧ Hid (wr = w)) (fun _ _ _ _ => 0)
  case atStart => exact ⟨rfl, rfl, rfl⟩
  case round =>
    obtain ⟨rfl, rfl, HW⟩ := hrel
    have hw := HW.out
    subst hw
    go_wp2_with fail
    go_ret
    exact ⟨rfl, HC.out⟩

set_option maxRecDepth 100000 in
set_option maxHeartbeats 1000000 in
theorem ref_Whole_f (rb : Nat) (vb : Value) (a c : Nat) (w : World) (hc : w.heap[rb]? = some (refO vb a c)) (h0 : c ≠ 0) :
    Calls Tryd.prog 71 #[.pointer (some ⟨rb, 0, none⟩)] w fun x w' => x = .returned (.int .i64 0) ∧ Rx rb (refO vb a c) w w' := by
  have c1 := ref_Num_f rb vb a c w hc h0
  have he0 : ((c : Int) == 0) = false := by rw [beq_eq_false_iff_ne]; omega
  have he1 : ((c : Int) != 0) = true := by rw [bne_iff_ne]; omega
  clear hc
  go_enter Tryd.func71, Tryd.ntmps71
  go_wp2_with fail
  refine c1.mono ?_
  rintro e w1 ⟨rfl, hD⟩
  have h2 : w1.cell? ⟨rb, 2, none⟩ = some (.int .i64 (c : Int)) := cell_of_row w1 rb 2 _ _ _ hD.cur
  have HD := Lib.hid hD
  clear c1 hD
  go_wp2
  go_ret
  exact ⟨rfl, HD.out⟩

set_option maxRecDepth 100000 in
set_option maxHeartbeats 1000000 in
theorem ref_Int_f (rb : Nat) (vb : Value) (a c : Nat) (w : World) (hc : w.heap[rb]? = some (refO vb a c)) (h0 : c ≠ 0) :
    Calls Tryd.prog 82 #[.pointer (some ⟨rb, 0, none⟩)] w fun x w' => x = .returned (.int .i64 0) ∧ Rx rb (refO vb a c) w w' := by
  have c1 := ref_Num_f rb vb a c w hc h0
  clear hc
  go_enter Tryd.func82, Tryd.ntmps82
  go_wp2_with fail
  refine c1.mono ?_
  rintro e w1 ⟨rfl, hD⟩
  have HD := Lib.hid hD
  clear c1 hD
  go_wp2
  go_ret
  exact ⟨rfl, HD.out⟩

set_option maxRecDepth 100000 in
set_option maxHeartbeats 1000000 in
theorem ref_Str_f (rb : Nat) (vb : Value) (a c : Nat) (w : World) (hc : w.heap[rb]? = some (refO vb a c)) (h0 : c ≠ 0) :
    Calls Tryd.prog 80 #[.pointer (some ⟨rb, 0, none⟩)] w fun x w' => x = .returned (.string ⟨#[]⟩) ∧ Rx rb (refO vb a c) w w' := by
  have c1 := ref_Num_f rb vb a c w hc h0
  have he0 : ((c : Int) == 0) = false := by rw [beq_eq_false_iff_ne]; omega
  have he1 : ((c : Int) != 0) = true := by rw [bne_iff_ne]; omega
  clear hc
  go_enter Tryd.func80, Tryd.ntmps80
  go_wp2_with fail
  refine c1.mono ?_
  rintro e w1 ⟨rfl, hD⟩
  have h2 : w1.cell? ⟨rb, 2, none⟩ = some (.int .i64 (c : Int)) := cell_of_row w1 rb 2 _ _ _ hD.cur
  have HD := Lib.hid hD
  clear c1 hD
  go_wp2
  go_quiet (fail)
  go_wp2
  go_ret
  exact ⟨rfl, HD.out.drew _⟩

set_option maxRecDepth 100000 in
set_option maxHeartbeats 1000000 in
theorem ref_Truth_f (rb : Nat) (vb : Value) (a c : Nat) (w : World) (hc : w.heap[rb]? = some (refO vb a c)) (h0 : c ≠ 0) :
    Calls Tryd.prog 81 #[.pointer (some ⟨rb, 0, none⟩)] w fun x w' => x = .returned (.bool false) ∧ Rx rb (refO vb a c) w w' := by
  have HC := Lib.hid (Rx.refl hc)
  have h2 : w.cell? ⟨rb, 2, none⟩ = some (.int .i64 (c : Int)) := cell_of_row w rb 2 _ _ _ hc
  have he0 : ((c : Int) == 0) = false := by rw [beq_eq_false_iff_ne]; omega
  have he1 : ((c : Int) != 0) = true := by rw [bne_iff_ne]; omega
  clear hc
  go_enter Tryd.func81, Tryd.ntmps81
  go_wp2
  go_ret
  exact ⟨rfl, HC.out⟩

/-- a read in whatever state: behind a failure nothing is read and the failure stays -/
def rdS (l : List UInt8) (k : Int) (s : Nat × Nat) : Fld × Nat × Nat := if s.2 ≠ 0 then (⟨k, 0, [], false⟩, s.1, s.2) else fieldR l k s.1
/-- the reader stands at a state (behind a failure its place is whatever) -/
def RSt (rb : Nat) (vb : Value) (s : Nat × Nat) (W : World) : Prop := ∃ a, W.heap[rb]? = some (refO vb a s.2) ∧ (s.2 = 0 → a = s.1)
/-- what a read leaves -/
def RdPost (rb : Nat) (vb : Value) (w : World) (s : Nat × Nat) (v : Value) (x : Ending) (w' : World) : Prop :=
  x = .returned v ∧ ∃ a, Rx rb (refO vb a s.2) w w' ∧ (s.2 = 0 → a = s.1)
theorem fieldR_zero {l : List UInt8} {k : Int} {a : Nat} (h : (fieldR l k a).2.2 ≠ 0) : (fieldR l k a).1 = ⟨k, 0, [], false⟩ := by
  unfold fieldR at h ⊢
  repeat' split at h
  all_goals first | (exfalso; exact h rfl) | skip
  all_goals simp_all
  all_goals (split <;> rfl)
theorem rd_of {rb : Nat} {vb : Value} {w : World} {T : Fld × Nat × Nat} {v z : Value} {x : Ending} {w' : World} (h : RFPost rb vb w T v z x w') (hz : T.2.2 ≠ 0 → z = v) : RdPost rb vb w T.2 v x w' := by
  rcases h with ⟨h1, h2, h3⟩ | ⟨h1, h2, a, h3⟩
  · exact ⟨h2, T.2.1, by rw [h1]; exact h3, fun _ => rfl⟩
  · exact ⟨by rw [h2, hz h1], a, h3, fun h => absurd h h1⟩
theorem rd_Whole (rb : Nat) (vb : Value) (l : List UInt8) (s : Nat × Nat) (w : World) (hc : RSt rb vb s w) (hb : Bts w rb vb l) :
    Calls Tryd.prog 71 #[.pointer (some ⟨rb, 0, none⟩)] w fun x w' => RdPost rb vb w (rdS l 1 s).2 (.int .i64 (rdS l 1 s).1.num) x w' := by
  obtain ⟨a, h1, h2⟩ := hc
  unfold rdS
  by_cases h : s.2 = 0
  · rw [if_neg (by simp [h]), ← h2 h]
    rw [h] at h1
    exact (ref_Whole rb vb l a w h1 hb).mono fun x w' hp => rd_of hp fun he => by rw [fieldR_zero he]
  · rw [if_pos h]
    exact (ref_Whole_f rb vb a s.2 w h1 h).mono fun x w' hp => ⟨hp.1, a, hp.2, fun e => absurd e h⟩
theorem rd_Int (rb : Nat) (vb : Value) (l : List UInt8) (s : Nat × Nat) (w : World) (hc : RSt rb vb s w) (hb : Bts w rb vb l) :
    Calls Tryd.prog 82 #[.pointer (some ⟨rb, 0, none⟩)] w fun x w' => RdPost rb vb w (rdS l 2 s).2 (.int .i64 (rdS l 2 s).1.num) x w' := by
  obtain ⟨a, h1, h2⟩ := hc
  unfold rdS
  by_cases h : s.2 = 0
  · rw [if_neg (by simp [h]), ← h2 h]
    rw [h] at h1
    exact (ref_Int rb vb l a w h1 hb).mono fun x w' hp => rd_of hp fun he => by rw [fieldR_zero he]
  · rw [if_pos h]
    exact (ref_Int_f rb vb a s.2 w h1 h).mono fun x w' hp => ⟨hp.1, a, hp.2, fun e => absurd e h⟩
theorem rd_Truth (rb : Nat) (vb : Value) (l : List UInt8) (s : Nat × Nat) (w : World) (hc : RSt rb vb s w) (hb : Bts w rb vb l) :
    Calls Tryd.prog 81 #[.pointer (some ⟨rb, 0, none⟩)] w fun x w' => RdPost rb vb w (rdS l 4 s).2 (.bool (rdS l 4 s).1.is_) x w' := by
  obtain ⟨a, h1, h2⟩ := hc
  unfold rdS
  by_cases h : s.2 = 0
  · rw [if_neg (by simp [h]), ← h2 h]
    rw [h] at h1
    exact (ref_Truth rb vb l a w h1 hb).mono fun x w' hp => rd_of hp fun he => by rw [fieldR_zero he]
  · rw [if_pos h]
    exact (ref_Truth_f rb vb a s.2 w h1 h).mono fun x w' hp => ⟨hp.1, a, hp.2, fun e => absurd e h⟩
theorem rd_Str (rb : Nat) (vb : Value) (l : List UInt8) (s : Nat × Nat) (w : World) (hc : RSt rb vb s w) (hb : Bts w rb vb l) (hat : s.2 = 0 → s.1 ≤ l.length) (hl : l.length ≤ 1000000000000) :
    Calls Tryd.prog 80 #[.pointer (some ⟨rb, 0, none⟩)] w fun x w' => RdPost rb vb w (rdS l 3 s).2 (.string ⟨(rdS l 3 s).1.text.toArray⟩) x w' := by
  obtain ⟨a, h1, h2⟩ := hc
  unfold rdS
  by_cases h : s.2 = 0
  · rw [if_neg (by simp [h]), ← h2 h]
    rw [h] at h1
    exact (ref_Str rb vb l a w h1 hb (by rw [h2 h]; exact hat h) hl).mono fun x w' hp => rd_of hp fun he => by rw [fieldR_zero he]
  · rw [if_pos h]
    exact (ref_Str_f rb vb a s.2 w h1 h).mono fun x w' hp => ⟨hp.1, a, hp.2, fun e => absurd e h⟩

end Go.Proofs.YtgnpjenpehfjbaaDoor

namespace Go.Proofs.YtgnpjenpehfjbaaDoor
open Go.RowKit

def smallR (x : Int) : Int := if 1073741824 < x then -1 else x
theorem RdPost.st {rb : Nat} {vb : Value} {w : World} {s : Nat × Nat} {v : Value} {x : Ending} {w' : World} (h : RdPost rb vb w s v x w') : RSt rb vb s w' := by
  obtain ⟨-, a, h1, h2⟩ := h
  exact ⟨a, h1.cur, h2⟩
theorem RdPost.low {rb : Nat} {vb : Value} {w : World} {s : Nat × Nat} {v : Value} {x : Ending} {w' : World} (h : RdPost rb vb w s v x w') : Below rb w w' := by
  obtain ⟨-, a, h1, h2⟩ := h
  exact h1.below
set_option maxRecDepth 100000 in
set_option maxHeartbeats 1000000 in
theorem rd_small (rb : Nat) (vb : Value) (l : List UInt8) (s : Nat × Nat) (w : World) (hc : RSt rb vb s w) (hb : Bts w rb vb l) :
    Calls Tryd.prog 70 #[.pointer (some ⟨rb, 0, none⟩)] w fun x w' => RdPost rb vb w (rdS l 1 s).2 (.int .i64 (smallR (rdS l 1 s).1.num)) x w' := by
  have c1 := Lib.hid (rd_Whole rb vb l s w hc hb)
  clear hc hb
  generalize rdS l 1 s = T at *
  obtain ⟨⟨k, x, t, i⟩, s'⟩ := T
  go_enter Tryd.func70, Tryd.ntmps70
  go_wp2_with (fail)
  with_reducible refine c1.out.mono ?_
  rintro e w1 ⟨rfl, a, hD, ha⟩
  have HD := Lib.hid (And.intro hD ha)
  clear c1 hD ha
  by_cases h : 1073741824 < x
  · go_wp2_with (fail)
    go_ret
    exact ⟨by simp [smallR, h], a, HD.out.1, HD.out.2⟩
  · go_wp2_with (fail)
    go_ret
    exact ⟨by rw [smallR, if_neg (by omega)]; rfl, a, HD.out.1, HD.out.2⟩

/-- the reader's block is at a state, all else of w as it was -/
def RdAt (rb : Nat) (vb : Value) (w : World) (s : Nat × Nat) (W : World) : Prop := ∃ a, Rx rb (refO vb a s.2) w W ∧ (s.2 = 0 → a = s.1)
theorem RSt.at {rb : Nat} {vb : Value} {s : Nat × Nat} {w : World} (h : RSt rb vb s w) : RdAt rb vb w s w := by
  obtain ⟨a, h1, h2⟩ := h
  exact ⟨a, Rx.refl h1, h2⟩
theorem RdAt.st {rb : Nat} {vb : Value} {s : Nat × Nat} {w W : World} (h : RdAt rb vb w s W) : RSt rb vb s W := by
  obtain ⟨a, h1, h2⟩ := h
  exact ⟨a, h1.cur, h2⟩
theorem RdAt.bts {rb : Nat} {vb : Value} {s : Nat × Nat} {w W : World} (h : RdAt rb vb w s W) {v : Value} {l : List UInt8} (hb : Bts w rb v l) : Bts W rb v l := by
  obtain ⟨a, h1, h2⟩ := h
  exact h1.bts hb
theorem RdAt.alloc {rb : Nat} {vb : Value} {s : Nat × Nat} {w W : World} (h : RdAt rb vb w s W) (o : Obj) : RdAt rb vb w s (W.alloc o) := by
  obtain ⟨a, h1, h2⟩ := h
  exact ⟨a, h1.alloc o, h2⟩
theorem RdAt.set {rb : Nat} {vb : Value} {s : Nat × Nat} {w W : World} (h : RdAt rb vb w s W) {g : Nat} (hg : w.heap.size ≤ g) (j : Nat) (v : Value) : RdAt rb vb w s (W.setCell ⟨g, j, none⟩ v) := by
  obtain ⟨a, h1, h2⟩ := h
  exact ⟨a, h1.fresh hg j v, h2⟩
theorem RdAt.next {rb : Nat} {vb : Value} {s s' : Nat × Nat} {w W W' : World} (h : RdAt rb vb w s W) {v : Value} {x : Ending} (hp : RdPost rb vb W s' v x W') : RdAt rb vb w s' W' := by
  obtain ⟨a, h1, h2⟩ := h
  obtain ⟨-, b, h3, h4⟩ := hp
  exact ⟨b, h1.trans h3, h4⟩
theorem RdAt.kept {rb : Nat} {vb : Value} {s : Nat × Nat} {w W : World} (h : RdAt rb vb w s W) {k : Nat} {o : Obj} (hk : w.heap[k]? = some o) (hne : k ≠ rb) : W.heap[k]? = some o := by
  obtain ⟨a, h1, h2⟩ := h
  exact (h1.block k (Array.getElem?_eq_some_iff.1 hk).1 hne).trans hk
theorem RdPost.at {rb : Nat} {vb : Value} {w : World} {s : Nat × Nat} {v : Value} {x : Ending} {w' : World} (h : RdPost rb vb w s v x w') : RdAt rb vb w s w' := h.2
theorem RdAt.size {rb : Nat} {vb : Value} {s : Nat × Nat} {w W : World} (h : RdAt rb vb w s W) : w.heap.size ≤ W.heap.size := by
  obtain ⟨a, h1, h2⟩ := h
  exact h1.size
/-- an extreme that the document reads, and where it then stands -/
def rdExt (l : List UInt8) (s : Nat × Nat) : Xt × (Nat × Nat) :=
  let T1 := rdS l 4 s
  let T2 := rdS l 2 T1.2
  let T3 := rdS l 1 T2.2
  let T4 := rdS l 1 T3.2
  (⟨T1.1.is_, T2.1.num, smallR T3.1.num, T4.1.num⟩, T4.2)
set_option maxRecDepth 100000 in
set_option maxHeartbeats 1000000 in
theorem rd_ext (rb : Nat) (vb : Value) (l : List UInt8) (s : Nat × Nat) (w : World) (hc : RSt rb vb s w) (hb : Bts w rb vb l) :
    Calls Tryd.prog 83 #[.pointer (some ⟨rb, 0, none⟩)] w fun x w' => RdPost rb vb w (rdExt l s).2 (.agg #[.bool (rdExt l s).1.has, .int .i64 (rdExt l s).1.val, .int .i64 (rdExt l s).1.org, .int .i64 (rdExt l s).1.age]) x w' := by
  obtain ⟨T1, hT1⟩ : ∃ T, T = rdS l 4 s := ⟨_, rfl⟩
  obtain ⟨T2, hT2⟩ : ∃ T, T = rdS l 2 T1.2 := ⟨_, rfl⟩
  obtain ⟨T3, hT3⟩ : ∃ T, T = rdS l 1 T2.2 := ⟨_, rfl⟩
  obtain ⟨T4, hT4⟩ : ∃ T, T = rdS l 1 T3.2 := ⟨_, rfl⟩
  have hE : rdExt l s = (⟨T1.1.is_, T2.1.num, smallR T3.1.num, T4.1.num⟩, T4.2) := by unfold rdExt; rw [hT4, hT3, hT2, hT1]
  rw [hE]
  clear hE
  go_enter Tryd.func83, Tryd.ntmps83
  go_wp2_with (fail)
  obtain ⟨B1, K1⟩ := new_block w (.cells #[.bool false, .int .i64 0, .int .i64 0, .int .i64 0] 36)
  have hrb : rb < w.heap.size := by obtain ⟨a, h1, -⟩ := hc; exact (Array.getElem?_eq_some_iff.1 h1).1
  obtain ⟨W1, hW1⟩ : ∃ W, W = w.alloc (.cells #[.bool false, .int .i64 0, .int .i64 0, .int .i64 0] 36) := ⟨_, rfl⟩
  rw [← hW1] at B1 K1 ⊢
  have hc1 : RSt rb vb s W1 := by
    obtain ⟨a, h1, h2⟩ := hc
    exact ⟨a, (B1.block rb hrb).trans h1, h2⟩
  have hb1 : Bts W1 rb vb l := hb.below ⟨B1.os, B1.tape, B1.output, B1.size, fun k hk => B1.block k (by omega)⟩ (Nat.le_refl _)
  have d1 := rd_Truth rb vb l s W1 hc1 hb1
  have J0 := Lib.hid ((hc.at).alloc (.cells #[.bool false, .int .i64 0, .int .i64 0, .int .i64 0] 36))
  rw [← hW1] at J0
  have HB := Lib.hid hb
  have D1 := Lib.hid d1
  obtain ⟨rx, hrx⟩ : ∃ b, b = w.heap.size := ⟨_, rfl⟩
  rw [← hrx] at K1 hrb ⊢
  have HRX := Lib.hid hrx
  have KX1 := Lib.hid K1
  rw [← hT1] at D1
  have HT2 := Lib.hid hT2
  have HT3 := Lib.hid hT3
  have HT4 := Lib.hid hT4
  clear d1 hb1 hc1 hc hb B1 K1 hrx hT1 hT2 hT3 hT4 hW1
  with_reducible refine D1.out.mono ?_
  rintro e w1 hp1
  have hx1 := hp1.1
  subst hx1
  have J1 := Lib.hid (J0.out.next hp1)
  have KY1 := Lib.hid (hp1.at.kept KX1.out (by omega))
  obtain ⟨X1, hX1⟩ : ∃ X, X = w1.alloc (.cells #[.bool T1.1.is_, .int .i64 0, .int .i64 0, .int .i64 0] 36) := ⟨_, rfl⟩
  obtain ⟨xb, hxb⟩ : ∃ b, b = w1.heap.size := ⟨_, rfl⟩
  have J2 := Lib.hid (J1.out.alloc (.cells #[.bool T1.1.is_, .int .i64 0, .int .i64 0, .int .i64 0] 36))
  obtain ⟨B2, K2⟩ := new_block w1 (.cells #[.bool T1.1.is_, .int .i64 0, .int .i64 0, .int .i64 0] 36)
  have hxr : rx < xb := by rw [hxb]; exact (Array.getElem?_eq_some_iff.1 KY1.out).1
  have KY2 := Lib.hid (stays KY1.out B2)
  rw [← hX1, ← hxb] at K2
  rw [← hX1] at J2 KY2
  have KX2 := Lib.hid K2
  have D2 := Lib.hid (rd_Int rb vb l T1.2 X1 J2.out.st (J2.out.bts HB.out))
  rw [← HT2.out] at D2
  have HX1 := Lib.hid hX1
  have HXB := Lib.hid hxb
  have hwx : w.heap.size ≤ xb := by rw [hxb]; exact J1.out.size
  have hrbx : rb < xb := by omega
  clear hp1 D1 J0 KX1 J1 KY1 K2 B2 hX1 hxb
  go_wp2_with (fail)
  rw [← HX1.out]
  with_reducible refine D2.out.mono ?_
  rintro e w2 hp2
  have hx2 := hp2.1
  subst hx2
  simp only [← HXB.out]
  have J3 := Lib.hid ((J2.out.next hp2).set (g := xb) hwx 1 (.int .i64 T2.1.num))
  have KX3' := hp2.at.kept KX2.out (by omega)
  have KX3 := Lib.hid (set_block w2 xb 1 _ _ (.int .i64 T2.1.num) KX3')
  have KY3 := Lib.hid ((set_other w2 xb 1 rx (.int .i64 T2.1.num) (by omega)).trans (hp2.at.kept KY2.out (by omega)))
  have f1 : w2.cell? ⟨xb, 1, none⟩ = some (.int .i64 0) := cell_of_row _ _ 1 _ _ _ KX3'
  have z1 : w2.frozen? ⟨xb, 1, none⟩ = false := frozen_of_row _ _ 1 _ _ KX3'
  have D3 := Lib.hid (rd_small rb vb l T2.2 _ J3.out.st (J3.out.bts HB.out))
  rw [← HT3.out] at D3
  clear hp2 D2 J2 KX2 KY2 KX3'
  go_wp2_with (fail)
  with_reducible refine D3.out.mono ?_
  rintro e w3 hp3
  have hx3 := hp3.1
  subst hx3
  have J4 := Lib.hid ((J3.out.next hp3).set (g := xb) hwx 2 (.int .i64 (smallR T3.1.num)))
  have KX4' := hp3.at.kept KX3.out (by omega)
  have KX4 := Lib.hid (set_block w3 xb 2 _ _ (.int .i64 (smallR T3.1.num)) KX4')
  have KY4 := Lib.hid ((set_other w3 xb 2 rx (.int .i64 (smallR T3.1.num)) (by omega)).trans (hp3.at.kept KY3.out (by omega)))
  have f3 : w3.cell? ⟨xb, 2, none⟩ = some (.int .i64 0) := cell_of_row _ _ 2 _ _ _ KX4'
  have z3 : w3.frozen? ⟨xb, 2, none⟩ = false := frozen_of_row _ _ 2 _ _ KX4'
  have D4 := Lib.hid (rd_Whole rb vb l T3.2 _ J4.out.st (J4.out.bts HB.out))
  rw [← HT4.out] at D4
  clear hp3 D3 J3 KX3 KY3 KX4' f1 z1
  go_wp2_with (fail)
  with_reducible refine D4.out.mono ?_
  rintro e w4 hp4
  have hx4 := hp4.1
  subst hx4
  have J5 := Lib.hid ((J4.out.next hp4).set (g := xb) hwx 3 (.int .i64 T4.1.num))
  have KX5' := hp4.at.kept KX4.out (by omega)
  have KX5 := Lib.hid (set_block w4 xb 3 _ _ (.int .i64 T4.1.num) KX5')
  have KY5 := Lib.hid ((set_other w4 xb 3 rx (.int .i64 T4.1.num) (by omega)).trans (hp4.at.kept KY4.out (by omega)))
  have f4 : w4.cell? ⟨xb, 3, none⟩ = some (.int .i64 0) := cell_of_row _ _ 3 _ _ _ KX5'
  have z4 : w4.frozen? ⟨xb, 3, none⟩ = false := frozen_of_row _ _ 3 _ _ KX5'
  have KY5' := hp4.at.kept KY4.out (by omega)
  have q0 : w4.cell? ⟨xb, 0, none⟩ = some (.bool T1.1.is_) := cell_of_row _ _ 0 _ _ _ KX5'
  have q1 : w4.cell? ⟨xb, 1, none⟩ = some (.int .i64 T2.1.num) := cell_of_row _ _ 1 _ _ _ KX5'
  have q2 : w4.cell? ⟨xb, 2, none⟩ = some (.int .i64 (smallR T3.1.num)) := cell_of_row _ _ 2 _ _ _ KX5'
  have hrxb : rx ≠ xb := by omega
  have y0 : w4.cell? ⟨rx, 0, none⟩ = some (.bool false) := cell_of_row _ _ 0 _ _ _ KY5'
  have y1 : w4.cell? ⟨rx, 1, none⟩ = some (.int .i64 0) := cell_of_row _ _ 1 _ _ _ KY5'
  have y2 : w4.cell? ⟨rx, 2, none⟩ = some (.int .i64 0) := cell_of_row _ _ 2 _ _ _ KY5'
  have y3 : w4.cell? ⟨rx, 3, none⟩ = some (.int .i64 0) := cell_of_row _ _ 3 _ _ _ KY5'
  have e0 : w4.frozen? ⟨rx, 0, none⟩ = false := frozen_of_row _ _ 0 _ _ KY5'
  have e1 : w4.frozen? ⟨rx, 1, none⟩ = false := frozen_of_row _ _ 1 _ _ KY5'
  have e2 : w4.frozen? ⟨rx, 2, none⟩ = false := frozen_of_row _ _ 2 _ _ KY5'
  have e3 : w4.frozen? ⟨rx, 3, none⟩ = false := frozen_of_row _ _ 3 _ _ KY5'
  clear KY5'
  clear hp4 D4 J4 KX4 KX5' KY4
  go_wp2_with (fail)
  have hrw : w.heap.size ≤ rx := by rw [HRX.out]; exact Nat.le_refl _
  have J9 := (((J5.out.set hrw 0 (.bool T1.1.is_)).set hrw 1 (.int .i64 T2.1.num)).set hrw 2 (.int .i64 (smallR T3.1.num))).set hrw 3 (.int .i64 T4.1.num)
  have K9 := set_block _ rx 3 _ _ (.int .i64 T4.1.num) (set_block _ rx 2 _ _ (.int .i64 (smallR T3.1.num)) (set_block _ rx 1 _ _ (.int .i64 T2.1.num) (set_block _ rx 0 _ _ (.bool T1.1.is_) KY5.out)))
  generalize (((((w4.setCell ⟨xb, 3, none⟩ (.int .i64 T4.1.num)).setCell ⟨rx, 0, none⟩ (.bool T1.1.is_)).setCell ⟨rx, 1, none⟩ (.int .i64 T2.1.num)).setCell ⟨rx, 2, none⟩ (.int .i64 (smallR T3.1.num))).setCell ⟨rx, 3, none⟩ (.int .i64 T4.1.num)) = W9 at *
  replace K9 : W9.heap[rx]? = some (.cells #[.bool T1.1.is_, .int .i64 T2.1.num, .int .i64 (smallR T3.1.num), .int .i64 T4.1.num] 36 (0, 0)) := K9
  refine bodyPost_ret (v := .agg #[.bool T1.1.is_, .int .i64 T2.1.num, .int .i64 (smallR T3.1.num), .int .i64 T4.1.num]) ?_ rfl ⟨rfl, J9⟩
  rw [results_cell1 (p := 2) (ty := 36) Tryd.results83]
  have hl := run_loadVar_row (P := Tryd.prog) W9 rx 36 36 #[.bool T1.1.is_, .int .i64 T2.1.num, .int .i64 (smallR T3.1.num), .int .i64 T4.1.num] (0, 0) (.struct (Tryd.prog.fieldsOf 36)) K9 (by kernel_rfl) rfl (by kernel_rfl)
  exact hl

end Go.Proofs.YtgnpjenpehfjbaaDoor

namespace Go.Proofs.YtgnpjenpehfjbaaDoor
open Go.RowKit

/-- an item that the document reads, and where it then stands -/
def rdItem (l : List UInt8) (s : Nat × Nat) : Itm × (Nat × Nat) :=
  let T1 := rdS l 3 s
  let T2 := rdS l 1 T1.2
  let T3 := rdS l 1 T2.2
  let T4 := rdS l 4 T3.2
  let T5 := rdS l 1 T4.2
  let T6 := rdS l 1 T5.2
  let T7 := rdS l 1 T6.2
  let T8 := rdS l 1 T7.2
  let T9 := rdS l 2 T8.2
  let T10 := rdS l 4 T9.2
  let T11 := rdS l 2 T10.2
  let E1 := rdExt l T11.2
  let E2 := rdExt l E1.2
  (⟨T1.1.text, T2.1.num, smallR T3.1.num, T4.1.is_, smallR T5.1.num, T6.1.num, T7.1.num, smallR T8.1.num, T9.1.num, T10.1.is_, T11.1.num, E1.1, E2.1⟩, E2.2)
theorem splice19 (v0 v1 v2 v3 v4 v5 v6 v7 v8 v9 v10 v11 v12 v13 v14 v15 v16 v17 v18 : Value) : splice #[.string ⟨#[]⟩, .int .i64 0, .int .i64 0, .bool false, .int .i64 0, .int .i64 0, .int .i64 0, .int .i64 0, .int .i64 0, .bool false, .int .i64 0, .bool false, .int .i64 0, .int .i64 0, .int .i64 0, .bool false, .int .i64 0, .int .i64 0, .int .i64 0] 0 [v0, v1, v2, v3, v4, v5, v6, v7, v8, v9, v10, v11, v12, v13, v14, v15, v16, v17, v18] = #[v0, v1, v2, v3, v4, v5, v6, v7, v8, v9, v10, v11, v12, v13, v14, v15, v16, v17, v18] := by kernel_rfl
theorem RdAt.sets {rb : Nat} {vb : Value} {s : Nat × Nat} {w : World} {g : Nat} (hg : w.heap.size ≤ g) : ∀ (vs : List Value) (o : Nat) (W : World), RdAt rb vb w s W → RdAt rb vb w s (W.setCells g o vs)
  | [], _, _, h => h
  | v :: r, o, W, h => RdAt.sets hg r (o + 1) _ (h.set hg o v)
set_option maxRecDepth 100000 in
set_option maxHeartbeats 4000000 in
theorem rd_item (rb : Nat) (vb : Value) (l : List UInt8) (s : Nat × Nat) (w : World) (hc : RSt rb vb s w) (hb : Bts w rb vb l) (hat : s.2 = 0 → s.1 ≤ l.length) (hl : l.length ≤ 1000000000000) :
    Calls Tryd.prog 72 #[.pointer (some ⟨rb, 0, none⟩)] w fun x w' => RdPost rb vb w (rdItem l s).2 (.agg (rdItem l s).1.cells.toArray) x w' := by
  obtain ⟨T1, hT1⟩ : ∃ T, T = rdS l 3 s := ⟨_, rfl⟩
  obtain ⟨T2, hT2⟩ : ∃ T, T = rdS l 1 T1.2 := ⟨_, rfl⟩
  obtain ⟨T3, hT3⟩ : ∃ T, T = rdS l 1 T2.2 := ⟨_, rfl⟩
  obtain ⟨T4, hT4⟩ : ∃ T, T = rdS l 4 T3.2 := ⟨_, rfl⟩
  obtain ⟨T5, hT5⟩ : ∃ T, T = rdS l 1 T4.2 := ⟨_, rfl⟩
  obtain ⟨T6, hT6⟩ : ∃ T, T = rdS l 1 T5.2 := ⟨_, rfl⟩
  obtain ⟨T7, hT7⟩ : ∃ T, T = rdS l 1 T6.2 := ⟨_, rfl⟩
  obtain ⟨T8, hT8⟩ : ∃ T, T = rdS l 1 T7.2 := ⟨_, rfl⟩
  obtain ⟨T9, hT9⟩ : ∃ T, T = rdS l 2 T8.2 := ⟨_, rfl⟩
  obtain ⟨T10, hT10⟩ : ∃ T, T = rdS l 4 T9.2 := ⟨_, rfl⟩
  obtain ⟨T11, hT11⟩ : ∃ T, T = rdS l 2 T10.2 := ⟨_, rfl⟩
  obtain ⟨E1, hE1⟩ : ∃ E, E = rdExt l T11.2 := ⟨_, rfl⟩
  obtain ⟨E2, hE2⟩ : ∃ E, E = rdExt l E1.2 := ⟨_, rfl⟩
  have hE : rdItem l s = (⟨T1.1.text, T2.1.num, smallR T3.1.num, T4.1.is_, smallR T5.1.num, T6.1.num, T7.1.num, smallR T8.1.num, T9.1.num, T10.1.is_, T11.1.num, E1.1, E2.1⟩, E2.2) := by unfold rdItem; rw [hE2, hE1, hT11, hT10, hT9, hT8, hT7, hT6, hT5, hT4, hT3, hT2, hT1]
  rw [hE]
  obtain ⟨⟨b1, c1, o1, a1⟩, s1⟩ := E1
  obtain ⟨⟨b2, c2, o2, a2⟩, s2⟩ := E2
  have HT2 := Lib.hid hT2
  have HT3 := Lib.hid hT3
  have HT4 := Lib.hid hT4
  have HT5 := Lib.hid hT5
  have HT6 := Lib.hid hT6
  have HT7 := Lib.hid hT7
  have HT8 := Lib.hid hT8
  have HT9 := Lib.hid hT9
  have HT10 := Lib.hid hT10
  have HT11 := Lib.hid hT11
  have HE1 := Lib.hid hE1
  have HE2 := Lib.hid hE2
  clear hE hT2 hT3 hT4 hT5 hT6 hT7 hT8 hT9 hT10 hT11 hE1 hE2
  have J0 := Lib.hid ((hc.at).alloc (.cells #[.string ⟨#[]⟩, .int .i64 0, .int .i64 0, .bool false, .int .i64 0, .int .i64 0, .int .i64 0, .int .i64 0, .int .i64 0, .bool false, .int .i64 0, .bool false, .int .i64 0, .int .i64 0, .int .i64 0, .bool false, .int .i64 0, .int .i64 0, .int .i64 0] 38))
  obtain ⟨B1, K1⟩ := new_block w (.cells #[.string ⟨#[]⟩, .int .i64 0, .int .i64 0, .bool false, .int .i64 0, .int .i64 0, .int .i64 0, .int .i64 0, .int .i64 0, .bool false, .int .i64 0, .bool false, .int .i64 0, .int .i64 0, .int .i64 0, .bool false, .int .i64 0, .int .i64 0, .int .i64 0] 38)
  have hrb : rb < w.heap.size := by obtain ⟨a, h1, -⟩ := hc; exact (Array.getElem?_eq_some_iff.1 h1).1
  obtain ⟨rx, hrx⟩ : ∃ b, b = w.heap.size := ⟨_, rfl⟩
  obtain ⟨W1, hW1⟩ : ∃ W, W = w.alloc (.cells #[.string ⟨#[]⟩, .int .i64 0, .int .i64 0, .bool false, .int .i64 0, .int .i64 0, .int .i64 0, .int .i64 0, .int .i64 0, .bool false, .int .i64 0, .bool false, .int .i64 0, .int .i64 0, .int .i64 0, .bool false, .int .i64 0, .int .i64 0, .int .i64 0] 38) := ⟨_, rfl⟩
  rw [← hW1] at J0 B1 K1
  rw [← hrx] at K1 hrb
  have HB := Lib.hid hb
  have HRX := Lib.hid hrx
  have HW1 := Lib.hid hW1
  have HAT := Lib.hid hat
  have HLN := Lib.hid hl
  have KX1 := Lib.hid K1
  have JX0 := Lib.hid (J0.out.alloc (.cells #[.string ⟨#[]⟩, .int .i64 0, .int .i64 0, .bool false, .int .i64 0, .int .i64 0, .int .i64 0, .int .i64 0, .int .i64 0, .bool false, .int .i64 0, .bool false, .int .i64 0, .int .i64 0, .int .i64 0, .bool false, .int .i64 0, .int .i64 0, .int .i64 0] 38))
  obtain ⟨B2, K2⟩ := new_block W1 (.cells #[.string ⟨#[]⟩, .int .i64 0, .int .i64 0, .bool false, .int .i64 0, .int .i64 0, .int .i64 0, .int .i64 0, .int .i64 0, .bool false, .int .i64 0, .bool false, .int .i64 0, .int .i64 0, .int .i64 0, .bool false, .int .i64 0, .int .i64 0, .int .i64 0] 38)
  obtain ⟨xb, hxb⟩ : ∃ b, b = W1.heap.size := ⟨_, rfl⟩
  have hxr : rx < xb := by rw [hxb]; exact (Array.getElem?_eq_some_iff.1 K1).1
  have hwx : w.heap.size ≤ xb := by omega
  have hrbx : rb < xb := by omega
  have KY0 := Lib.hid (stays K1 B2)
  rw [← hxb] at K2
  have KX0 := Lib.hid K2
  have D1 := Lib.hid (rd_Str rb vb l s _ JX0.out.st (JX0.out.bts HB.out) hat hl)
  rw [← hT1] at D1
  have HXB := Lib.hid hxb
  clear hW1 hrx hb hc hat hl K1 K2 B1 B2 J0 hxb hT1
  go_enter Tryd.func72, Tryd.ntmps72
  go_upto_region 1 with (fail)
  rw [← HW1.out, ← HRX.out]
  refine wp_region_lit ?_
  refine wpList_run (v := .agg #[.string ⟨#[]⟩, .int .i64 0, .int .i64 0, .bool false, .int .i64 0, .int .i64 0, .int .i64 0, .int .i64 0, .int .i64 0, .bool false, .int .i64 0, .bool false, .int .i64 0, .int .i64 0, .int .i64 0, .bool false, .int .i64 0, .int .i64 0, .int .i64 0]) (w' := W1) rfl (by kernel_rfl) ?_
  refine wpList_run (v := .pointer (some ⟨W1.heap.size, 0, none⟩)) (w' := W1.alloc (.cells #[.string ⟨#[]⟩, .int .i64 0, .int .i64 0, .bool false, .int .i64 0, .int .i64 0, .int .i64 0, .int .i64 0, .int .i64 0, .bool false, .int .i64 0, .bool false, .int .i64 0, .int .i64 0, .int .i64 0, .bool false, .int .i64 0, .int .i64 0, .int .i64 0] 38)) rfl (by kernel_rfl) ?_
  refine wpList_store_new rfl rfl 38 _ _ rfl W1 #[.string ⟨#[]⟩, .int .i64 0, .int .i64 0, .bool false, .int .i64 0, .int .i64 0, .int .i64 0, .int .i64 0, .int .i64 0, .bool false, .int .i64 0, .bool false, .int .i64 0, .int .i64 0, .int .i64 0, .bool false, .int .i64 0, .int .i64 0, .int .i64 0] #[.string ⟨#[]⟩, .int .i64 0, .int .i64 0, .bool false, .int .i64 0, .int .i64 0, .int .i64 0, .int .i64 0, .int .i64 0, .bool false, .int .i64 0, .bool false, .int .i64 0, .int .i64 0, .int .i64 0, .bool false, .int .i64 0, .int .i64 0, .int .i64 0] (by kernel_rfl) (by kernel_rfl) (by kernel_rfl) rfl (by simp [Value.oneCell']) ?_
  refine wpList_nil ?_
  go_simp
  go_wp2_with (fail)
  with_reducible refine D1.out.mono ?_
  rintro e w1 hp1
  have hx1 := hp1.1
  subst hx1
  simp only [← HXB.out]
  have JX1 := Lib.hid ((JX0.out.next hp1).set (g := xb) hwx 0 (.string ⟨T1.1.text.toArray⟩))
  have KX1' := hp1.at.kept KX0.out (by omega)
  have KX1 : Hid ((w1.setCell ⟨xb, 0, none⟩ (.string ⟨T1.1.text.toArray⟩)).heap[xb]? = some (.cells #[.string ⟨T1.1.text.toArray⟩, .int .i64 0, .int .i64 0, .bool false, .int .i64 0, .int .i64 0, .int .i64 0, .int .i64 0, .int .i64 0, .bool false, .int .i64 0, .bool false, .int .i64 0, .int .i64 0, .int .i64 0, .bool false, .int .i64 0, .int .i64 0, .int .i64 0] 38 (0, 0))) := Lib.hid (set_block w1 xb 0 _ _ (.string ⟨T1.1.text.toArray⟩) KX1')
  have KY1 := Lib.hid ((set_other w1 xb 0 rx (.string ⟨T1.1.text.toArray⟩) (by omega)).trans (hp1.at.kept KY0.out (by omega)))
  have f1 : w1.cell? ⟨xb, 0, none⟩ = some (.string ⟨#[]⟩) := cell_of_row _ _ 0 _ _ _ KX1'
  have z1 : w1.frozen? ⟨xb, 0, none⟩ = false := frozen_of_row _ _ 0 _ _ KX1'
  have D2 := Lib.hid (rd_Whole rb vb l T1.2 _ JX1.out.st (JX1.out.bts HB.out))
  rw [← HT2.out] at D2
  clear hp1 D1 JX0 KX0 KY0 KX1'
  go_wp2_with (fail)
  with_reducible refine D2.out.mono ?_
  rintro e w2 hp2
  have hx2 := hp2.1
  subst hx2
  have JX2 := Lib.hid ((JX1.out.next hp2).set (g := xb) hwx 1 (.int .i64 T2.1.num))
  have KX2' := hp2.at.kept KX1.out (by omega)
  have KX2 : Hid ((w2.setCell ⟨xb, 1, none⟩ (.int .i64 T2.1.num)).heap[xb]? = some (.cells #[.string ⟨T1.1.text.toArray⟩, .int .i64 T2.1.num, .int .i64 0, .bool false, .int .i64 0, .int .i64 0, .int .i64 0, .int .i64 0, .int .i64 0, .bool false, .int .i64 0, .bool false, .int .i64 0, .int .i64 0, .int .i64 0, .bool false, .int .i64 0, .int .i64 0, .int .i64 0] 38 (0, 0))) := Lib.hid (set_block w2 xb 1 _ _ (.int .i64 T2.1.num) KX2')
  have KY2 := Lib.hid ((set_other w2 xb 1 rx (.int .i64 T2.1.num) (by omega)).trans (hp2.at.kept KY1.out (by omega)))
  have f2 : w2.cell? ⟨xb, 1, none⟩ = some (.int .i64 0) := cell_of_row _ _ 1 _ _ _ KX2'
  have z2 : w2.frozen? ⟨xb, 1, none⟩ = false := frozen_of_row _ _ 1 _ _ KX2'
  have D3 := Lib.hid (rd_small rb vb l T2.2 _ JX2.out.st (JX2.out.bts HB.out))
  rw [← HT3.out] at D3
  clear hp2 D2 JX1 KX1 KY1 KX2' f1 z1
  go_wp2_with (fail)
  with_reducible refine D3.out.mono ?_
  rintro e w3 hp3
  have hx3 := hp3.1
  subst hx3
  have JX3 := Lib.hid ((JX2.out.next hp3).set (g := xb) hwx 2 (.int .i64 (smallR T3.1.num)))
  have KX3' := hp3.at.kept KX2.out (by omega)
  have KX3 : Hid ((w3.setCell ⟨xb, 2, none⟩ (.int .i64 (smallR T3.1.num))).heap[xb]? = some (.cells #[.string ⟨T1.1.text.toArray⟩, .int .i64 T2.1.num, .int .i64 (smallR T3.1.num), .bool false, .int .i64 0, .int .i64 0, .int .i64 0, .int .i64 0, .int .i64 0, .bool false, .int .i64 0, .bool false, .int .i64 0, .int .i64 0, .int .i64 0, .bool false, .int .i64 0, .int .i64 0, .int .i64 0] 38 (0, 0))) := Lib.hid (set_block w3 xb 2 _ _ (.int .i64 (smallR T3.1.num)) KX3')
  have KY3 := Lib.hid ((set_other w3 xb 2 rx (.int .i64 (smallR T3.1.num)) (by omega)).trans (hp3.at.kept KY2.out (by omega)))
  have f3 : w3.cell? ⟨xb, 2, none⟩ = some (.int .i64 0) := cell_of_row _ _ 2 _ _ _ KX3'
  have z3 : w3.frozen? ⟨xb, 2, none⟩ = false := frozen_of_row _ _ 2 _ _ KX3'
  have D4 := Lib.hid (rd_Truth rb vb l T3.2 _ JX3.out.st (JX3.out.bts HB.out))
  rw [← HT4.out] at D4
  clear hp3 D3 JX2 KX2 KY2 KX3' f2 z2
  go_wp2_with (fail)
  with_reducible refine D4.out.mono ?_
  rintro e w4 hp4
  have hx4 := hp4.1
  subst hx4
  have JX4 := Lib.hid ((JX3.out.next hp4).set (g := xb) hwx 3 (.bool T4.1.is_))
  have KX4' := hp4.at.kept KX3.out (by omega)
  have KX4 : Hid ((w4.setCell ⟨xb, 3, none⟩ (.bool T4.1.is_)).heap[xb]? = some (.cells #[.string ⟨T1.1.text.toArray⟩, .int .i64 T2.1.num, .int .i64 (smallR T3.1.num), .bool T4.1.is_, .int .i64 0, .int .i64 0, .int .i64 0, .int .i64 0, .int .i64 0, .bool false, .int .i64 0, .bool false, .int .i64 0, .int .i64 0, .int .i64 0, .bool false, .int .i64 0, .int .i64 0, .int .i64 0] 38 (0, 0))) := Lib.hid (set_block w4 xb 3 _ _ (.bool T4.1.is_) KX4')
  have KY4 := Lib.hid ((set_other w4 xb 3 rx (.bool T4.1.is_) (by omega)).trans (hp4.at.kept KY3.out (by omega)))
  have f4 : w4.cell? ⟨xb, 3, none⟩ = some (.bool false) := cell_of_row _ _ 3 _ _ _ KX4'
  have z4 : w4.frozen? ⟨xb, 3, none⟩ = false := frozen_of_row _ _ 3 _ _ KX4'
  have D5 := Lib.hid (rd_small rb vb l T4.2 _ JX4.out.st (JX4.out.bts HB.out))
  rw [← HT5.out] at D5
  clear hp4 D4 JX3 KX3 KY3 KX4' f3 z3
  go_wp2_with (fail)
  with_reducible refine D5.out.mono ?_
  rintro e w5 hp5
  have hx5 := hp5.1
  subst hx5
  have JX5 := Lib.hid ((JX4.out.next hp5).set (g := xb) hwx 4 (.int .i64 (smallR T5.1.num)))
  have KX5' := hp5.at.kept KX4.out (by omega)
  have KX5 : Hid ((w5.setCell ⟨xb, 4, none⟩ (.int .i64 (smallR T5.1.num))).heap[xb]? = some (.cells #[.string ⟨T1.1.text.toArray⟩, .int .i64 T2.1.num, .int .i64 (smallR T3.1.num), .bool T4.1.is_, .int .i64 (smallR T5.1.num), .int .i64 0, .int .i64 0, .int .i64 0, .int .i64 0, .bool false, .int .i64 0, .bool false, .int .i64 0, .int .i64 0, .int .i64 0, .bool false, .int .i64 0, .int .i64 0, .int .i64 0] 38 (0, 0))) := Lib.hid (set_block w5 xb 4 _ _ (.int .i64 (smallR T5.1.num)) KX5')
  have KY5 := Lib.hid ((set_other w5 xb 4 rx (.int .i64 (smallR T5.1.num)) (by omega)).trans (hp5.at.kept KY4.out (by omega)))
  have f5 : w5.cell? ⟨xb, 4, none⟩ = some (.int .i64 0) := cell_of_row _ _ 4 _ _ _ KX5'
  have z5 : w5.frozen? ⟨xb, 4, none⟩ = false := frozen_of_row _ _ 4 _ _ KX5'
  have D6 := Lib.hid (rd_Whole rb vb l T5.2 _ JX5.out.st (JX5.out.bts HB.out))
  rw [← HT6.out] at D6
  clear hp5 D5 JX4 KX4 KY4 KX5' f4 z4
  go_wp2_with (fail)
  with_reducible refine D6.out.mono ?_
  rintro e w6 hp6
  have hx6 := hp6.1
  subst hx6
  have JX6 := Lib.hid ((JX5.out.next hp6).set (g := xb) hwx 5 (.int .i64 T6.1.num))
  have KX6' := hp6.at.kept KX5.out (by omega)
  have KX6 : Hid ((w6.setCell ⟨xb, 5, none⟩ (.int .i64 T6.1.num)).heap[xb]? = some (.cells #[.string ⟨T1.1.text.toArray⟩, .int .i64 T2.1.num, .int .i64 (smallR T3.1.num), .bool T4.1.is_, .int .i64 (smallR T5.1.num), .int .i64 T6.1.num, .int .i64 0, .int .i64 0, .int .i64 0, .bool false, .int .i64 0, .bool false, .int .i64 0, .int .i64 0, .int .i64 0, .bool false, .int .i64 0, .int .i64 0, .int .i64 0] 38 (0, 0))) := Lib.hid (set_block w6 xb 5 _ _ (.int .i64 T6.1.num) KX6')
  have KY6 := Lib.hid ((set_other w6 xb 5 rx (.int .i64 T6.1.num) (by omega)).trans (hp6.at.kept KY5.out (by omega)))
  have f6 : w6.cell? ⟨xb, 5, none⟩ = some (.int .i64 0) := cell_of_row _ _ 5 _ _ _ KX6'
  have z6 : w6.frozen? ⟨xb, 5, none⟩ = false := frozen_of_row _ _ 5 _ _ KX6'
  have D7 := Lib.hid (rd_Whole rb vb l T6.2 _ JX6.out.st (JX6.out.bts HB.out))
  rw [← HT7.out] at D7
  clear hp6 D6 JX5 KX5 KY5 KX6' f5 z5
  go_wp2_with (fail)
  with_reducible refine D7.out.mono ?_
  rintro e w7 hp7
  have hx7 := hp7.1
  subst hx7
  have JX7 := Lib.hid ((JX6.out.next hp7).set (g := xb) hwx 6 (.int .i64 T7.1.num))
  have KX7' := hp7.at.kept KX6.out (by omega)
  have KX7 : Hid ((w7.setCell ⟨xb, 6, none⟩ (.int .i64 T7.1.num)).heap[xb]? = some (.cells #[.string ⟨T1.1.text.toArray⟩, .int .i64 T2.1.num, .int .i64 (smallR T3.1.num), .bool T4.1.is_, .int .i64 (smallR T5.1.num), .int .i64 T6.1.num, .int .i64 T7.1.num, .int .i64 0, .int .i64 0, .bool false, .int .i64 0, .bool false, .int .i64 0, .int .i64 0, .int .i64 0, .bool false, .int .i64 0, .int .i64 0, .int .i64 0] 38 (0, 0))) := Lib.hid (set_block w7 xb 6 _ _ (.int .i64 T7.1.num) KX7')
  have KY7 := Lib.hid ((set_other w7 xb 6 rx (.int .i64 T7.1.num) (by omega)).trans (hp7.at.kept KY6.out (by omega)))
  have f7 : w7.cell? ⟨xb, 6, none⟩ = some (.int .i64 0) := cell_of_row _ _ 6 _ _ _ KX7'
  have z7 : w7.frozen? ⟨xb, 6, none⟩ = false := frozen_of_row _ _ 6 _ _ KX7'
  have D8 := Lib.hid (rd_small rb vb l T7.2 _ JX7.out.st (JX7.out.bts HB.out))
  rw [← HT8.out] at D8
  clear hp7 D7 JX6 KX6 KY6 KX7' f6 z6
  go_wp2_with (fail)
  with_reducible refine D8.out.mono ?_
  rintro e w8 hp8
  have hx8 := hp8.1
  subst hx8
  have JX8 := Lib.hid ((JX7.out.next hp8).set (g := xb) hwx 7 (.int .i64 (smallR T8.1.num)))
  have KX8' := hp8.at.kept KX7.out (by omega)
  have KX8 : Hid ((w8.setCell ⟨xb, 7, none⟩ (.int .i64 (smallR T8.1.num))).heap[xb]? = some (.cells #[.string ⟨T1.1.text.toArray⟩, .int .i64 T2.1.num, .int .i64 (smallR T3.1.num), .bool T4.1.is_, .int .i64 (smallR T5.1.num), .int .i64 T6.1.num, .int .i64 T7.1.num, .int .i64 (smallR T8.1.num), .int .i64 0, .bool false, .int .i64 0, .bool false, .int .i64 0, .int .i64 0, .int .i64 0, .bool false, .int .i64 0, .int .i64 0, .int .i64 0] 38 (0, 0))) := Lib.hid (set_block w8 xb 7 _ _ (.int .i64 (smallR T8.1.num)) KX8')
  have KY8 := Lib.hid ((set_other w8 xb 7 rx (.int .i64 (smallR T8.1.num)) (by omega)).trans (hp8.at.kept KY7.out (by omega)))
  have f8 : w8.cell? ⟨xb, 7, none⟩ = some (.int .i64 0) := cell_of_row _ _ 7 _ _ _ KX8'
  have z8 : w8.frozen? ⟨xb, 7, none⟩ = false := frozen_of_row _ _ 7 _ _ KX8'
  have D9 := Lib.hid (rd_Int rb vb l T8.2 _ JX8.out.st (JX8.out.bts HB.out))
  rw [← HT9.out] at D9
  clear hp8 D8 JX7 KX7 KY7 KX8' f7 z7
  go_wp2_with (fail)
  with_reducible refine D9.out.mono ?_
  rintro e w9 hp9
  have hx9 := hp9.1
  subst hx9
  have JX9 := Lib.hid ((JX8.out.next hp9).set (g := xb) hwx 8 (.int .i64 T9.1.num))
  have KX9' := hp9.at.kept KX8.out (by omega)
  have KX9 : Hid ((w9.setCell ⟨xb, 8, none⟩ (.int .i64 T9.1.num)).heap[xb]? = some (.cells #[.string ⟨T1.1.text.toArray⟩, .int .i64 T2.1.num, .int .i64 (smallR T3.1.num), .bool T4.1.is_, .int .i64 (smallR T5.1.num), .int .i64 T6.1.num, .int .i64 T7.1.num, .int .i64 (smallR T8.1.num), .int .i64 T9.1.num, .bool false, .int .i64 0, .bool false, .int .i64 0, .int .i64 0, .int .i64 0, .bool false, .int .i64 0, .int .i64 0, .int .i64 0] 38 (0, 0))) := Lib.hid (set_block w9 xb 8 _ _ (.int .i64 T9.1.num) KX9')
  have KY9 := Lib.hid ((set_other w9 xb 8 rx (.int .i64 T9.1.num) (by omega)).trans (hp9.at.kept KY8.out (by omega)))
  have f9 : w9.cell? ⟨xb, 8, none⟩ = some (.int .i64 0) := cell_of_row _ _ 8 _ _ _ KX9'
  have z9 : w9.frozen? ⟨xb, 8, none⟩ = false := frozen_of_row _ _ 8 _ _ KX9'
  have D10 := Lib.hid (rd_Truth rb vb l T9.2 _ JX9.out.st (JX9.out.bts HB.out))
  rw [← HT10.out] at D10
  clear hp9 D9 JX8 KX8 KY8 KX9' f8 z8
  go_wp2_with (fail)
  with_reducible refine D10.out.mono ?_
  rintro e w10 hp10
  have hx10 := hp10.1
  subst hx10
  have JX10 := Lib.hid ((JX9.out.next hp10).set (g := xb) hwx 9 (.bool T10.1.is_))
  have KX10' := hp10.at.kept KX9.out (by omega)
  have KX10 : Hid ((w10.setCell ⟨xb, 9, none⟩ (.bool T10.1.is_)).heap[xb]? = some (.cells #[.string ⟨T1.1.text.toArray⟩, .int .i64 T2.1.num, .int .i64 (smallR T3.1.num), .bool T4.1.is_, .int .i64 (smallR T5.1.num), .int .i64 T6.1.num, .int .i64 T7.1.num, .int .i64 (smallR T8.1.num), .int .i64 T9.1.num, .bool T10.1.is_, .int .i64 0, .bool false, .int .i64 0, .int .i64 0, .int .i64 0, .bool false, .int .i64 0, .int .i64 0, .int .i64 0] 38 (0, 0))) := Lib.hid (set_block w10 xb 9 _ _ (.bool T10.1.is_) KX10')
  have KY10 := Lib.hid ((set_other w10 xb 9 rx (.bool T10.1.is_) (by omega)).trans (hp10.at.kept KY9.out (by omega)))
  have f10 : w10.cell? ⟨xb, 9, none⟩ = some (.bool false) := cell_of_row _ _ 9 _ _ _ KX10'
  have z10 : w10.frozen? ⟨xb, 9, none⟩ = false := frozen_of_row _ _ 9 _ _ KX10'
  have D11 := Lib.hid (rd_Int rb vb l T10.2 _ JX10.out.st (JX10.out.bts HB.out))
  rw [← HT11.out] at D11
  clear hp10 D10 JX9 KX9 KY9 KX10' f9 z9
  go_wp2_with (fail)
  with_reducible refine D11.out.mono ?_
  rintro e w11 hp11
  have hx11 := hp11.1
  subst hx11
  have JX11 := Lib.hid ((JX10.out.next hp11).set (g := xb) hwx 10 (.int .i64 T11.1.num))
  have KX11' := hp11.at.kept KX10.out (by omega)
  have KX11 : Hid ((w11.setCell ⟨xb, 10, none⟩ (.int .i64 T11.1.num)).heap[xb]? = some (.cells #[.string ⟨T1.1.text.toArray⟩, .int .i64 T2.1.num, .int .i64 (smallR T3.1.num), .bool T4.1.is_, .int .i64 (smallR T5.1.num), .int .i64 T6.1.num, .int .i64 T7.1.num, .int .i64 (smallR T8.1.num), .int .i64 T9.1.num, .bool T10.1.is_, .int .i64 T11.1.num, .bool false, .int .i64 0, .int .i64 0, .int .i64 0, .bool false, .int .i64 0, .int .i64 0, .int .i64 0] 38 (0, 0))) := Lib.hid (set_block w11 xb 10 _ _ (.int .i64 T11.1.num) KX11')
  have KY11 := Lib.hid ((set_other w11 xb 10 rx (.int .i64 T11.1.num) (by omega)).trans (hp11.at.kept KY10.out (by omega)))
  have f11 : w11.cell? ⟨xb, 10, none⟩ = some (.int .i64 0) := cell_of_row _ _ 10 _ _ _ KX11'
  have z11 : w11.frozen? ⟨xb, 10, none⟩ = false := frozen_of_row _ _ 10 _ _ KX11'
  have D12 := Lib.hid (rd_ext rb vb l T11.2 _ JX11.out.st (JX11.out.bts HB.out))
  rw [← HE1.out] at D12
  dsimp only at D12
  clear hp11 D11 JX10 KX10 KY10 KX11' f10 z10
  go_wp2_with (fail)
  with_reducible refine D12.out.mono ?_
  rintro e w12 hp12
  have hx12 := hp12.1
  subst hx12
  have KX12' := hp12.at.kept KX11.out (by omega)
  have JX12 := Lib.hid ((((((JX11.out.next hp12).set (g := xb) hwx 11 (.bool b1)).set (g := xb) hwx 12 (.int .i64 c1)).set (g := xb) hwx 13 (.int .i64 o1)).set (g := xb) hwx 14 (.int .i64 a1)))
  have KX12 : Hid (((((w12.setCell ⟨xb, 11, none⟩ (.bool b1)).setCell ⟨xb, 12, none⟩ (.int .i64 c1)).setCell ⟨xb, 13, none⟩ (.int .i64 o1)).setCell ⟨xb, 14, none⟩ (.int .i64 a1)).heap[xb]? = some (.cells #[.string ⟨T1.1.text.toArray⟩, .int .i64 T2.1.num, .int .i64 (smallR T3.1.num), .bool T4.1.is_, .int .i64 (smallR T5.1.num), .int .i64 T6.1.num, .int .i64 T7.1.num, .int .i64 (smallR T8.1.num), .int .i64 T9.1.num, .bool T10.1.is_, .int .i64 T11.1.num, .bool b1, .int .i64 c1, .int .i64 o1, .int .i64 a1, .bool false, .int .i64 0, .int .i64 0, .int .i64 0] 38 (0, 0))) := Lib.hid ((set_block _ xb 14 _ _ (.int .i64 a1) (set_block _ xb 13 _ _ (.int .i64 o1) (set_block _ xb 12 _ _ (.int .i64 c1) (set_block _ xb 11 _ _ (.bool b1) KX12')))))
  have KY12 := Lib.hid (((set_other (((w12.setCell ⟨xb, 11, none⟩ (.bool b1)).setCell ⟨xb, 12, none⟩ (.int .i64 c1)).setCell ⟨xb, 13, none⟩ (.int .i64 o1)) xb 14 rx (.int .i64 a1) (by omega)).trans ((set_other ((w12.setCell ⟨xb, 11, none⟩ (.bool b1)).setCell ⟨xb, 12, none⟩ (.int .i64 c1)) xb 13 rx (.int .i64 o1) (by omega)).trans ((set_other (w12.setCell ⟨xb, 11, none⟩ (.bool b1)) xb 12 rx (.int .i64 c1) (by omega)).trans ((set_other w12 xb 11 rx (.bool b1) (by omega)).trans (hp12.at.kept KY11.out (by omega)))))))
  have f120 : w12.cell? ⟨xb, 11, none⟩ = some (.bool false) := cell_of_row _ _ 11 _ _ _ KX12'
  have z120 : w12.frozen? ⟨xb, 11, none⟩ = false := frozen_of_row _ _ 11 _ _ KX12'
  have f121 : w12.cell? ⟨xb, 12, none⟩ = some (.int .i64 0) := cell_of_row _ _ 12 _ _ _ KX12'
  have z121 : w12.frozen? ⟨xb, 12, none⟩ = false := frozen_of_row _ _ 12 _ _ KX12'
  have f122 : w12.cell? ⟨xb, 13, none⟩ = some (.int .i64 0) := cell_of_row _ _ 13 _ _ _ KX12'
  have z122 : w12.frozen? ⟨xb, 13, none⟩ = false := frozen_of_row _ _ 13 _ _ KX12'
  have f123 : w12.cell? ⟨xb, 14, none⟩ = some (.int .i64 0) := cell_of_row _ _ 14 _ _ _ KX12'
  have z123 : w12.frozen? ⟨xb, 14, none⟩ = false := frozen_of_row _ _ 14 _ _ KX12'
  have D13 := Lib.hid (rd_ext rb vb l s1 _ JX12.out.st (JX12.out.bts HB.out))
  rw [← HE2.out] at D13
  dsimp only at D13
  clear hp12 D12 JX11 KX11 KY11 KX12' f11 z11
  go_wp2_with (fail)
  with_reducible refine D13.out.mono ?_
  rintro e w13 hp13
  have hx13 := hp13.1
  subst hx13
  have KX13' := hp13.at.kept KX12.out (by omega)
  have JX13 := Lib.hid ((((((JX12.out.next hp13).set (g := xb) hwx 15 (.bool b2)).set (g := xb) hwx 16 (.int .i64 c2)).set (g := xb) hwx 17 (.int .i64 o2)).set (g := xb) hwx 18 (.int .i64 a2)))
  have KX13 : Hid (((((w13.setCell ⟨xb, 15, none⟩ (.bool b2)).setCell ⟨xb, 16, none⟩ (.int .i64 c2)).setCell ⟨xb, 17, none⟩ (.int .i64 o2)).setCell ⟨xb, 18, none⟩ (.int .i64 a2)).heap[xb]? = some (.cells #[.string ⟨T1.1.text.toArray⟩, .int .i64 T2.1.num, .int .i64 (smallR T3.1.num), .bool T4.1.is_, .int .i64 (smallR T5.1.num), .int .i64 T6.1.num, .int .i64 T7.1.num, .int .i64 (smallR T8.1.num), .int .i64 T9.1.num, .bool T10.1.is_, .int .i64 T11.1.num, .bool b1, .int .i64 c1, .int .i64 o1, .int .i64 a1, .bool b2, .int .i64 c2, .int .i64 o2, .int .i64 a2] 38 (0, 0))) := Lib.hid ((set_block _ xb 18 _ _ (.int .i64 a2) (set_block _ xb 17 _ _ (.int .i64 o2) (set_block _ xb 16 _ _ (.int .i64 c2) (set_block _ xb 15 _ _ (.bool b2) KX13')))))
  have KY13 := Lib.hid (((set_other (((w13.setCell ⟨xb, 15, none⟩ (.bool b2)).setCell ⟨xb, 16, none⟩ (.int .i64 c2)).setCell ⟨xb, 17, none⟩ (.int .i64 o2)) xb 18 rx (.int .i64 a2) (by omega)).trans ((set_other ((w13.setCell ⟨xb, 15, none⟩ (.bool b2)).setCell ⟨xb, 16, none⟩ (.int .i64 c2)) xb 17 rx (.int .i64 o2) (by omega)).trans ((set_other (w13.setCell ⟨xb, 15, none⟩ (.bool b2)) xb 16 rx (.int .i64 c2) (by omega)).trans ((set_other w13 xb 15 rx (.bool b2) (by omega)).trans (hp13.at.kept KY12.out (by omega)))))))
  have f130 : w13.cell? ⟨xb, 15, none⟩ = some (.bool false) := cell_of_row _ _ 15 _ _ _ KX13'
  have z130 : w13.frozen? ⟨xb, 15, none⟩ = false := frozen_of_row _ _ 15 _ _ KX13'
  have f131 : w13.cell? ⟨xb, 16, none⟩ = some (.int .i64 0) := cell_of_row _ _ 16 _ _ _ KX13'
  have z131 : w13.frozen? ⟨xb, 16, none⟩ = false := frozen_of_row _ _ 16 _ _ KX13'
  have f132 : w13.cell? ⟨xb, 17, none⟩ = some (.int .i64 0) := cell_of_row _ _ 17 _ _ _ KX13'
  have z132 : w13.frozen? ⟨xb, 17, none⟩ = false := frozen_of_row _ _ 17 _ _ KX13'
  have f133 : w13.cell? ⟨xb, 18, none⟩ = some (.int .i64 0) := cell_of_row _ _ 18 _ _ _ KX13'
  have z133 : w13.frozen? ⟨xb, 18, none⟩ = false := frozen_of_row _ _ 18 _ _ KX13'
  clear hp13 D13 JX12 KX12 KY12 KX13' f120 z120 f121 z121 f122 z122 f123 z123
  go_upto_region 15 with (fail)
  generalize ((((w13.setCell ⟨xb, 15, none⟩ (.bool b2)).setCell ⟨xb, 16, none⟩ (.int .i64 c2)).setCell ⟨xb, 17, none⟩ (.int .i64 o2)).setCell ⟨xb, 18, none⟩ (.int .i64 a2)) = WF at *
  refine wp_region_lit ?_
  refine wpList_run (w' := WF) rfl (exec_load_row 38 _ rfl xb _ _ (.struct (Tryd.prog.fieldsOf 38)) rfl KX13.out (by kernel_rfl) rfl (by kernel_rfl)) ?_
  refine wpList_skip (w' := WF.setCells rx 0 [.string ⟨T1.1.text.toArray⟩, .int .i64 T2.1.num, .int .i64 (smallR T3.1.num), .bool T4.1.is_, .int .i64 (smallR T5.1.num), .int .i64 T6.1.num, .int .i64 T7.1.num, .int .i64 (smallR T8.1.num), .int .i64 T9.1.num, .bool T10.1.is_, .int .i64 T11.1.num, .bool b1, .int .i64 c1, .int .i64 o1, .int .i64 a1, .bool b2, .int .i64 c2, .int .i64 o2, .int .i64 a2]) rfl rfl (exec_store 38 _ _ rfl _ _ rfl rfl (run_store_row _ rx 0 _ _ 38 #[.string ⟨T1.1.text.toArray⟩, .int .i64 T2.1.num, .int .i64 (smallR T3.1.num), .bool T4.1.is_, .int .i64 (smallR T5.1.num), .int .i64 T6.1.num, .int .i64 T7.1.num, .int .i64 (smallR T8.1.num), .int .i64 T9.1.num, .bool T10.1.is_, .int .i64 T11.1.num, .bool b1, .int .i64 c1, .int .i64 o1, .int .i64 a1, .bool b2, .int .i64 c2, .int .i64 o2, .int .i64 a2] KY13.out (by simp) (by kernel_rfl) (by simp [Value.oneCell']))) ?_
  refine wpList_nil ?_
  go_simp
  have hrw : w.heap.size ≤ rx := by rw [HRX.out]; exact Nat.le_refl _
  have J14 := RdAt.sets hrw [.string ⟨T1.1.text.toArray⟩, .int .i64 T2.1.num, .int .i64 (smallR T3.1.num), .bool T4.1.is_, .int .i64 (smallR T5.1.num), .int .i64 T6.1.num, .int .i64 T7.1.num, .int .i64 (smallR T8.1.num), .int .i64 T9.1.num, .bool T10.1.is_, .int .i64 T11.1.num, .bool b1, .int .i64 c1, .int .i64 o1, .int .i64 a1, .bool b2, .int .i64 c2, .int .i64 o2, .int .i64 a2] 0 WF JX13.out
  have K14 := setCells_block 38 rx [.string ⟨T1.1.text.toArray⟩, .int .i64 T2.1.num, .int .i64 (smallR T3.1.num), .bool T4.1.is_, .int .i64 (smallR T5.1.num), .int .i64 T6.1.num, .int .i64 T7.1.num, .int .i64 (smallR T8.1.num), .int .i64 T9.1.num, .bool T10.1.is_, .int .i64 T11.1.num, .bool b1, .int .i64 c1, .int .i64 o1, .int .i64 a1, .bool b2, .int .i64 c2, .int .i64 o2, .int .i64 a2] 0 _ WF KY13.out
  rw [splice19] at K14
  generalize WF.setCells rx 0 [.string ⟨T1.1.text.toArray⟩, .int .i64 T2.1.num, .int .i64 (smallR T3.1.num), .bool T4.1.is_, .int .i64 (smallR T5.1.num), .int .i64 T6.1.num, .int .i64 T7.1.num, .int .i64 (smallR T8.1.num), .int .i64 T9.1.num, .bool T10.1.is_, .int .i64 T11.1.num, .bool b1, .int .i64 c1, .int .i64 o1, .int .i64 a1, .bool b2, .int .i64 c2, .int .i64 o2, .int .i64 a2] = WG at *
  have HJ14 := Lib.hid J14
  have HK14 := Lib.hid K14
  clear J14 K14 KX13 KY13 JX13
  go_wp2_with (fail)
  refine bodyPost_ret (v := .agg #[.string ⟨T1.1.text.toArray⟩, .int .i64 T2.1.num, .int .i64 (smallR T3.1.num), .bool T4.1.is_, .int .i64 (smallR T5.1.num), .int .i64 T6.1.num, .int .i64 T7.1.num, .int .i64 (smallR T8.1.num), .int .i64 T9.1.num, .bool T10.1.is_, .int .i64 T11.1.num, .bool b1, .int .i64 c1, .int .i64 o1, .int .i64 a1, .bool b2, .int .i64 c2, .int .i64 o2, .int .i64 a2]) ?_ rfl ⟨rfl, HJ14.out⟩
  rw [results_cell1 (p := 2) (ty := 38) Tryd.results72]
  have hl := run_loadVar_row (P := Tryd.prog) WG rx 38 38 #[.string ⟨T1.1.text.toArray⟩, .int .i64 T2.1.num, .int .i64 (smallR T3.1.num), .bool T4.1.is_, .int .i64 (smallR T5.1.num), .int .i64 T6.1.num, .int .i64 T7.1.num, .int .i64 (smallR T8.1.num), .int .i64 T9.1.num, .bool T10.1.is_, .int .i64 T11.1.num, .bool b1, .int .i64 c1, .int .i64 o1, .int .i64 a1, .bool b2, .int .i64 c2, .int .i64 o2, .int .i64 a2] (0, 0) (.struct (Tryd.prog.fieldsOf 38)) HK14.out (by kernel_rfl) rfl (by kernel_rfl)
  exact hl
end Go.Proofs.YtgnpjenpehfjbaaDoor

