/- Reading a field: code's reader. -/
import Derived.Test.YtgnpjenpehfjbaaDoorCodeText
namespace Go.Proofs.YtgnpjenpehfjbaaDoor
open Go.RowKit

/-- number, text, truth of a field -/
structure Fld where
  kind : Int
  num : Int
  text : List UInt8
  is_ : Bool
deriving DecidableEq
def Fld.val (f : Fld) : Value := .agg #[.int .i64 f.kind, .int .i64 f.num, .string ⟨f.text.toArray⟩, .bool f.is_]
def unzig (x : Nat) : Int := if x % 2 = 0 then (x / 2 : Nat) else -((x / 2 : Nat) : Int) - 1

/-- the field, the place behind it, the code -/
def fieldR (l : List UInt8) (k : Int) (a : Nat) : Fld × Nat × Nat :=
  if k = 1 then
    (if (numR l 10 a 0).2.2 ≠ 0 then (⟨1, 0, [], false⟩, a, (numR l 10 a 0).2.2) else if 9223372036854775807 < (numR l 10 a 0).1 then (⟨1, 0, [], false⟩, a, 20) else (⟨1, (numR l 10 a 0).1, [], false⟩, (numR l 10 a 0).2.1, 0))
  else if k = 2 then
    (if (numR l 10 a 0).2.2 ≠ 0 then (⟨2, 0, [], false⟩, a, (numR l 10 a 0).2.2) else (⟨2, unzig (numR l 10 a 0).1, [], false⟩, (numR l 10 a 0).2.1, 0))
  else if k = 3 then
    (if (textR l a).2.2 ≠ 0 then (⟨3, 0, [], false⟩, a, (textR l a).2.2) else (⟨3, 0, (textR l a).1, false⟩, (textR l a).2.1, 0))
  else if k = 4 then
    (if l.length ≤ a then (⟨4, 0, [], false⟩, a, 21) else if 1 < (l.getD a 0).toNat then (⟨4, 0, [], false⟩, a, 20) else (⟨4, 0, [], (l.getD a 0).toNat == 1⟩, a + 1, 0))
  else (⟨k, 0, [], false⟩, a, 46)

abbrev FieldPost (rb : Nat) (vb : Value) (w : World) (T : Fld × Nat × Nat) (x : Ending) (w' : World) : Prop :=
  (T.2.2 = 0 ∧ x = .returned T.1.val ∧ Rd rb vb w w' T.2.1) ∨ (T.2.2 ≠ 0 ∧ x = gaveUp (T.2.2 : Int) ∧ ∃ a, Rd rb vb w w' a)

theorem Rd.fresh {rb : Nat} {vb : Value} {w w' : World} {a : Nat} (h : Rd rb vb w w' a) {g : Nat} (hg : w.heap.size ≤ g) (j : Nat) (v : Value) : Rd rb vb w (w'.setCell ⟨g, j, none⟩ v) a := by
  have := h.lt
  refine ⟨h.os, h.tape, h.output, by simpa [World.setCell] using h.size, fun k hk hne => ?_, ?_, h.lt⟩
  · rw [Below.heap_setCell _ _ _ _ (show k ≠ g by omega)]; exact h.block k hk hne
  · rw [Below.heap_setCell _ _ _ _ (show rb ≠ g by omega)]; exact h.cur

abbrev fldO (k : Int) : Obj := .cells #[.int .i64 k, .int .i64 0, .string ⟨#[]⟩, .bool false] 92 (0, 0)
/-- what the walk needs of the two new blocks -/
structure Two (w0 w : World) (k : Int) : Prop where
  a0 : w.cell? ⟨w0.heap.size, 0, none⟩ = some (.int .i64 0)
  a1 : w.cell? ⟨w0.heap.size, 1, none⟩ = some (.int .i64 0)
  a2 : w.cell? ⟨w0.heap.size, 2, none⟩ = some (.string ⟨#[]⟩)
  a3 : w.cell? ⟨w0.heap.size, 3, none⟩ = some (.bool false)
  b0 : w.cell? ⟨w0.heap.size + 1, 0, none⟩ = some (.int .i64 k)
  b1 : w.cell? ⟨w0.heap.size + 1, 1, none⟩ = some (.int .i64 0)
  b2 : w.cell? ⟨w0.heap.size + 1, 2, none⟩ = some (.string ⟨#[]⟩)
  b3 : w.cell? ⟨w0.heap.size + 1, 3, none⟩ = some (.bool false)
  fa : ∀ j, w.frozen? ⟨w0.heap.size, j, none⟩ = false
  fb : ∀ j, w.frozen? ⟨w0.heap.size + 1, j, none⟩ = false
theorem two_start (w : World) (k : Int) : ((w.alloc (fldO 0)).alloc (fldO k)).heap[w.heap.size]? = some (fldO 0) ∧ ((w.alloc (fldO 0)).alloc (fldO k)).heap[w.heap.size + 1]? = some (fldO k) := by
  have hs : (w.alloc (fldO 0)).heap.size = w.heap.size + 1 := by simp
  refine ⟨?_, ?_⟩
  · rw [Below.heap_alloc _ _ _ (by rw [hs]; omega), heap_alloc_new]
  · rw [← hs, heap_alloc_new]
theorem two_of {rb : Nat} {vb : Value} {w w3 : World} {a : Nat} {k : Int} (hrb : rb < w.heap.size) (h : Rd rb vb ((w.alloc (fldO 0)).alloc (fldO k)) w3 a) : Two w w3 k := by
  obtain ⟨h1, h2⟩ := two_start w k
  have hs : ((w.alloc (fldO 0)).alloc (fldO k)).heap.size = w.heap.size + 2 := by simp
  have e1 : w3.heap[w.heap.size]? = some (fldO 0) := (h.block _ (by rw [hs]; omega) (by omega)).trans h1
  have e2 : w3.heap[w.heap.size + 1]? = some (fldO k) := (h.block _ (by rw [hs]; omega) (by omega)).trans h2
  exact ⟨cell_of_row _ _ 0 _ _ _ e1, cell_of_row _ _ 1 _ _ _ e1, cell_of_row _ _ 2 _ _ _ e1, cell_of_row _ _ 3 _ _ _ e1, cell_of_row _ _ 0 _ _ _ e2, cell_of_row _ _ 1 _ _ _ e2, cell_of_row _ _ 2 _ _ _ e2, cell_of_row _ _ 3 _ _ _ e2,
    fun j => frozen_of_row _ _ j _ _ e1, fun j => frozen_of_row _ _ j _ _ e2⟩

set_option maxRecDepth 100000 in
set_option maxHeartbeats 1000000 in
theorem field_num (rb : Nat) (vb : Value) (l : List UInt8) (a : Nat) (w : World) (hc : w.heap[rb]? = some (curO vb a)) (hb : Bts w rb vb l) :
    Calls Tryd.prog 88 #[.pointer (some ⟨rb, 0, none⟩), .int .i64 1] w fun x w' => FieldPost rb vb w (fieldR l 1 a) x w' := by
  have hT : fieldR l 1 a = if (numR l 10 a 0).2.2 ≠ 0 then (⟨1, 0, [], false⟩, a, (numR l 10 a 0).2.2) else if 9223372036854775807 < (numR l 10 a 0).1 then (⟨1, 0, [], false⟩, a, 20) else (⟨1, (numR l 10 a 0).1, [], false⟩, (numR l 10 a 0).2.1, 0) := by
    unfold fieldR; rw [if_pos rfl]
  generalize fieldR l 1 a = T at *
  have HT := Lib.hid hT
  clear hT
  have HC := Lib.hid hc
  have HBB := Lib.hid hb
  clear hc hb
  go_enter Tryd.func88, Tryd.ntmps88
  go_wp2_with fail
  have hD0 : Rd rb vb w ((w.alloc (fldO 0)).alloc (fldO 1)) a := ((Rd.refl HC.out).alloc _).alloc _
  have hD00 : Rd rb vb ((w.alloc (fldO 0)).alloc (fldO 1)) ((w.alloc (fldO 0)).alloc (fldO 1)) a := Rd.refl hD0.cur
  have c1 := reader_number rb vb l a _ hD0.cur (hD0.bts HBB.out)
  have hlt := numR_lt l 9 a 0 (by decide) (by decide)
  generalize numR l 10 a 0 = R at *
  obtain ⟨x, a', e⟩ := R
  simp only at hlt
  refine c1.mono ?_
  rintro en w1 hp
  rcases hp with ⟨he, hx, hD⟩ | ⟨he, hx, b, hD⟩
  · simp only at he hx hD
    subst he hx
    have HD := Lib.hid (hD0.trans hD)
    obtain ⟨ha0, ha1, ha2, ha3, hb0, hb1, hb2, hb3, hfa, hfb⟩ := two_of (Array.getElem?_eq_some_iff.1 HC.out).1 hD
    clear hD hD0 hD00 c1
    by_cases hbig : 9223372036854775807 < x
    · have hT2 : Hid (T = (⟨1, 0, [], false⟩, a, 20)) := by show T = _; rw [HT.out, if_neg (by simp), if_pos hbig]
      clear HT
      go_wp2_with (go_at_call 91; refine (fail_calls _ _ _).mono ?_; rintro e w' ⟨rfl, rfl⟩)
      refine ⟨rfl, .inr ?_⟩
      rw [hT2.out]
      exact ⟨by simp, rfl, a', HD.out⟩
    · have hT2 : Hid (T = (⟨1, x, [], false⟩, a', 0)) := by show T = _; rw [HT.out, if_neg (by simp), if_neg hbig]
      clear HT
      go_wp2
      refine bodyPost_ret (v := Fld.val ⟨1, x, [], false⟩) (by simp [results, Tryd.results88, go_sem, Fld.val, *]) rfl (.inl ?_)
      rw [hT2.out]
      refine ⟨rfl, rfl, ?_⟩
      have hl1 : w.heap.size ≤ w.heap.size := Nat.le_refl _
      have hl2 : w.heap.size ≤ w.heap.size + 1 := Nat.le_succ _
      exact ((((HD.out.fresh hl2 1 _).fresh hl1 0 _).fresh hl1 1 _).fresh hl1 2 _).fresh hl1 3 _
  · simp only at he hx hD
    subst hx
    refine ⟨rfl, .inr ?_⟩
    rw [HT.out, if_pos he]
    exact ⟨he, rfl, b, hD0.trans hD⟩

theorem xor_i64_zero (m : Nat) (h1 : m < 9223372036854775808) : bits .xor .i64 (m : Int) 0 = m := by
  unfold bits
  rw [show (0 : Int) = ((0 : Nat) : Int) from rfl]
  have e : ∀ z : Nat, z < 9223372036854775808 → BitVec.ofInt IntKind.i64.bits (z : Int) = (BitVec.ofNat 64 z : BitVec 64) := by
    intro z hz
    apply BitVec.eq_of_toNat_eq
    show (BitVec.ofInt 64 (z : Int)).toNat = (BitVec.ofNat 64 z : BitVec 64).toNat
    rw [BitVec.toNat_ofInt, BitVec.toNat_ofNat]; omega
  rw [e m h1, e 0 (by decide)]
  show IntKind.i64.wrap (((BitVec.ofNat 64 m : BitVec 64) ^^^ (BitVec.ofNat 64 0 : BitVec 64)).toNat : Int) = _
  simp only [IntKind.wrap_i64]
  simp
  omega
theorem xor_i64_ones (m : Nat) (h1 : m < 9223372036854775808) : bits .xor .i64 (m : Int) (-1) = -(m : Int) - 1 := by
  unfold bits
  have e : BitVec.ofInt IntKind.i64.bits (m : Int) = (BitVec.ofNat 64 m : BitVec 64) := by
    apply BitVec.eq_of_toNat_eq
    show (BitVec.ofInt 64 (m : Int)).toNat = (BitVec.ofNat 64 m : BitVec 64).toNat
    rw [BitVec.toNat_ofInt, BitVec.toNat_ofNat]; omega
  have e2 : BitVec.ofInt IntKind.i64.bits (-1) = BitVec.allOnes 64 := by show BitVec.ofInt 64 (-1) = BitVec.allOnes 64; decide
  rw [e, e2]
  show IntKind.i64.wrap (((BitVec.ofNat 64 m : BitVec 64) ^^^ BitVec.allOnes 64).toNat : Int) = _
  rw [BitVec.xor_allOnes, BitVec.toNat_not, BitVec.toNat_ofNat, Nat.mod_eq_of_lt (by omega)]
  simp only [IntKind.wrap_i64]
  omega

set_option maxRecDepth 100000 in
set_option maxHeartbeats 1000000 in
theorem field_signed (rb : Nat) (vb : Value) (l : List UInt8) (a : Nat) (w : World) (hc : w.heap[rb]? = some (curO vb a)) (hb : Bts w rb vb l) :
    Calls Tryd.prog 88 #[.pointer (some ⟨rb, 0, none⟩), .int .i64 2] w fun x w' => FieldPost rb vb w (fieldR l 2 a) x w' := by
  have hT : fieldR l 2 a = if (numR l 10 a 0).2.2 ≠ 0 then (⟨2, 0, [], false⟩, a, (numR l 10 a 0).2.2) else (⟨2, unzig (numR l 10 a 0).1, [], false⟩, (numR l 10 a 0).2.1, 0) := by
    unfold fieldR; rw [if_neg (by decide), if_pos rfl]
  generalize fieldR l 2 a = T at *
  have HT := Lib.hid hT
  clear hT
  have HC := Lib.hid hc
  have HBB := Lib.hid hb
  clear hc hb
  go_enter Tryd.func88, Tryd.ntmps88
  go_wp2_with fail
  have hD0 : Rd rb vb w ((w.alloc (fldO 0)).alloc (fldO 2)) a := ((Rd.refl HC.out).alloc _).alloc _
  have c1 := reader_number rb vb l a _ hD0.cur (hD0.bts HBB.out)
  have hlt := numR_lt l 9 a 0 (by decide) (by decide)
  generalize numR l 10 a 0 = R at *
  obtain ⟨x, a', e⟩ := R
  simp only at hlt
  refine c1.mono ?_
  rintro en w1 hp
  rcases hp with ⟨he, hx, hD⟩ | ⟨he, hx, b, hD⟩
  · simp only at he hx hD
    subst he hx
    have HD := Lib.hid (hD0.trans hD)
    obtain ⟨ha0, ha1, ha2, ha3, hb0, hb1, hb2, hb3, hfa, hfb⟩ := two_of (Array.getElem?_eq_some_iff.1 HC.out).1 hD
    clear hD hD0 c1
    have hT2 : Hid (T = (⟨2, unzig x, [], false⟩, a', 0)) := by show T = _; rw [HT.out, if_neg (by simp)]
    clear HT
    have hand0 := bits_and_u64 x 1 hlt (by decide)
    rw [Nat.and_one_is_mod] at hand0
    by_cases hev : x % 2 = 0
    · have hand : bits .and .u64 (x : Int) 1 = 0 := by rw [hev] at hand0; exact hand0
      have hxor : bits .xor .i64 ((x : Int) / 2) 0 = unzig x := by
        have := xor_i64_zero (x / 2) (by omega)
        unfold unzig
        rw [if_pos hev, ← this]
        congr 1
      have HX := Lib.hid hev
      clear hand0 hev
      generalize unzig x = z at *
      go_wp2
      refine bodyPost_ret (v := Fld.val ⟨2, z, [], false⟩) (by simp [results, Tryd.results88, go_sem, Fld.val, *]) rfl (.inl ?_)
      rw [hT2.out]
      refine ⟨rfl, rfl, ?_⟩
      have hl1 : w.heap.size ≤ w.heap.size := Nat.le_refl _
      have hl2 : w.heap.size ≤ w.heap.size + 1 := Nat.le_succ _
      exact ((((HD.out.fresh hl2 1 _).fresh hl1 0 _).fresh hl1 1 _).fresh hl1 2 _).fresh hl1 3 _
    · have hev' : x % 2 = 1 := by omega
      have hand : bits .and .u64 (x : Int) 1 = 1 := by rw [hev'] at hand0; exact hand0
      have hxor : bits .xor .i64 ((x : Int) / 2) (-1) = unzig x := by
        have := xor_i64_ones (x / 2) (by omega)
        unfold unzig
        rw [if_neg hev, ← this]
        congr 1
      clear hand0 hev hev'
      generalize unzig x = z at *
      go_wp2
      refine bodyPost_ret (v := Fld.val ⟨2, z, [], false⟩) (by simp [results, Tryd.results88, go_sem, Fld.val, *]) rfl (.inl ?_)
      rw [hT2.out]
      refine ⟨rfl, rfl, ?_⟩
      have hl1 : w.heap.size ≤ w.heap.size := Nat.le_refl _
      have hl2 : w.heap.size ≤ w.heap.size + 1 := Nat.le_succ _
      exact ((((HD.out.fresh hl2 1 _).fresh hl1 0 _).fresh hl1 1 _).fresh hl1 2 _).fresh hl1 3 _
  · simp only at he hx hD
    subst hx
    refine ⟨rfl, .inr ?_⟩
    rw [HT.out, if_pos he]
    exact ⟨he, rfl, b, hD0.trans hD⟩

set_option maxRecDepth 100000 in
set_option maxHeartbeats 1000000 in
theorem field_text (rb : Nat) (vb : Value) (l : List UInt8) (a : Nat) (w : World) (hc : w.heap[rb]? = some (curO vb a)) (hb : Bts w rb vb l) (hat : a ≤ l.length) (hl : l.length ≤ 1000000000000) :
    Calls Tryd.prog 88 #[.pointer (some ⟨rb, 0, none⟩), .int .i64 3] w fun x w' => FieldPost rb vb w (fieldR l 3 a) x w' := by
  have hT : fieldR l 3 a = if (textR l a).2.2 ≠ 0 then (⟨3, 0, [], false⟩, a, (textR l a).2.2) else (⟨3, 0, (textR l a).1, false⟩, (textR l a).2.1, 0) := by
    unfold fieldR; rw [if_neg (by decide), if_neg (by decide), if_pos rfl]
  generalize fieldR l 3 a = T at *
  have HT := Lib.hid hT
  clear hT
  have HC := Lib.hid hc
  have HBB := Lib.hid hb
  clear hc hb
  go_enter Tryd.func88, Tryd.ntmps88
  go_wp2_with fail
  have hD0 : Rd rb vb w ((w.alloc (fldO 0)).alloc (fldO 3)) a := ((Rd.refl HC.out).alloc _).alloc _
  have c1 := reader_text rb vb l a _ hD0.cur (hD0.bts HBB.out) hat hl
  generalize textR l a = R at *
  obtain ⟨x, a', e⟩ := R
  refine c1.mono ?_
  rintro en w1 hp
  rcases hp with ⟨he, hx, hD⟩ | ⟨he, hx, b, hD⟩
  · simp only at he hx hD
    subst he hx
    have HD := Lib.hid (hD0.trans hD)
    obtain ⟨ha0, ha1, ha2, ha3, hb0, hb1, hb2, hb3, hfa, hfb⟩ := two_of (Array.getElem?_eq_some_iff.1 HC.out).1 hD
    clear hD hD0 c1
    have hT2 : Hid (T = (⟨3, 0, x, false⟩, a', 0)) := by show T = _; rw [HT.out, if_neg (by simp)]
    clear HT
    · go_wp2
      refine bodyPost_ret (v := Fld.val ⟨3, 0, x, false⟩) (by simp [results, Tryd.results88, go_sem, Fld.val, *]) rfl (.inl ?_)
      rw [hT2.out]
      refine ⟨rfl, rfl, ?_⟩
      have hl1 : w.heap.size ≤ w.heap.size := Nat.le_refl _
      have hl2 : w.heap.size ≤ w.heap.size + 1 := Nat.le_succ _
      exact ((((HD.out.fresh hl2 2 _).fresh hl1 0 _).fresh hl1 1 _).fresh hl1 2 _).fresh hl1 3 _
  · simp only at he hx hD
    subst hx
    refine ⟨rfl, .inr ?_⟩
    rw [HT.out, if_pos he]
    exact ⟨he, rfl, b, hD0.trans hD⟩

set_option maxRecDepth 100000 in
set_option maxHeartbeats 1000000 in
theorem field_flag (rb : Nat) (vb : Value) (l : List UInt8) (a : Nat) (w : World) (hc : w.heap[rb]? = some (curO vb a)) (hb : Bts w rb vb l) :
    Calls Tryd.prog 88 #[.pointer (some ⟨rb, 0, none⟩), .int .i64 4] w fun x w' => FieldPost rb vb w (fieldR l 4 a) x w' := by
  have hT : fieldR l 4 a = if l.length ≤ a then (⟨4, 0, [], false⟩, a, 21) else if 1 < (l.getD a 0).toNat then (⟨4, 0, [], false⟩, a, 20) else (⟨4, 0, [], (l.getD a 0).toNat == 1⟩, a + 1, 0) := by
    unfold fieldR; rw [if_neg (by decide), if_neg (by decide), if_neg (by decide), if_pos rfl]
  generalize fieldR l 4 a = T at *
  have HT := Lib.hid hT
  clear hT
  have HC := Lib.hid hc
  have HBB := Lib.hid hb
  clear hc hb
  go_enter Tryd.func88, Tryd.ntmps88
  go_wp2_with fail
  have hD0 : Rd rb vb w ((w.alloc (fldO 0)).alloc (fldO 4)) a := ((Rd.refl HC.out).alloc _).alloc _
  have hbr := hD0.bts HBB.out
  by_cases hat : l.length ≤ a
  · obtain ⟨ao, cap, hv, _⟩ := id hbr
    have c1 : Calls Tryd.prog 93 #[.pointer (some ⟨rb, 0, none⟩)] ((w.alloc (fldO 0)).alloc (fldO 4)) fun x w' => x = gaveUp 21 ∧ Rd rb vb ((w.alloc (fldO 0)).alloc (fldO 4)) w' a := by
      have := hD0.cur
      subst hv
      exact byte_end rb ao l.length cap a _ this hat
    refine c1.mono ?_
    rintro e w1 ⟨rfl, hD1⟩
    refine ⟨rfl, .inr ?_⟩
    rw [HT.out, if_pos hat]
    exact ⟨by simp, rfl, a, hD0.trans hD1⟩
  · have c1 := byte_ok rb vb l a _ hD0.cur hbr (by omega)
    refine c1.mono ?_
    rintro e w1 ⟨rfl, hD⟩
    have HD := Lib.hid (hD0.trans hD)
    obtain ⟨ha0, ha1, ha2, ha3, hb0, hb1, hb2, hb3, hfa, hfb⟩ := two_of (Array.getElem?_eq_some_iff.1 HC.out).1 hD
    clear hD hD0 c1 hbr
    by_cases hbig : 1 < (l.getD a 0).toNat
    · have hT2 : Hid (T = (⟨4, 0, [], false⟩, a, 20)) := by show T = _; rw [HT.out, if_neg hat, if_pos hbig]
      clear HT
      generalize l.getD a 0 = c at *
      go_wp2_with (go_at_call 91; refine (fail_calls _ _ _).mono ?_; rintro e w' ⟨rfl, rfl⟩)
      refine ⟨rfl, .inr ?_⟩
      rw [hT2.out]
      exact ⟨by simp, rfl, a + 1, HD.out⟩
    · have hT2 : Hid (T = (⟨4, 0, [], (l.getD a 0).toNat == 1⟩, a + 1, 0)) := by show T = _; rw [HT.out, if_neg hat, if_neg hbig]
      clear HT
      generalize l.getD a 0 = c at *
      have hbe : ((c.toNat : Int) == 1) = (c.toNat == 1) := by rw [Bool.eq_iff_iff, beq_iff_eq, beq_iff_eq]; omega
      generalize (c.toNat == 1) = bb at *
      go_wp2
      refine bodyPost_ret (v := Fld.val ⟨4, 0, [], bb⟩) (by simp [results, Tryd.results88, go_sem, Fld.val, *]) rfl (.inl ?_)
      rw [hT2.out]
      refine ⟨rfl, rfl, ?_⟩
      have hl1 : w.heap.size ≤ w.heap.size := Nat.le_refl _
      have hl2 : w.heap.size ≤ w.heap.size + 1 := Nat.le_succ _
      exact ((((HD.out.fresh hl2 3 _).fresh hl1 0 _).fresh hl1 1 _).fresh hl1 2 _).fresh hl1 3 _

set_option maxRecDepth 100000 in
set_option maxHeartbeats 1000000 in
theorem field_other (rb : Nat) (vb : Value) (l : List UInt8) (k : Int) (a : Nat) (w : World) (hc : w.heap[rb]? = some (curO vb a)) (h1 : k ≠ 1) (h2 : k ≠ 2) (h3 : k ≠ 3) (h4 : k ≠ 4) :
    Calls Tryd.prog 88 #[.pointer (some ⟨rb, 0, none⟩), .int .i64 k] w fun x w' => FieldPost rb vb w (fieldR l k a) x w' := by
  have hT : fieldR l k a = (⟨k, 0, [], false⟩, a, 46) := by
    unfold fieldR; rw [if_neg h1, if_neg h2, if_neg h3, if_neg h4]
  rw [hT]
  have HC := Lib.hid hc
  have e1 : (k == 1) = false := by simpa using h1
  have e2 : (k == 2) = false := by simpa using h2
  have e3 : (k == 3) = false := by simpa using h3
  have e4 : (k == 4) = false := by simpa using h4
  clear hc hT h1 h2 h3 h4
  go_enter Tryd.func88, Tryd.ntmps88
  go_wp2_with (go_at_call 91; refine (fail_calls _ _ _).mono ?_; rintro e w' ⟨rfl, rfl⟩)
  exact ⟨rfl, .inr ⟨by simp, rfl, a, ((Rd.refl HC.out).alloc _).alloc _⟩⟩

theorem reader_field (rb : Nat) (vb : Value) (l : List UInt8) (k : Int) (a : Nat) (w : World) (hc : w.heap[rb]? = some (curO vb a)) (hb : Bts w rb vb l) (hat : a ≤ l.length) (hl : l.length ≤ 1000000000000) :
    Calls Tryd.prog 88 #[.pointer (some ⟨rb, 0, none⟩), .int .i64 k] w fun x w' => FieldPost rb vb w (fieldR l k a) x w' := by
  by_cases h1 : k = 1
  · subst h1; exact field_num rb vb l a w hc hb
  · by_cases h2 : k = 2
    · subst h2; exact field_signed rb vb l a w hc hb
    · by_cases h3 : k = 3
      · subst h3; exact field_text rb vb l a w hc hb hat hl
      · by_cases h4 : k = 4
        · subst h4; exact field_flag rb vb l a w hc hb
        · exact field_other rb vb l k a w hc h1 h2 h3 h4

end Go.Proofs.YtgnpjenpehfjbaaDoor
