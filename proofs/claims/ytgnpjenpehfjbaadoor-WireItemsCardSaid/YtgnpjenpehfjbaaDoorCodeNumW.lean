/- Writing: the document's Number, Signed, Text, Flag, Size; code's Text and Flag. -/
import Derived.Test.YtgnpjenpehfjbaaDoorCodeNum2
import Derived.Lib.AppendStr
namespace Go.Proofs.YtgnpjenpehfjbaaDoor
open Go.RowKit

theorem and127_u64 (z : Nat) (hz : z < 18446744073709551616) : bits .and .u64 (z : Int) 127 = ((z % 128 : Nat) : Int) := by
  have h := bits_and_u64 z 127 hz (by decide)
  rw [show (127 : Nat) = 2 ^ 7 - 1 from rfl, Nat.and_two_pow_sub_one_eq_mod] at h
  exact h
theorem or128_small (z : Nat) : bits .or .u8 ((z % 128 : Nat) : Int) 128 = ((UInt8.ofNat (z % 128 + 128)).toNat : Int) := by
  have h := or128_all ⟨z % 128, by omega⟩
  rw [h]
  have : (UInt8.ofNat (z % 128 + 128)).toNat = z % 128 + 128 := by simp; omega
  rw [this]
  show (((z % 128) % 128 + 128 : Nat) : Int) = _
  rw [Nat.mod_mod]

set_option maxRecDepth 100000 in
set_option maxHeartbeats 1000000 in
theorem ref_Number (v : Value) (l : List UInt8) (x : Nat) (w : World) (hx : x < 18446744073709551616) (hb : Bts w w.heap.size v l) (hl : l.length ≤ 1000000000000) :
    Calls Tryd.prog 38 #[v, .int .u64 (x : Int)] w fun e w' => ∃ v', e = .returned v' ∧ Own w' w.heap.size v' (l ++ vint x) ∧ Below w.heap.size w w' := by
  have HBB := Lib.hid hb
  clear hb
  go_enter Tryd.func38, Tryd.ntmps38
  go_wp2_with (at_builtin; (refine wpList_append_bts rfl _ _ rfl w.heap.size _ [] rfl (Own.nil _ _) v l w.heap.size rfl HBB.out (by simp; omega) (Nat.le_refl _) ?_))
  intro v1 w1 hown1 hg1 _
  have HO := Lib.hid hown1
  have HB1 := Lib.hid ((Below.refl w.heap.size w).grown hg1 (Nat.le_refl _) (fun k hk => by cases hk))
  clear hown1 hg1
  go_wp2_with fail
  go_loopw [5, 1] (fun b y wr => ∃ (f z : Nat) (pre : List UInt8), y = .int .u64 (z : Int) ∧ z < 18446744073709551616 ∧ Hid (z < 128 ^ f) ∧ Hid (pre ++ vintF f z = vint x) ∧ Hid (pre.length + f = 10) ∧ Hid (Own wr w.heap.size b (l ++ pre)) ∧ Hid (Below w.heap.size w wr)) (fun _ y _ => (intOf y).toNat)
  case atStart => exact ⟨10, x, [], rfl, hx, Nat.lt_of_lt_of_le hx (by decide), rfl, rfl, by show Own _ _ _ _; rw [List.append_nil]; exact HO.out, HB1⟩
  case round =>
    obtain ⟨f, z, pre, rfl, hz, HZ, HP, HL, HOw, HB⟩ := hrel
    have hor := or128_small z
    have hand := and127_u64 z hz
    have hmd : z % 128 < 128 := Nat.mod_lt _ (by decide)
    have hsz := HB.out.size
    have hpl : pre.length ≤ 10 := by have := HL.out; omega
    by_cases h127 : 127 < z
    · obtain ⟨f, rfl⟩ : ∃ f', f = f' + 1 := by
        cases f with
        | zero => have := HZ.out; simp at this; omega
        | succ f => exact ⟨f, rfl⟩
      have hst := vintF_more f z h127
      have hP := HP.out
      rw [hst] at hP
      have HP2 := Lib.hid hP
      have HZ2 : Hid (z / 128 < 128 ^ f) := by
        have := HZ.out
        rw [Nat.pow_succ] at this
        exact (Nat.div_lt_iff_lt_mul (by decide)).2 this
      clear hst hP HP HZ
      generalize UInt8.ofNat (z % 128 + 128) = c at *
      generalize z % 128 = zm at *
      have hO1 : Own (wr.alloc (.cells #[.int .u8 (c.toNat : Int)] 5)) w.heap.size u5 (l ++ pre) := HOw.out.alloc _
      go_wp2_with (at_builtin; (refine wpList_append_bts rfl _ _ rfl w.heap.size _ (l ++ pre) rfl hO1 _ [c] (wr.heap.size + 1) rfl ((Bts.lit _ wr.heap.size _ 5 (0, 0) [c] 1 1 (heap_alloc_new wr _) rfl (by omega) (by decide) (lit1 c)).mono (by simp)) (by simp; omega) (by simp; omega) ?_))
      intro v2 w2 hown2 hg2 _
      have hB2 : Below w.heap.size w w2 := (HB.out.alloc (by omega) _).grown hg2 (by simp; omega) (fun j hj => (hO1.lt j hj).1)
      have HO2 := Lib.hid hown2
      have HB2 := Lib.hid hB2
      clear hown2 hB2 hO1 hg2
      go_wp2_with fail
      go_roundw
      case rel => exact ⟨f, z / 128, pre ++ [c], by go_num, by omega, HZ2, by rw [List.append_assoc]; exact HP2.out, by have := HL.out; show (pre ++ [c]).length + f = 10; rw [List.length_append, List.length_singleton]; omega, HO2, HB2⟩
      case measure => simp [intOf]; omega
    · obtain ⟨c, rfl⟩ : ∃ c : UInt8, z = c.toNat := ⟨UInt8.ofNat z, by simp; omega⟩
      have hst := vintF_last f c.toNat h127
      have hP := HP.out
      rw [hst, UInt8.ofNat_toNat] at hP
      have HP2 := Lib.hid hP
      clear hst hP HP HZ hor hand hmd
      have hcv : ((c.toNat : Int) % 256) = (c.toNat : Int) := by omega
      have hO1 : Own (wr.alloc (.cells #[.int .u8 (c.toNat : Int)] 5)) w.heap.size u5 (l ++ pre) := HOw.out.alloc _
      go_wp2_with (at_builtin; (refine wpList_append_bts rfl _ _ rfl w.heap.size _ (l ++ pre) rfl hO1 _ [c] (wr.heap.size + 1) rfl ((Bts.lit _ wr.heap.size _ 5 (0, 0) [c] 1 1 (heap_alloc_new wr _) rfl (by omega) (by decide) (lit1 c)).mono (by simp)) (by simp; omega) (by simp; omega) ?_))
      intro v2 w2 hown2 hg2 _
      have hB2 : Below w.heap.size w w2 := (HB.out.alloc (by omega) _).grown hg2 (by simp; omega) (fun j hj => (hO1.lt j hj).1)
      rw [HP2.out] at hown2
      clear hO1 hg2
      go_wp2_with fail
      go_ret
      exact ⟨_, rfl, hown2, hB2⟩

theorem zig_pos (y : Int) (h : 0 ≤ y) : (zig y : Int) = 2 * y := by unfold zig; rw [if_pos h]; omega
theorem zig_neg (y : Int) (h : y < 0) : (zig y : Int) = 2 * (-(y + 1)) + 1 := by unfold zig; rw [if_neg (by omega)]; omega

set_option maxRecDepth 100000 in
theorem ref_Signed (v : Value) (l : List UInt8) (y : Int) (w : World) (h0 : -9223372036854775808 ≤ y) (h1 : y < 9223372036854775808) (hb : Bts w w.heap.size v l) (hl : l.length ≤ 1000000000) :
    Calls Tryd.prog 67 #[v, .int .i64 y] w fun e w' => ∃ v', e = .returned v' ∧ Own w' w.heap.size v' (l ++ vint (zig y)) ∧ Below w.heap.size w w' := by
  have c2 := ref_Number v l (zig y) w (zig_lt y h0 h1) hb (by omega)
  by_cases hy : 0 ≤ y
  · rw [zig_pos y hy] at c2
    have e1 : IntKind.u64.wrap (2 * y) = 2 * y := by rw [IntKind.wrap_u64]; omega
    have e2 : IntKind.u64.wrap y = y := by rw [IntKind.wrap_u64]; omega
    go_enter Tryd.func67, Tryd.ntmps67
    go_wp2_with fail
    refine c2.mono ?_
    rintro e w2 ⟨v2, rfl, hown2, hB2⟩
    go_wp2
    go_ret
    exact ⟨_, rfl, hown2, hB2⟩
  · rw [zig_neg y (by omega)] at c2
    have hy' : y < 0 := by omega
    go_enter Tryd.func67, Tryd.ntmps67
    go_wp2_with fail
    refine c2.mono ?_
    rintro e w2 ⟨v2, rfl, hown2, hB2⟩
    go_wp2
    go_ret
    exact ⟨_, rfl, hown2, hB2⟩

theorem strCells_bytes (ts : List UInt8) : Lib.strCells ⟨ts.toArray⟩ = ts.map byteV := by
  simp [Lib.strCells]

/-- append(s, text...) : s of the call's own -/
theorem wpList_append_text {w : World} {ops : Array Oper} {rest : List Oper} {o : Oper} {a : Act} {Q : Exit → Act → World → Prop} (hgd : o.guard = none) (s x : Operand)
    (ho : o.op = .call { callee := .builtin .append, args := #[s, x], argTypes := #[27, 9] })
    (base : Nat) (v : Value) (xs : List UInt8) (hs : a.eval s = v) (hown : Own w base v xs) (ts : List UInt8) (hx : a.eval x = .string ⟨ts.toArray⟩)
    (hlen : xs.length + ts.length ≤ 140737488355328) (hbase : base ≤ w.heap.size)
    (h : ∀ v' w', Own w' base v' (xs ++ ts) → w.grownBy w' v.ownBlock → wpList Tryd.prog ops Q rest (a.put o.dst v') w') : wpList Tryd.prog ops Q (o :: rest) a w := by
  obtain ⟨i0, hi, hz0, hz1, hz2⟩ := info_parts info_u8
  have hsz : (⟨ts.toArray⟩ : ByteArray).size = ts.length := rfl
  refine Lib.wpList_append_own_string _ hgd s x _ _ ho base 5 i0 Tryd.underlying27 Tryd.underlying9 hi hz0 hz1 hz2 v xs.length (xs.map byteV) hs hown ⟨ts.toArray⟩ hx (by rw [hsz]; unfold maxLen; omega) (by rw [hsz]; omega) hbase ?_
  intro v' w' ho' hg _
  refine h v' w' ?_ hg
  rw [hsz, strCells_bytes] at ho'
  show World.ownsRow _ _ _ _ _ _ _
  rw [List.length_append, List.map_append]
  exact ho'

set_option maxRecDepth 100000 in
theorem ref_Text (v : Value) (l ts : List UInt8) (w : World) (hb : Bts w w.heap.size v l) (hl : l.length ≤ 1000000000) (ht : ts.length ≤ 1000000000) :
    Calls Tryd.prog 65 #[v, .string ⟨ts.toArray⟩] w fun e w' => ∃ v', e = .returned v' ∧ Own w' w.heap.size v' (l ++ (vint ts.length ++ ts)) ∧ Below w.heap.size w w' := by
  have c2 := ref_Number v l ts.length w (by omega) hb (by omega)
  have hvl := vint_len ts.length (by omega)
  have hsz : (⟨ts.toArray⟩ : ByteArray).size = ts.length := rfl
  go_enter Tryd.func65, Tryd.ntmps65
  go_wp2_with fail
  refine c2.mono ?_
  rintro e w2 ⟨v2, rfl, hown2, hB2⟩
  clear c2 hsz
  go_wp2_with (at_builtin; (refine wpList_append_text rfl _ _ rfl w.heap.size _ (l ++ vint ts.length) rfl hown2 ts rfl (by simp; omega) hB2.size ?_))
  intro v3 w3 hown3 hg3
  have hB3 : Below w.heap.size w w3 := hB2.grown hg3 hB2.size (fun j hj => (hown2.lt j hj).1)
  clear hown2 hg3 hB2
  go_wp2_with fail
  go_ret
  exact ⟨_, rfl, hown3, hB3⟩

def flagN (b : Bool) : Nat := if b then 1 else 0
set_option maxRecDepth 100000 in
theorem ref_Flag (v : Value) (l : List UInt8) (b : Bool) (w : World) (hb : Bts w w.heap.size v l) (hl : l.length ≤ 1000000000) :
    Calls Tryd.prog 66 #[v, .bool b] w fun e w' => ∃ v', e = .returned v' ∧ Own w' w.heap.size v' (l ++ vint (flagN b)) ∧ Below w.heap.size w w' := by
  have c2 := ref_Number v l (flagN b) w (by unfold flagN; split <;> omega) hb (by omega)
  cases b
  all_goals
    have c3 := c2
    simp only [flagN] at c3
    clear c2
    go_enter Tryd.func66, Tryd.ntmps66
    go_wp2_with fail
    refine c3.mono ?_
    rintro e w2 ⟨v2, rfl, hown2, hB2⟩
    go_wp2
    go_ret
    exact ⟨_, rfl, hown2, hB2⟩

theorem vint0 : vint 0 = [0] := rfl
theorem vint1 : vint 1 = [1] := rfl
set_option maxRecDepth 100000 in
theorem code_Flag (v : Value) (l : List UInt8) (b : Bool) (w : World) (hb : Bts w w.heap.size v l) (hl : l.length ≤ 1000000000) :
    Calls Tryd.prog 55 #[v, .bool b] w fun e w' => ∃ v', e = .returned v' ∧ Own w' w.heap.size v' (l ++ vint (flagN b)) ∧ Below w.heap.size w w' := by
  have c1 := code_own v l 1 w hb (by omega) (by omega)
  cases b
  · go_enter Tryd.func55, Tryd.ntmps55
    go_wp2_with fail
    refine c1.mono ?_
    rintro e w1 ⟨v1, rfl, hown1, hB1⟩
    clear c1
    have hsz := hB1.size
    have hO1 : Own (w1.alloc (.cells #[.int .u8 0] 5)) w.heap.size v1 l := hown1.alloc _
    go_wp2_with (at_builtin; (refine wpList_append_bts rfl _ _ rfl w.heap.size _ l rfl hO1 _ [0] (w1.heap.size + 1) rfl ((Bts.lit _ w1.heap.size _ 5 (0, 0) [0] 1 1 (heap_alloc_new w1 _) rfl (by omega) (by decide) (lit1 0)).mono (by simp)) (by simp; omega) (by simp; omega) ?_))
    intro v2 w2 hown2 hg2 _
    have hB2 : Below w.heap.size w w2 := (hB1.alloc (by omega) _).grown hg2 (by simp; omega) (fun j hj => (hO1.lt j hj).1)
    clear hO1 hg2 hown1
    go_wp2_with fail
    go_ret
    exact ⟨_, rfl, hown2, hB2⟩
  · go_enter Tryd.func55, Tryd.ntmps55
    go_wp2_with fail
    refine c1.mono ?_
    rintro e w1 ⟨v1, rfl, hown1, hB1⟩
    clear c1
    have hsz := hB1.size
    have hO1 : Own (w1.alloc (.cells #[.int .u8 1] 5)) w.heap.size v1 l := hown1.alloc _
    go_wp2_with (at_builtin; (refine wpList_append_bts rfl _ _ rfl w.heap.size _ l rfl hO1 _ [1] (w1.heap.size + 1) rfl ((Bts.lit _ w1.heap.size _ 5 (0, 0) [1] 1 1 (heap_alloc_new w1 _) rfl (by omega) (by decide) (lit1 1)).mono (by simp)) (by simp; omega) (by simp; omega) ?_))
    intro v2 w2 hown2 hg2 _
    have hB2 : Below w.heap.size w w2 := (hB1.alloc (by omega) _).grown hg2 (by simp; omega) (fun j hj => (hO1.lt j hj).1)
    clear hO1 hg2 hown1
    go_wp2_with fail
    go_ret
    exact ⟨_, rfl, hown2, hB2⟩

end Go.Proofs.YtgnpjenpehfjbaaDoor
