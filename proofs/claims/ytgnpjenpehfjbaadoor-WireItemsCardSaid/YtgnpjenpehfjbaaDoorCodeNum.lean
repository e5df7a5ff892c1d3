/- Numbers as bytes: what code.number, code.Size and the document's Number make. -/
import Derived.Test.YtgnpjenpehfjbaaDoorBytesW
import Derived.Laws.Shifts
namespace Go.Proofs.YtgnpjenpehfjbaaDoor
open Go.RowKit

def vintF : Nat → Nat → List UInt8
  | 0, x => [UInt8.ofNat x]
  | f + 1, x => if 127 < x then UInt8.ofNat (x % 128 + 128) :: vintF f (x / 128) else [UInt8.ofNat x]
/-- a number's bytes -/
def vint (x : Nat) : List UInt8 := vintF 10 x

theorem vintF_more (f x : Nat) (h : 127 < x) : vintF (f + 1) x = UInt8.ofNat (x % 128 + 128) :: vintF f (x / 128) := by
  show (if _ then _ else _) = _
  rw [if_pos h]
theorem vintF_last (f x : Nat) (h : ¬ 127 < x) : vintF f x = [UInt8.ofNat x] := by
  cases f with
  | zero => rfl
  | succ f => show (if _ then _ else _) = _; rw [if_neg h]
theorem vintF_len (f x : Nat) : 1 ≤ (vintF f x).length ∧ (vintF f x).length ≤ f + 1 := by
  induction f generalizing x with
  | zero => simp [vintF]
  | succ f ih =>
    by_cases h : 127 < x
    · rw [vintF_more f x h]; have := ih (x / 128); simp; omega
    · rw [vintF_last _ x h]; simp
theorem vint_len (x : Nat) (hx : x < 18446744073709551616) : 1 ≤ (vint x).length ∧ (vint x).length ≤ 10 := by
  have : ∀ f x, x < 128 ^ f → (vintF f x).length ≤ max 1 f := by
    intro f
    induction f with
    | zero => intro x h; simp [vintF]
    | succ f ih =>
      intro x h
      by_cases h1 : 127 < x
      · rw [vintF_more f x h1]
        have h2 : x / 128 < 128 ^ f := by
          rw [Nat.div_lt_iff_lt_mul (by decide)]
          rw [Nat.pow_succ] at h; exact h
        have := ih _ h2
        have hf : 1 ≤ f := by
          rcases Nat.eq_zero_or_pos f with h0 | h0
          · subst h0; omega
          · exact h0
        simp; omega
      · rw [vintF_last _ x h1]; simp
  have h2 := this 10 x (Nat.lt_of_lt_of_le hx (by decide))
  have h1 := vintF_len 10 x
  unfold vint
  omega

theorem or128_all : ∀ c : Fin 256, bits .or .u8 ((c.1 : Nat) : Int) 128 = ((c.1 % 128 + 128 : Nat) : Int) := by decide +kernel
theorem or128 (x : Nat) : bits .or .u8 ((x : Int) % 256) 128 = ((UInt8.ofNat (x % 128 + 128)).toNat : Int) := by
  have h := or128_all ⟨x % 256, Nat.mod_lt _ (by decide)⟩
  have e : ((x : Int) % 256) = ((x % 256 : Nat) : Int) := by omega
  rw [e, h]
  have : (UInt8.ofNat (x % 128 + 128)).toNat = x % 128 + 128 := by simp; omega
  rw [this]
  show (((x % 256) % 128 + 128 : Nat) : Int) = _
  rw [Nat.mod_mod_of_dvd _ (by decide : 128 ∣ 256)]

theorem lit1 (c : UInt8) (i : Nat) (hi : i < 1) : (#[Value.int .u8 (c.toNat : Int)])[i]? = some (.int .u8 (([c].getD i 0).toNat : Int)) := by
  obtain rfl : i = 0 := by omega
  rfl

set_option maxRecDepth 100000 in
set_option maxHeartbeats 1000000 in
theorem code_number (v : Value) (l : List UInt8) (x : Nat) (w : World) (B : Nat) (hx : x < 18446744073709551616) (ho : Own w B v l) (hB : B ≤ w.heap.size) (hl : l.length ≤ 1000000000000) :
    Calls Tryd.prog 52 #[v, .int .u64 (x : Int)] w fun e w' => ∃ v', e = .returned v' ∧ Own w' B v' (l ++ vint x) ∧ Below B w w' := by
  have HO := Lib.hid ho
  clear ho
  go_enter Tryd.func52, Tryd.ntmps52
  go_wp2_with fail
  go_loopw [0, 1] (fun b y wr => ∃ (f z : Nat) (pre : List UInt8), y = .int .u64 (z : Int) ∧ z < 18446744073709551616 ∧ Hid (z < 128 ^ f) ∧ Hid (pre ++ vintF f z = vint x) ∧ Hid (pre.length + f = 10) ∧ Hid (Own wr B b (l ++ pre)) ∧ Hid (Below B w wr)) (fun _ y _ => (intOf y).toNat)
  case atStart => exact ⟨10, x, [], rfl, hx, Nat.lt_of_lt_of_le hx (by decide), rfl, rfl, by show Own _ _ _ _; rw [List.append_nil]; exact HO.out, Below.refl _ _⟩
  case round =>
    obtain ⟨f, z, pre, rfl, hz, HZ, HP, HL, HOw, HB⟩ := hrel
    have hor := or128 z
    have hsz := HB.out.size
    have hpl : pre.length ≤ 10 := by have := HL.out; omega
    by_cases h127 : 127 < z
    · obtain ⟨f, rfl⟩ : ∃ f', f = f' + 1 := by
        cases f with
        | zero => have := HZ.out; simp at this; omega
        | succ f => exact ⟨f, rfl⟩
      have hst := vintF_more f z h127
      have hP := HP.out
      rw [hst] at hP
      have HP2 := Lib.hid hP
      have HZ2 : Hid (z / 128 < 128 ^ f) := by
        have := HZ.out
        rw [Nat.pow_succ] at this
        exact (Nat.div_lt_iff_lt_mul (by decide)).2 this
      clear hst hP HP HZ
      generalize UInt8.ofNat (z % 128 + 128) = c at *
      have hO1 : Own (wr.alloc (.cells #[.int .u8 (c.toNat : Int)] 5)) B u0 (l ++ pre) := HOw.out.alloc _
      go_wp2_with (at_builtin; (refine wpList_append_bts rfl _ _ rfl B _ (l ++ pre) rfl hO1 _ [c] (wr.heap.size + 1) rfl ((Bts.lit _ wr.heap.size _ 5 (0, 0) [c] 1 1 (heap_alloc_new wr _) rfl (by omega) (by decide) (lit1 c)).mono (by simp)) (by simp; omega) (by simp; omega) ?_))
      intro v2 w2 hown2 hg2 _
      have hB2 : Below B w w2 := (HB.out.alloc (by omega) _).grown hg2 (by simp; omega) (fun j hj => (hO1.lt j hj).1)
      have HO2 := Lib.hid hown2
      have HB2 := Lib.hid hB2
      clear hown2 hB2 hO1 hg2
      go_wp2_with fail
      go_roundw
      case rel => exact ⟨f, z / 128, pre ++ [c], by go_num, by omega, HZ2, by rw [List.append_assoc]; exact HP2.out, by have := HL.out; show (pre ++ [c]).length + f = 10; rw [List.length_append, List.length_singleton]; omega, HO2, HB2⟩
      case measure => simp [intOf]; omega
    · obtain ⟨c, rfl⟩ : ∃ c : UInt8, z = c.toNat := ⟨UInt8.ofNat z, by simp; omega⟩
      have hst := vintF_last f c.toNat h127
      have hP := HP.out
      rw [hst, UInt8.ofNat_toNat] at hP
      have HP2 := Lib.hid hP
      clear hst hP HP HZ
      have hcv : ((c.toNat : Int) % 256) = (c.toNat : Int) := by omega
      have hO1 : Own (wr.alloc (.cells #[.int .u8 (c.toNat : Int)] 5)) B u0 (l ++ pre) := HOw.out.alloc _
      clear hor
      go_wp2_with (at_builtin; (refine wpList_append_bts rfl _ _ rfl B _ (l ++ pre) rfl hO1 _ [c] (wr.heap.size + 1) rfl ((Bts.lit _ wr.heap.size _ 5 (0, 0) [c] 1 1 (heap_alloc_new wr _) rfl (by omega) (by decide) (lit1 c)).mono (by simp)) (by simp; omega) (by simp; omega) ?_))
      intro v2 w2 hown2 hg2 _
      have hB2 : Below B w w2 := (HB.out.alloc (by omega) _).grown hg2 (by simp; omega) (fun j hj => (hO1.lt j hj).1)
      rw [HP2.out] at hown2
      clear hO1 hg2
      go_wp2_with fail
      go_ret
      exact ⟨_, rfl, hown2, hB2⟩

end Go.Proofs.YtgnpjenpehfjbaaDoor
