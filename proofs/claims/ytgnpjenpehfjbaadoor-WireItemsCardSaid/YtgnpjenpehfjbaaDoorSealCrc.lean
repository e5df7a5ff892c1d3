/- The two check sums are one: the table's remainders of half bytes against the single bits. -/
import Derived.Test.YtgnpjenpehfjbaaDoorSealSum
namespace Go.Proofs.YtgnpjenpehfjbaaDoor

/-- one bit out, nothing in -/
def crcL (s : BitVec 32) : BitVec 32 := (s >>> 1) ^^^ (if s.getLsbD 0 then 3988292384#32 else 0#32)

theorem low_beq (s : BitVec 32) : ((s &&& 1#32) == 1#32) = s.getLsbD 0 := by
  rw [Bool.eq_iff_iff, beq_iff_eq]
  constructor
  · intro h
    have := congrArg (fun y => BitVec.getLsbD y 0) h
    simpa using this
  · intro h
    ext i hi
    by_cases h0 : i = 0
    · subst h0
      have : s[0] = true := by rw [← h]; simp
      simp [this]
    · simp [h0]

theorem crcL_xor (a b : BitVec 32) : crcL (a ^^^ b) = crcL a ^^^ crcL b := by
  unfold crcL
  rw [BitVec.ushiftRight_xor_distrib, BitVec.getLsbD_xor]
  generalize a >>> 1 = p
  generalize b >>> 1 = q
  generalize 3988292384#32 = c
  cases a.getLsbD 0 <;> cases b.getLsbD 0 <;> simp
  · rw [BitVec.xor_assoc]
  · rw [BitVec.xor_assoc, BitVec.xor_assoc, BitVec.xor_comm q c]
  · rw [BitVec.xor_assoc, BitVec.xor_comm q c, ← BitVec.xor_assoc c c q, BitVec.xor_self, BitVec.zero_xor]

theorem stepBit_eq (s : BitVec 32) (b : Bool) : stepBit s b = crcL (s ^^^ (if b then 1#32 else 0#32)) := by
  unfold stepBit crcL
  rw [low_beq]
  have h1 : (s ^^^ 1#32) >>> 1 = s >>> 1 := by
    rw [BitVec.ushiftRight_xor_distrib]
    have : (1#32) >>> 1 = 0#32 := rfl
    rw [this]; simp
  cases hs : s.getLsbD 0 <;> cases b
  all_goals
    have hs' : s[0] = _ := hs
    simp [hs', h1]

theorem bitsTo_xor (a b : BitVec 32) (x : UInt8) (k : Nat) : bitsTo (a ^^^ b) x k = (Nat.repeat crcL k a) ^^^ bitsTo b x k := by
  induction k with
  | zero => rfl
  | succ k ih =>
    show stepBit (bitsTo (a ^^^ b) x k) _ = _
    rw [ih, stepBit_eq, BitVec.xor_assoc, crcL_xor]
    show _ = crcL (Nat.repeat crcL k a) ^^^ stepBit (bitsTo b x k) _
    rw [stepBit_eq]

theorem crcL_even (s : BitVec 32) (h : s.getLsbD 0 = false) : crcL s = s >>> 1 := by
  unfold crcL; rw [h]; simp

theorem crcL4_high (r : BitVec 32) : crcL (crcL (crcL (crcL ((r >>> 4) <<< 4)))) = r >>> 4 := by
  have e : ∀ (k : Nat), k < 4 → (((r >>> 4) <<< 4) >>> k).getLsbD 0 = false := by
    intro k hk
    rw [BitVec.getLsbD_ushiftRight]
    simp
    omega
  have h0 := crcL_even ((r >>> 4) <<< 4) (e 0 (by omega))
  have h1 := crcL_even (((r >>> 4) <<< 4) >>> 1) (e 1 (by omega))
  have h2 := crcL_even (((r >>> 4) <<< 4) >>> 1 >>> 1) (by rw [← BitVec.shiftRight_add]; exact e 2 (by omega))
  have h3 := crcL_even (((r >>> 4) <<< 4) >>> 1 >>> 1 >>> 1) (by rw [← BitVec.shiftRight_add, ← BitVec.shiftRight_add]; exact e 3 (by omega))
  rw [h0, h1, h2, h3, ← BitVec.shiftRight_add, ← BitVec.shiftRight_add, ← BitVec.shiftRight_add]
  apply BitVec.eq_of_toNat_eq
  simp only [BitVec.toNat_ushiftRight, BitVec.toNat_shiftLeft, Nat.shiftRight_eq_div_pow, Nat.shiftLeft_eq]
  have := r.isLt
  omega

theorem split4 (r : BitVec 32) : r = ((r >>> 4) <<< 4) ^^^ (r &&& 15#32) := by
  ext i hi
  have h15 : ∀ i, i < 32 → (15#32)[i]! = decide (i < 4) := by decide
  have := h15 i hi
  simp only [hi, getElem!_pos] at this
  simp [this]
  by_cases h : i < 4
  · simp [h]
  · simp [h, show 4 + (i - 4) = i by omega, hi]

theorem low16 : ∀ n, n < 16 → crcL (crcL (crcL (crcL (BitVec.ofNat 32 n)))) = tab n := by decide

theorem nib_eq (r : BitVec 32) : nib r = crcL (crcL (crcL (crcL r))) := by
  have h := low16 (lo4 r) (lo4_lt r)
  have hr : r &&& 15#32 = BitVec.ofNat 32 (lo4 r) := by unfold lo4; simp
  conv => rhs; rw [split4 r]
  rw [crcL_xor, crcL_xor, crcL_xor, crcL_xor, crcL4_high, hr, h]
  rfl

theorem byte_steps : ∀ x : Fin 256, bitsTo 0#32 (UInt8.ofFin x) 8 = Nat.repeat crcL 8 (w32 (UInt8.ofFin x)) := by decide +kernel

theorem stepB_eq (r : BitVec 32) (x : UInt8) : bitsTo r x 8 = stepB r x := by
  have h := bitsTo_xor r 0#32 x 8
  rw [BitVec.xor_zero] at h
  rw [h]
  have hb : bitsTo 0#32 x 8 = Nat.repeat crcL 8 (w32 x) := by
    have := byte_steps x.toFin
    simpa using this
  rw [hb]
  unfold stepB
  rw [nib_eq (nib _), nib_eq]
  show crcL (crcL (crcL (crcL (crcL (crcL (crcL (crcL r))))))) ^^^ crcL (crcL (crcL (crcL (crcL (crcL (crcL (crcL (w32 x)))))))) = _
  simp only [crcL_xor]

theorem refR_eq (r : BitVec 32) (l : List UInt8) : refR r l = crcR r l := by
  unfold refR crcR
  congr 1
  funext s x
  exact stepB_eq s x

theorem ref_Sum (v : Value) (l : List UInt8) (w : World) (B : Nat) (hb : Bts w B v l) :
    Calls Tryd.prog 47 #[v] w fun e w' => e = .returned (.int .u32 (b32 (crc l))) ∧ w = w' := by
  have h := ref_Sum0 v l w B hb
  rw [refR_eq] at h
  exact h

end Go.Proofs.YtgnpjenpehfjbaaDoor
