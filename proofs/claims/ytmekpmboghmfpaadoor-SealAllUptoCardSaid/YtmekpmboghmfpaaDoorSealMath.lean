/- Plain laws about frames: what Open tells of a frame with bytes behind, and of a frame's beginning. -/
import Derived.Test.YtmekpmboghmfpaaDoorSealOpen2
namespace Go.Proofs.YtmekpmboghmfpaaDoor

theorem openF_frame (a b c0 c1 c2 c3 : UInt8) (body rest : List UInt8) (hn : body.length = a.toNat + 256 * b.toNat) :
    openF (237 :: 91 :: a :: b :: (body ++ c0 :: c1 :: c2 :: c3 :: rest)) = if crc (a :: b :: body) ≠ rd32 c0 c1 c2 c3 then ([], 0, 22) else (body, body.length + 8, 0) := by
  have hlen : (237 :: 91 :: a :: b :: (body ++ c0 :: c1 :: c2 :: c3 :: rest)).length = body.length + rest.length + 8 := by simp; omega
  have hbl : bodyLen (237 :: 91 :: a :: b :: (body ++ c0 :: c1 :: c2 :: c3 :: rest)) = body.length := by unfold bodyLen; simp [hn]
  have hbad : ¬ badForm (237 :: 91 :: a :: b :: (body ++ c0 :: c1 :: c2 :: c3 :: rest)) := by unfold badForm; simp
  have htake : (237 :: 91 :: a :: b :: (body ++ c0 :: c1 :: c2 :: c3 :: rest)).take (4 + body.length) = 237 :: 91 :: a :: b :: body := by
    rw [Nat.add_comm]; simp
  have hsum : sumAt (237 :: 91 :: a :: b :: (body ++ c0 :: c1 :: c2 :: c3 :: rest)) (4 + body.length) = rd32 c0 c1 c2 c3 := by
    have g : ∀ j, (237 :: 91 :: a :: b :: (body ++ c0 :: c1 :: c2 :: c3 :: rest)).getD (4 + body.length + j) 0 = (c0 :: c1 :: c2 :: c3 :: rest).getD j 0 := fun j => by
      rw [show 4 + body.length + j = (body.length + j) + 4 by omega]
      simp only [List.getD_eq_getElem?_getD, List.getElem?_cons_succ]
      rw [List.getElem?_append_right (by omega), show body.length + j - body.length = j by omega]
    unfold sumAt
    rw [show 4 + body.length = 4 + body.length + 0 from rfl, g 0, g 1, show 4 + body.length + 0 + 2 = 4 + body.length + 2 from rfl, g 2, g 3]
    rfl
  unfold openF
  rw [if_neg hbad, hlen, if_neg (by omega), hbl, if_neg (by omega), htake, hsum]
  rfl

theorem len2_at (n : Nat) (h : n ≤ 65535) : n = (UInt8.ofNat (n % 256)).toNat + 256 * (UInt8.ofNat (n / 256)).toNat := by
  have e1 : (UInt8.ofNat (n % 256)).toNat = n % 256 := by simp
  have e2 : (UInt8.ofNat (n / 256)).toNat = n / 256 := by simp; omega
  rw [e1, e2]; omega

theorem frameOf_len (l : List UInt8) : (frameOf l).length = l.length + 8 := by unfold frameOf len2 le32; simp

theorem open_frame (l rest : List UInt8) (h : l.length ≤ 65535) : openF (frameOf l ++ rest) = (l, l.length + 8, 0) := by
  have e : frameOf l ++ rest = 237 :: 91 :: UInt8.ofNat (l.length % 256) :: UInt8.ofNat (l.length / 256) :: (l ++ (le32 (crc (len2 l.length ++ l))).getD 0 0 :: (le32 (crc (len2 l.length ++ l))).getD 1 0 :: (le32 (crc (len2 l.length ++ l))).getD 2 0 :: (le32 (crc (len2 l.length ++ l))).getD 3 0 :: rest) := by
    unfold frameOf
    generalize crc (len2 l.length ++ l) = s
    simp [len2, le32]
  rw [e, openF_frame _ _ _ _ _ _ l rest (len2_at _ h), rd32_le32, if_neg (by simp [len2])]

theorem open_cut (l : List UInt8) (k : Nat) (h : l.length ≤ 65535) (hk : k < l.length + 8) : openF ((frameOf l).take k) = ([], 0, 21) := by
  have hl : ((frameOf l).take k).length = k := by rw [List.length_take, frameOf_len]; omega
  have g : ∀ j, j < k → ((frameOf l).take k).getD j 0 = (frameOf l).getD j 0 := fun j hj => by
    simp only [List.getD_eq_getElem?_getD]; rw [List.getElem?_take_of_lt hj]
  have hbad : ¬ badForm ((frameOf l).take k) := by
    unfold badForm
    rw [hl]
    rintro (⟨h1, h2⟩ | ⟨h1, h2⟩)
    · rw [g 0 h1] at h2; exact h2 rfl
    · rw [g 1 h1] at h2; exact h2 rfl
  unfold openF
  rw [if_neg hbad, hl]
  by_cases h4 : k < 4
  · rw [if_pos h4]
  · rw [if_neg h4]
    have hb : bodyLen ((frameOf l).take k) = l.length := by
      unfold bodyLen
      rw [g 2 (by omega), g 3 (by omega)]
      exact (len2_at _ h).symm
    rw [hb, if_pos (by omega)]

end Go.Proofs.YtmekpmboghmfpaaDoor
