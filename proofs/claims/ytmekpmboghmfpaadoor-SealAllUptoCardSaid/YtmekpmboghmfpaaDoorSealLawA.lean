/- The laws SealWrites and SealOpens, walked: they return true, and what was there stays as it was. -/
import Derived.Test.YtmekpmboghmfpaaDoorSealAwake
namespace Go.Proofs.YtmekpmboghmfpaaDoor
open Go.RowKit

def sealB (l : List UInt8) : List UInt8 := if l.length ≤ 65535 then frameOf l else []
def sealC (l : List UInt8) : Int := if l.length ≤ 65535 then 0 else 23

theorem seal_any (v : Value) (l : List UInt8) (w : World) (hb : Bts w w.heap.size v l) (ht : TabOK w) :
    Calls Tryd.prog 13 #[v] w fun e w' => ∃ v', e = .returned (.tuple #[v', .int .i64 (sealC l)]) ∧ Own w' w.heap.size v' (sealB l) ∧ Below w.heap.size w w' := by
  unfold sealB sealC
  by_cases h : l.length ≤ 65535
  · rw [if_pos h, if_pos h]
    exact seal_Seal v l w _ hb ht (Nat.le_refl _) h
  · rw [if_neg h, if_neg h]
    refine (seal_Seal_long v l w _ hb (by omega)).mono ?_
    rintro e w' ⟨rfl, rfl⟩
    exact ⟨_, rfl, Own.nil _ _, Below.refl _ _⟩
theorem rseal_any (v : Value) (l : List UInt8) (w : World) (hb : Bts w w.heap.size v l) :
    Calls Tryd.prog 14 #[v] w fun e w' => ∃ v', e = .returned (.tuple #[v', .int .i64 (sealC l)]) ∧ Own w' w.heap.size v' (sealB l) ∧ Below w.heap.size w w' := by
  unfold sealB sealC
  by_cases h : l.length ≤ 65535
  · rw [if_pos h, if_pos h]
    exact ref_Seal v l w _ hb (Nat.le_refl _) h
  · rw [if_neg h, if_neg h]
    refine (ref_Seal_long v l w _ hb (by omega)).mono ?_
    rintro e w' ⟨rfl, rfl⟩
    exact ⟨_, rfl, Own.nil _ _, Below.refl _ _⟩

theorem copied_any (v : Value) (l : List UInt8) (w : World) (hb : Bts w w.heap.size v l) (hl : l.length ≤ 140737488355328) :
    Calls Tryd.prog 12 #[v] w fun e w' => ∃ v', e = .returned v' ∧ Own w' w.heap.size v' l ∧ Below w.heap.size w w' := by
  go_enter Tryd.func12, Tryd.ntmps12
  go_wp2_with (at_builtin; (refine wpList_append_bts rfl _ _ rfl w.heap.size _ [] rfl (Own.nil _ _) v l w.heap.size rfl hb (by simpa using hl) (Nat.le_refl _) ?_))
  intro v1 w1 hown hg _
  go_wp2
  go_ret
  exact ⟨v1, rfl, hown, (Below.refl _ _).grown hg (Nat.le_refl _) (fun k hk => by cases hk)⟩

/-- one store into a slice of the call's own -/
theorem Own.stored {w : World} {B g n cap : Nat} {l : List UInt8} (h : Own w B (.slice (some ⟨g, 0, none⟩) n cap) l) (i : Nat) (c : UInt8) : Own (w.setCell ⟨g, i, none⟩ (.int .u8 (c.toNat : Int))) B (.slice (some ⟨g, 0, none⟩) n cap) (l.set i c) := by
  obtain ⟨h1, h2⟩ := h
  refine ⟨by simp, ?_⟩
  rcases h2 with ⟨h, _⟩ | ⟨g', cap', cur, he, hb, hg, hn, hcm, hcs, htake⟩
  · cases h
  · cases he
    refine .inr ⟨g, cap, cur.setIfInBounds i (.int .u8 (c.toNat : Int)), by simp, hb, ?_, by simpa using hn, hcm, by simpa using hcs, ?_⟩
    · exact heap_setCell_same w g i cur _ _ hg
    · simp only [Array.toList_setIfInBounds, List.length_set]
      rw [List.take_set, htake, List.map_set]

end Go.Proofs.YtmekpmboghmfpaaDoor
