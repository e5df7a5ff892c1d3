/- Histograms: a bound that is kept or not (Coarse$1); the document's rank. -/
import Derived.Test.YtghgnalbahneoaaDoorHist12
namespace Go.Proofs.YtghgnalbahneoaaDoor
open Go.RowKit

theorem coarse1_any (bh : Nat) (vb vc : Value) (bs : List Int) (x : Int) (w : World) (hbox : w.heap[bh]? = some (hiO vb vc)) (hi : Its w w.heap.size vb bs) : Calls Tryd.prog 59 #[.int .i64 x, .pointer (some ⟨bh, 0, none⟩)] w fun e w' => e = .returned (.bool (!decide (x ∈ bs))) ∧ Below w.heap.size w w' := by
  have a0 := hiO_0 hbox
  have c := contains_any vb bs x w hi
  generalize decide (x ∈ bs) = b at *
  go_enter Tryd.func59, Tryd.ntmps59
  go_wp2_with (fail)
  refine c.mono ?_
  rintro e w1 ⟨rfl, rfl⟩
  go_wp2
  go_ret
  exact ⟨rfl, Below.refl _ _⟩

set_option maxRecDepth 100000 in
set_option maxHeartbeats 1000000 in
/-- the document's bucket's range -/
theorem rbucketR_any (vb vc : Value) (bs : List Int) (k : Nat) (w : World) (hi : Its w w.heap.size vb bs) (hk : k ≤ bs.length) (hb1 : bs.length ≤ 1000) : Calls Tryd.prog 40 #[hiV vb vc, .int .i64 (k : Int)] w fun e w' => e = .returned (rgK bs k) ∧ Below w.heap.size w w' := by
  obtain ⟨g0, k0⟩ := hist_new w vb vc
  have L := Lib.hid g0
  have K := Lib.hid k0
  have HI := Lib.hid (hi.kept g0)
  clear g0 k0
  obtain ⟨ab, capb, hvb, -⟩ := hi.slice
  subst hvb
  obtain ⟨nb, hnb⟩ : ∃ n, n = bs.length := ⟨_, rfl⟩
  rw [← hnb] at HI K L hk hb1 ⊢
  have NB := Lib.hid hnb
  have HW := Lib.hid hi
  clear hnb hi
  have q0 : ∀ o2 o3, (((w.alloc (.cells #[.slice ab nb capb, vc] 24)).alloc o2).alloc o3).cell? ⟨w.heap.size, 0, none⟩ = some (.slice ab nb capb) := fun o2 o3 => hiO_0 (stays (stays K.out (bel_alloc (Below.refl _ _) (Nat.le_refl _))) (bel_alloc (Below.refl _ _) (Nat.le_refl _)))
  have hin : 0 < nb → ∃ b off, ab = some ⟨b, off, none⟩ ∧ ∀ o1 o2 o3, ∀ i, i < nb → (((w.alloc o1).alloc o2).alloc o3).cell? ⟨b, off + i, none⟩ = some (.int .i64 (bs.getD i 0)) := by
    intro hp
    rcases HW.out.form with ⟨h0, -⟩ | ⟨hpos, b, off, cap', he, -, -, hb, hcc⟩
    · exfalso; rw [h0] at NB; have := NB.out; simp at this; omega
    · refine ⟨b, off, (Value.slice.inj he).1, fun o1 o2 o3 i hi => ?_⟩
      have hB : Below w.heap.size w (((w.alloc o1).alloc o2).alloc o3) := bel_alloc (bel_alloc (bel_alloc (Below.refl _ _) (Nat.le_refl _)) (by simp)) (by simp; omega)
      exact (hB.cell (p := ⟨b, off + i, none⟩) hb).trans (hcc i (by have := NB.out; omega))
  have HIN := Lib.hid hin
  obtain ⟨lo, hlo⟩ : ∃ c, c = (if 0 < k then bs.getD (k - 1) 0 else 0) := ⟨_, rfl⟩
  obtain ⟨hi, hhi⟩ : ∃ c, c = (if k < nb then bs.getD k 0 else 0) := ⟨_, rfl⟩
  have HE : Hid (rgK bs k = rgV (decide (0 < k)) lo (decide (k < nb)) hi) := by
    show _ = _
    unfold rgK
    rw [hlo, hhi, NB.out]
  clear hin
  by_cases h0k : 0 < k
  · by_cases h1k : k < nb
    · rw [if_pos h0k] at hlo
      rw [if_pos h1k] at hhi
      have hd0 : decide (0 < k) = true := decide_eq_true h0k
      have hd1 : decide (k < nb) = true := decide_eq_true h1k
      rw [hd0, hd1] at HE
      obtain ⟨bb, ob, hab, hcell⟩ := HIN.out (by omega)
      subst hab
      obtain ⟨j, rfl⟩ : ∃ j, k = j + 1 := ⟨k - 1, by omega⟩
      rw [Nat.add_sub_cancel] at hlo
      have el := fun o1 o2 o3 => hcell o1 o2 o3 j (by omega)
      rw [← hlo] at el
      have eh := fun o1 o2 o3 => hcell o1 o2 o3 (j + 1) (by omega)
      rw [← hhi] at eh
      clear hcell
      clear hd0 hd1 hlo hhi
      go_enter Tryd.func40, Tryd.ntmps40
      go_wp2
      refine bodyPost_ret (v := rgV true lo true hi) (by simp [results, rgV, Tryd.results40, go_sem, *]) rfl ⟨by rw [HE.out], ?_⟩
      exact bel_alloc (bel_alloc L.out (by simp)) (by simp; omega)
    · rw [if_pos h0k] at hlo
      rw [if_neg h1k] at hhi
      have hd0 : decide (0 < k) = true := decide_eq_true h0k
      have hd1 : decide (k < nb) = false := decide_eq_false h1k
      rw [hd0, hd1] at HE
      obtain ⟨bb, ob, hab, hcell⟩ := HIN.out (by omega)
      subst hab
      obtain ⟨j, rfl⟩ : ∃ j, k = j + 1 := ⟨k - 1, by omega⟩
      rw [Nat.add_sub_cancel] at hlo
      have el := fun o1 o2 o3 => hcell o1 o2 o3 j (by omega)
      rw [← hlo] at el
      subst hhi
      clear hcell
      clear hd0 hd1 hlo
      go_enter Tryd.func40, Tryd.ntmps40
      go_wp2
      refine bodyPost_ret (v := rgV true lo false 0) (by simp [results, rgV, Tryd.results40, go_sem, *]) rfl ⟨by rw [HE.out], ?_⟩
      exact bel_alloc (bel_alloc L.out (by simp)) (by simp; omega)
  · by_cases h1k : k < nb
    · rw [if_neg h0k] at hlo
      rw [if_pos h1k] at hhi
      have hd0 : decide (0 < k) = false := decide_eq_false h0k
      have hd1 : decide (k < nb) = true := decide_eq_true h1k
      rw [hd0, hd1] at HE
      obtain ⟨bb, ob, hab, hcell⟩ := HIN.out (by omega)
      subst hab
      obtain rfl : k = 0 := by omega
      subst hlo
      have eh := fun o1 o2 o3 => hcell o1 o2 o3 0 (by omega)
      rw [← hhi] at eh
      simp only [Nat.add_zero] at eh
      clear hcell
      clear hd0 hd1 hhi
      go_enter Tryd.func40, Tryd.ntmps40
      go_wp2
      refine bodyPost_ret (v := rgV false 0 true hi) (by simp [results, rgV, Tryd.results40, go_sem, *]) rfl ⟨by rw [HE.out], ?_⟩
      exact bel_alloc (bel_alloc L.out (by simp)) (by simp; omega)
    · rw [if_neg h0k] at hlo
      rw [if_neg h1k] at hhi
      have hd0 : decide (0 < k) = false := decide_eq_false h0k
      have hd1 : decide (k < nb) = false := decide_eq_false h1k
      rw [hd0, hd1] at HE
      obtain rfl : k = 0 := by omega
      subst hlo
      subst hhi
      clear hd0 hd1
      go_enter Tryd.func40, Tryd.ntmps40
      go_wp2
      refine bodyPost_ret (v := rgV false 0 false 0) (by simp [results, rgV, Tryd.results40, go_sem, *]) rfl ⟨by rw [HE.out], ?_⟩
      exact bel_alloc (bel_alloc L.out (by simp)) (by simp; omega)

end Go.Proofs.YtghgnalbahneoaaDoor
