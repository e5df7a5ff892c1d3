/- Counts put together, and counts of fewer bounds (plain). -/
import Derived.Test.YtghgnalbahneoaaDoorRankM
import Derived.Test.YtghgnalbahneoaaDoorHist25
namespace Go.Proofs.YtghgnalbahneoaaDoor

theorem list_ext0 {a b : List Int} (h : a.length = b.length) (he : ∀ j, a.getD j 0 = b.getD j 0) : a = b := by
  refine List.ext_getElem h fun j h1 h2 => ?_
  have := he j
  rw [List.getD_eq_getElem?_getD, List.getD_eq_getElem?_getD, List.getElem?_eq_getElem h1, List.getElem?_eq_getElem h2] at this
  simpa using this
theorem cnt_le_len (bs l : List Int) (j : Nat) : (cntF bs l).getD j 0 ≤ (l.length : Int) := (cntF_in bs l j).2
/-- two together -/
theorem merge_cnt (bs a b : List Int) : mrgF (cntF bs a) (cntF bs b) (cntF bs a).length = cntF bs (b ++ a) := by
  refine list_ext0 (by rw [mrgF_length, cntF_length, cntF_length]) fun j => ?_
  by_cases hj : j < (cntF bs a).length
  · rw [mrgF_getD _ _ _ _ hj, if_pos hj, cntF_getD, cntF_getD, cntF_getD, List.filter_append, List.length_append]
    omega
  · have h2 : ¬ j < (cntF bs (b ++ a)).length := by rw [cntF_length] at hj ⊢; exact hj
    have h1 : ¬ j < (mrgF (cntF bs a) (cntF bs b) (cntF bs a).length).length := by rw [mrgF_length]; exact hj
    rw [List.getD_eq_getElem?_getD, List.getD_eq_getElem?_getD, List.getElem?_eq_none (by omega), List.getElem?_eq_none (by omega)]
/-- where x >= bs[i] -/
theorem bk_iff {bs : List Int} (h : Srt bs) (x : Int) (i : Nat) (hi : i < bs.length) : bs.getD i 0 ≤ x ↔ i < bucketF bs x := by
  obtain ⟨i1, i2⟩ := bk_in h x
  constructor
  · intro hx
    rcases Nat.lt_or_ge i (bucketF bs x) with h1 | h1
    · exact h1
    · have h2 := i2 (by omega)
      have := h.le h1 hi
      omega
  · intro hlt
    have h1 := i1 (by omega)
    have hb := bucketF_le bs x
    have := h.le (show i ≤ bucketF bs x - 1 by omega) (by omega)
    omega
/-- a value's bucket of the kept bounds is that of its range -/
theorem keep_bucket {keep bs : List Int} (h : Srt bs) (hk : ∀ x, x ∈ keep → x ∈ bs) (v : Int) : crsJ keep bs (bucketF bs v) = bucketF keep v := by
  have hb := bucketF_le bs v
  unfold crsJ
  by_cases h0 : 0 < bucketF bs v
  · rw [if_pos h0]
    unfold bucketF
    congr 1
    refine List.filter_congr fun x hx => ?_
    obtain ⟨i, hi, rfl⟩ := List.getElem_of_mem (hk x hx)
    have hg : bs.getD i 0 = bs[i] := by rw [List.getD_eq_getElem?_getD, List.getElem?_eq_getElem hi]; rfl
    have h1 := bk_iff h v i hi
    rw [hg] at h1
    have h2 : bs[i] ≤ bs.getD (bucketF bs v - 1) 0 ↔ i < bucketF bs v := by
      constructor
      · intro hx
        rcases Nat.lt_or_ge i (bucketF bs v) with h3 | h3
        · exact h3
        · exfalso
          have h4 := (bk_in h v).1 h0
          have := h1.1 (by omega)
          omega
      · intro hlt
        have := h.le (show i ≤ bucketF bs v - 1 by omega) (by omega)
        rw [hg] at this; exact this
    rw [show (List.filter (fun b => decide (b ≤ v)) bs).length = bucketF bs v from rfl]
    by_cases h5 : i < bucketF bs v
    · rw [decide_eq_true (h1.2 h5), decide_eq_true (h2.2 h5)]
    · rw [decide_eq_false (fun e => h5 (h1.1 e)), decide_eq_false (fun e => h5 (h2.1 e))]
  · rw [if_neg h0]
    unfold bucketF
    rw [cnt_none]
    intro x hx
    obtain ⟨i, hi, rfl⟩ := List.getElem_of_mem (hk x hx)
    have hg : bs.getD i 0 = bs[i] := by rw [List.getD_eq_getElem?_getD, List.getElem?_eq_getElem hi]; rfl
    have h1 := bk_iff h v i hi
    rw [hg] at h1
    exact decide_eq_false (fun e => by have := h1.1 e; omega)
theorem coarse_cnt {keep bs : List Int} (h : Srt bs) (hk : ∀ x, x ∈ keep → x ∈ bs) (l : List Int) : crsF keep bs (cntF bs l) (cntF bs l).length = cntF keep l := by
  refine list_ext0 (by rw [crsF_length, cntF_length]) fun j => ?_
  have h0 : (crsF keep bs (cntF bs l) 0).getD j 0 = 0 := by
    by_cases hj : j < keep.length + 1 <;> simp [crsF, List.getD, hj]
  have := sumP_cnt bs l (fun k => decide (crsJ keep bs k = j)) (fun n => (crsF keep bs (cntF bs l) n).getD j 0) (cntF bs l).length h0 (fun k _ => by
    show (crsF keep bs (cntF bs l) (k + 1)).getD j 0 = _
    rw [crsF_step]
    by_cases hj : j = crsJ keep bs k
    · rw [if_pos hj, if_pos (by simp [hj])]
    · rw [if_neg hj, if_neg (by simp; omega)]) _ (Nat.le_refl _)
  rw [this, cntF_getD]
  congr 2
  refine List.filter_congr fun v _ => ?_
  rw [keep_bucket h hk v, cntF_length, decide_eq_true (show bucketF bs v < bs.length + 1 by have := bucketF_le bs v; omega)]
  simp
end Go.Proofs.YtghgnalbahneoaaDoor
