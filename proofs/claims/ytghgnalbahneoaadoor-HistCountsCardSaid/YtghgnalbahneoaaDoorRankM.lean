/- What ranks say (plain): counts of buckets as counts of values. -/
import Derived.Test.YtghgnalbahneoaaDoorHist8
import Derived.Test.YtghgnalbahneoaaDoorHist3
namespace Go.Proofs.YtghgnalbahneoaaDoor

theorem cnt_if {α : Type} (p : α → Bool) (l : List α) (x : α) : ((l ++ [x]).filter p).length = (l.filter p).length + if p x then 1 else 0 := by
  rw [List.filter_append, List.length_append]
  by_cases h : p x <;> simp [h]
theorem cnt_mono {α : Type} (p q : α → Bool) (l : List α) (h : ∀ x, x ∈ l → p x = true → q x = true) : (l.filter p).length ≤ (l.filter q).length := by
  induction l with
  | nil => simp
  | cons a r ih =>
    have hr := ih (fun x hx => h x (List.mem_cons_of_mem _ hx))
    have ha := h a (List.mem_cons_self ..)
    by_cases h1 : p a
    · simp [h1, ha h1]; omega
    · by_cases h2 : q a <;> simp [h1, h2] <;> omega
theorem cnt_add {α : Type} (p q r : α → Bool) (l : List α) (h : ∀ x, (if r x then 1 else 0) = (if p x then 1 else 0) + (if q x then 1 else 0 : Nat)) : (l.filter r).length = (l.filter p).length + (l.filter q).length := by
  induction l with
  | nil => simp
  | cons a t ih =>
    have ha := h a
    by_cases h1 : p a <;> by_cases h2 : q a <;> by_cases h3 : r a <;> simp [h1, h2, h3] at ha ⊢ <;> omega
theorem cnt_none {α : Type} (p : α → Bool) (l : List α) (h : ∀ x, x ∈ l → p x = false) : (l.filter p).length = 0 := by
  rw [List.filter_eq_nil_iff.2 (fun x hx => by rw [h x hx]; simp)]; rfl
/-- a bucket's count is how many values lie in it -/
theorem cntF_getD (bs : List Int) (j : Nat) : ∀ l, (cntF bs l).getD j 0 = ((l.filter fun x => decide (bucketF bs x = j)).length : Int) := by
  refine list_snoc _ ?_ ?_
  · rw [cntF_nil]
    by_cases hj : j < bs.length + 1
    · simp [List.getD, hj]
    · simp [List.getD, hj]
  · intro l x ih
    rw [cntF_app1, addAt_getD _ _ _ (by rw [cntF_length]; have := bucketF_le bs x; omega), ih, cnt_if]
    by_cases h : j = bucketF bs x
    · rw [if_pos h, if_pos (by simp [h])]; simp
    · rw [if_neg h, if_neg (by simp; omega)]; simp
/-- a sum over some of the first buckets -/
theorem sumP_cnt (bs l : List Int) (p : Nat → Bool) (f : Nat → Int) (N : Nat) (h0 : f 0 = 0) (hf : ∀ k, k < N → f (k + 1) = f k + if p k then (cntF bs l).getD k 0 else 0) :
    ∀ n, n ≤ N → f n = ((l.filter fun v => decide (bucketF bs v < n) && p (bucketF bs v)).length : Int)
  | 0, _ => by rw [h0, cnt_none _ _ (fun x _ => by simp)]; rfl
  | n + 1, hn => by
    rw [hf n (by omega), sumP_cnt bs l p f N h0 hf n (by omega), cntF_getD]
    have := cnt_add (fun v => decide (bucketF bs v < n) && p (bucketF bs v)) (fun v => decide (bucketF bs v = n) && p n) (fun v => decide (bucketF bs v < n + 1) && p (bucketF bs v)) l (fun x => by
      rcases Nat.lt_trichotomy (bucketF bs x) n with h | h | h
      · rw [decide_eq_true h, decide_eq_true (show bucketF bs x < n + 1 by omega), decide_eq_false (show ¬ bucketF bs x = n by omega)]; simp
      · rw [h, decide_eq_false (show ¬ n < n by omega), decide_eq_true (show n < n + 1 by omega)]; simp
      · rw [decide_eq_false (show ¬ bucketF bs x < n by omega), decide_eq_false (show ¬ bucketF bs x < n + 1 by omega), decide_eq_false (show ¬ bucketF bs x = n by omega)]; simp)
    rw [this]
    by_cases hp : p n
    · simp [hp]
    · rw [cnt_none (fun v => decide (bucketF bs v = n) && p n) l (fun x _ => by simp [hp])]; simp [hp]
theorem Rising.srt {bs : List Int} (h : Rising bs) : Srt bs := fun i hi => Int.le_of_lt (h.2.2 i hi)
theorem bk_ex (bs : List Int) (x : Int) : ∀ n, n ≤ bs.length → ∃ k, k ≤ n ∧ (k = 0 ∨ bs.getD (k - 1) 0 ≤ x) ∧ (k = n ∨ x < bs.getD k 0)
  | 0, _ => ⟨0, Nat.le_refl _, .inl rfl, .inl rfl⟩
  | n + 1, hn => by
    obtain ⟨k, h1, h2, h3⟩ := bk_ex bs x n (by omega)
    rcases h3 with h3 | h3
    · subst h3
      by_cases hx : x < bs.getD k 0
      · exact ⟨k, by omega, h2, .inr hx⟩
      · exact ⟨k + 1, Nat.le_refl _, .inr (by rw [Nat.add_sub_cancel]; omega), .inl rfl⟩
    · exact ⟨k, by omega, h2, .inr h3⟩
/-- the range of a value's bucket -/
theorem bk_in {bs : List Int} (h : Srt bs) (x : Int) : (0 < bucketF bs x → bs.getD (bucketF bs x - 1) 0 ≤ x) ∧ (bucketF bs x < bs.length → x < bs.getD (bucketF bs x) 0) := by
  obtain ⟨k, h1, h2, h3⟩ := bk_ex bs x bs.length (Nat.le_refl _)
  rw [bucketF_at h h1 h2 h3]
  exact ⟨fun hk => h2.resolve_left (by omega), fun hk => h3.resolve_left (by omega)⟩
theorem bucketF_mono (bs : List Int) {x y : Int} (h : x ≤ y) : bucketF bs x ≤ bucketF bs y := by
  unfold bucketF
  exact cnt_mono _ _ _ (fun b _ hb => by simp at hb ⊢; omega)
theorem bk_lt {bs : List Int} {x y : Int} (h : bucketF bs x < bucketF bs y) : x < y := by
  by_cases h1 : x < y
  · exact h1
  · have := bucketF_mono bs (show y ≤ x by omega); omega
/-- how many are less, and how many are no greater -/
def ltC (l : List Int) (v : Int) : Nat := (l.filter fun w => decide (w < v)).length
def leC (l : List Int) (v : Int) : Nat := (l.filter fun w => decide (w ≤ v)).length
theorem leC_le (l : List Int) (v : Int) : leC l v ≤ l.length := List.length_filter_le _ _
theorem take_cnt (bs l : List Int) (k : Nat) (hk : k ≤ bs.length + 1) : ((cntF bs l).take k).sum = ((l.filter fun v => decide (bucketF bs v < k)).length : Int) := by
  have := sumP_cnt bs l (fun _ => true) (fun k => ((cntF bs l).take k).sum) (bs.length + 1) (by simp) (fun k hk => by
    have hl : k < (cntF bs l).length := by rw [cntF_length]; exact hk
    show ((cntF bs l).take (k + 1)).sum = _
    rw [take_snoc _ k hl, List.sum_append]; simp) k hk
  simpa using this
theorem sum_cnt (bs l : List Int) : (cntF bs l).sum = (l.length : Int) := by
  have := take_cnt bs l (bs.length + 1) (Nat.le_refl _)
  rw [List.take_of_length_le (by rw [cntF_length]; omega)] at this
  rw [this]
  congr 1
  rw [List.filter_eq_self.2 (fun v _ => by simp; have := bucketF_le bs v; omega)]
/-- the greatest of a row -/
theorem max_ex : ∀ (l : List Int), l ≠ [] → ∃ v, v ∈ l ∧ ∀ w, w ∈ l → w ≤ v
  | [], h => absurd rfl h
  | [a], _ => ⟨a, by simp, by simp⟩
  | a :: b :: r, _ => by
    obtain ⟨v, h1, h2⟩ := max_ex (b :: r) (by simp)
    by_cases h : a ≤ v
    · exact ⟨v, List.mem_cons_of_mem _ h1, fun w hw => by rcases List.mem_cons.1 hw with rfl | hw; exact h; exact h2 w hw⟩
    · exact ⟨a, List.mem_cons_self .., fun w hw => by rcases List.mem_cons.1 hw with rfl | hw; exact Int.le_refl _; have := h2 w hw; omega⟩
theorem min_ex (l : List Int) (p : Int → Bool) (h : ∃ v, v ∈ l ∧ p v = true) : ∃ v, v ∈ l ∧ p v = true ∧ ∀ w, w ∈ l → p w = true → v ≤ w := by
  have hne : (l.filter p).map (fun x => -x) ≠ [] := by
    obtain ⟨v, h1, h2⟩ := h
    intro he
    have : v ∈ l.filter p := List.mem_filter.2 ⟨h1, h2⟩
    rw [List.map_eq_nil_iff] at he
    rw [he] at this; cases this
  obtain ⟨u, h1, h2⟩ := max_ex _ hne
  obtain ⟨v, hv, rfl⟩ := List.mem_map.1 h1
  obtain ⟨hm, hp⟩ := List.mem_filter.1 hv
  refine ⟨v, hm, hp, fun w hw hpw => ?_⟩
  have := h2 (-w) (List.mem_map.2 ⟨w, List.mem_filter.2 ⟨hw, hpw⟩, rfl⟩)
  omega
/-- some value has the rank -/
theorem rank_ex (l : List Int) (r : Nat) (h1 : 1 ≤ r) (h2 : r ≤ l.length) : ∃ v, v ∈ l ∧ ltC l v < r ∧ r ≤ leC l v := by
  have hne : l ≠ [] := by rintro rfl; simp at h2; omega
  obtain ⟨m, hm, hmx⟩ := max_ex l hne
  have hall : leC l m = l.length := by
    unfold leC
    rw [List.filter_eq_self.2 (fun w hw => by simpa using hmx w hw)]
  obtain ⟨v, hv, hp, hmin⟩ := min_ex l (fun v => decide (r ≤ leC l v)) ⟨m, hm, by simp; omega⟩
  refine ⟨v, hv, ?_, by simpa using hp⟩
  rcases Nat.lt_or_ge (ltC l v) r with h | h
  · exact h
  · exfalso
    have hne2 : l.filter (fun w => decide (w < v)) ≠ [] := by
      intro he
      unfold ltC at h
      rw [he] at h; simp at h; omega
    obtain ⟨u, hu, hux⟩ := max_ex _ hne2
    obtain ⟨hul, huv⟩ := List.mem_filter.1 hu
    have huv' : u < v := by simpa using huv
    have : ltC l v ≤ leC l u := cnt_mono _ _ _ (fun w hw hwv => by
      have := hux w (List.mem_filter.2 ⟨hw, hwv⟩)
      simpa using this)
    have := hmin u hul (by simp; omega)
    omega
/-- the rank, the plain way -/
theorem rank_plain (num den total : Int) (hd : 1 ≤ den) : (num * total + den - 1) / den = total / den * num + (total % den * num + den - 1) / den := by
  have h := Int.emod_add_mul_ediv total den
  have e : num * total + den - 1 = (total % den * num + den - 1) + den * (total / den * num) := by
    have : num * total = num * (total % den) + num * (den * (total / den)) := by rw [← Int.mul_add, h]
    have h2 : num * (den * (total / den)) = den * (total / den * num) := by rw [Int.mul_left_comm, Int.mul_comm num (total / den)]
    rw [this, h2, Int.mul_comm num (total % den)]
    omega
  rw [e, Int.add_mul_ediv_left _ _ (by omega)]
  omega
end Go.Proofs.YtghgnalbahneoaaDoor
