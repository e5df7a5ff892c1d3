/- Rows of terms: append, joined. -/
import Derived.Test.YtckedklopgnloaaDoorFrac6
import Derived.Outline
import Derived.RegionTactic
namespace Go.Proofs.YtckedklopgnloaaDoor
open Go.RowKit

theorem info_i64 : (Tryd.prog.info? 2).map (fun i => (i.zero, i.size, i.bytes)) = some (some (.int .i64 0), 1, 8) := by kernel_rfl
/-- a []int64 of the call's own -/
def OwnI (w : World) (B : Nat) (v : Value) (xs : List Int) : Prop := w.ownsRow B 2 1 v xs.length (xs.map (Value.int .i64))
theorem OwnI.nil (w : World) (B : Nat) : OwnI w B (.slice none 0 0) [] := World.ownsRow_nil _ _ _ _
theorem OwnI.below {w w' : World} {B : Nat} {v : Value} {xs : List Int} (h : OwnI w B v xs) (hb : Below w.heap.size w w') : OwnI w' B v xs := by
  obtain ⟨h1, h2⟩ := h
  refine ⟨h1, ?_⟩
  rcases h2 with h2 | ⟨g, cap, cur, hv, hB, hg, r⟩
  · exact .inl h2
  · exact .inr ⟨g, cap, cur, hv, hB, by rw [hb.block g (Array.getElem?_eq_some_iff.1 hg).1]; exact hg, r⟩
theorem OwnI.mono {w : World} {B B' : Nat} {v : Value} {xs : List Int} (h : OwnI w B v xs) (hB : B' ≤ B) : OwnI w B' v xs := by
  obtain ⟨h1, h2⟩ := h
  refine ⟨h1, ?_⟩
  rcases h2 with h2 | ⟨g, cap, cur, hv, hb, r⟩
  · exact .inl h2
  · exact .inr ⟨g, cap, cur, hv, by omega, r⟩
/-- a row of terms that is there -/
def RowI (w : World) (v : Value) (xs : List Int) : Prop := ∃ g cap, v = .slice (some ⟨g, 0, none⟩) xs.length cap ∧ g < w.heap.size ∧ ∀ i, i < xs.length → w.cell? ⟨g, i, none⟩ = some (.int .i64 (xs.getD i 0))
theorem OwnI.row {w : World} {B : Nat} {v : Value} {xs : List Int} (h : OwnI w B v xs) (hx : 0 < xs.length) : RowI w v xs := by
  rcases h.2 with ⟨_, h0⟩ | ⟨g, cap, cur, hv, hb, hg, hn, hcm, hcs, htake⟩
  · omega
  · refine ⟨g, cap, hv, (Array.getElem?_eq_some_iff.1 hg).1, fun i hi => ?_⟩
    rw [cell_of_row w g i cur _ _ hg]
    have h3 : (xs.map (Value.int .i64))[i]? = some (.int .i64 (xs.getD i 0)) := by simp [List.getD, hi]
    rw [← htake, List.getElem?_take] at h3
    exact (by simpa [show i < xs.length * 1 by omega, List.getD] using h3 : i < xs.length ∧ cur[i]? = some (Value.int .i64 (xs.getD i 0))).2
theorem RowI.below {w w' : World} {v : Value} {xs : List Int} (h : RowI w v xs) (hb : Below w.heap.size w w') : RowI w' v xs := by
  obtain ⟨g, cap, h1, h2, h3⟩ := h
  exact ⟨g, cap, h1, Nat.lt_of_lt_of_le h2 hb.size, fun i hi => (hb.cell (p := ⟨g, i, none⟩) h2).trans (h3 i hi)⟩
/-- append(l, n) : l of the call's own -/
theorem wpList_append_i64 {w : World} {ops : Array Oper} {rest : List Oper} {o : Oper} {a : Act} {Q : Exit → Act → World → Prop} (hgd : o.guard = none) (s x : Operand)
    (ho : o.op = .call { callee := .builtin .append, args := #[s, x], argTypes := #[41, 41] })
    (base : Nat) (v : Value) (xs : List Int) (hs : a.eval s = v) (hown : OwnI w base v xs) (g : Nat) (z : Int) (hx : a.eval x = .slice (some ⟨g, 0, none⟩) 1 1) (hg : w.heap[g]? = some (.cells #[.int .i64 z] 2 (0, 0)))
    (hlen : xs.length + 1 ≤ 10000000000) (hbase : base ≤ w.heap.size)
    (h : ∀ v' w', OwnI w' base v' (xs ++ [z]) → w.grownBy w' v.ownBlock → wpList Tryd.prog ops Q rest (a.put o.dst v') w') : wpList Tryd.prog ops Q (o :: rest) a w := by
  obtain ⟨i0, hi, hz0, hz1, hz2⟩ := info_parts info_i64
  refine wpList_append_own _ hgd s x _ ho base 2 i0 (.int .i64 0) 1 8 Tryd.underlying41 hi hz0 hz1 hz2 rfl (by decide) v xs.length (xs.map (Value.int .i64)) hs hown ⟨g, 0, none⟩ 1 1 [.int .i64 z] hx (by simp) ?_
    (by intro u hu; simp at hu; subst hu; rfl) (by unfold maxLen; omega) (by omega) hbase ?_
  · intro j u hj
    have hj0 : j = 0 := by have := (List.getElem?_eq_some_iff.1 hj).1; simp at this; omega
    subst hj0
    rw [Addr.add_lit, cell_of_row w g _ _ _ _ hg]
    simpa using hj
  · intro v' w' hown' hg' _
    exact h v' w' (by unfold OwnI; simpa using hown') hg'

theorem cont_app (a b : List Int) (p q : Int) : cont (a ++ b) p q = cont a (cont b p q).1 (cont b p q).2 := by
  induction a with
  | nil => rfl
  | cons x r ih => simp [cont, ih]

/-- joined's two boxes -/
structure Box2 (w : World) (p q : Int) (W : World) : Prop where
  low : Below w.heap.size w W
  size : w.heap.size + 1 + 1 ≤ W.heap.size
  r : W.heap[w.heap.size]? = some (.cells #[.int .i64 0, .int .i64 0] 23 (0, 0))
  f : W.heap[w.heap.size + 1]? = some (.cells #[.int .i64 p, .int .i64 q] 23 (0, 0))
theorem Box2.start (w : World) (p q : Int) : Box2 w p q ((w.alloc (.cells #[.int .i64 0, .int .i64 0] 23)).alloc (.cells #[.int .i64 p, .int .i64 q] 23)) := by
  have s1 : ∀ (o : Obj), (w.alloc o).heap.size = w.heap.size + 1 := fun o => by simp
  refine ⟨((Below.refl _ _).alloc (Nat.le_refl _) _).alloc (by rw [s1]; omega) _, by simp, ?_, ?_⟩
  · rw [Below.heap_alloc _ _ _ (by rw [s1]; omega), heap_alloc_new]
  · rw [← s1 (.cells #[.int .i64 0, .int .i64 0] 23), heap_alloc_new]
theorem Box2.drew {w W : World} {p q : Int} (h : Box2 w p q W) (n : Nat) : Box2 w p q (W.drewN n) := ⟨bel_drew h.low, h.size, h.r, h.f⟩
theorem Box2.set {w W : World} {p q : Int} (h : Box2 w p q W) (x y : Int) : Box2 w x y ((W.setCell ⟨w.heap.size + 1, 0, none⟩ (.int .i64 x)).setCell ⟨w.heap.size + 1, 1, none⟩ (.int .i64 y)) := by
  refine ⟨bel_set (by omega) (bel_set (by omega) h.low), by have := h.size; simpa [World.setCell] using this, ?_, ?_⟩
  · rw [Below.heap_setCell _ _ _ _ (show w.heap.size ≠ w.heap.size + 1 by omega), Below.heap_setCell _ _ _ _ (show w.heap.size ≠ w.heap.size + 1 by omega)]; exact h.r
  · have h1 := heap_setCell_same W (w.heap.size + 1) 0 _ _ (.int .i64 x) h.f
    rw [heap_setCell_same _ (w.heap.size + 1) 1 _ _ (.int .i64 y) h1]; rfl

set_option maxRecDepth 100000 in
set_option maxHeartbeats 2000000 in
theorem joined_any (v : Value) (l : List Int) (c : Int) (w : World) (hr : RowI w v (l ++ [c])) (hl : ∀ x ∈ l, 0 ≤ x) (hc : 1 ≤ c) (hm1 : (cont l c 1).1 ≤ 2147483647) (hm2 : (cont l c 1).2 ≤ 2147483647) (hlen : l.length ≤ 10000000000) :
    Calls Tryd.prog 54 #[v] w fun e w' => e = .returned (frV (cont l c 1).1 (cont l c 1).2) ∧ Below w.heap.size w w' := by
  obtain ⟨g, cap, rfl, hgw, hcell⟩ := hr
  have hn : (l ++ [c]).length = l.length + 1 := by simp
  rw [hn] at hcell ⊢
  have hlast := hcell l.length (by omega)
  rw [show (l ++ [c]).getD l.length 0 = c from by simp [List.getD]] at hlast
  have hcl : ∀ i, i < l.length → w.cell? ⟨g, i, none⟩ = some (.int .i64 (l.getD i 0)) := fun i hi => by
    rw [hcell i (by omega)]; simp [List.getD, List.getElem?_append_left hi]
  have HC := Lib.hid hcl
  have HL := Lib.hid hl
  clear hcell hn hcl hl
  generalize hm : l.length = m at *
  have HM := Lib.hid hm
  clear hm
  go_enter Tryd.func54, Tryd.ntmps54
  have HS0 := Lib.hid (Box2.start w c 1)
  go_wp2
  go_loopw [4] (fun i wr => ∃ (j : Nat) (z : Int), i = .int .i64 z ∧ -1 ≤ z ∧ z ≤ 10000000000 ∧ Hid (j ≤ m ∧ z + 1 = j) ∧ Hid (Box2 w (cont (l.drop j) c 1).1 (cont (l.drop j) c 1).2 wr)) (fun i _ => (intOf i + 1).toNat)
  case atStart => exact ⟨m, _, rfl, by omega, by omega, ⟨Nat.le_refl _, by omega⟩, by rw [List.drop_eq_nil_of_le (by have := HM.out; omega)]; exact HS0.out⟩
  case round =>
    obtain ⟨j, z, rfl, hz1, hz2, HJ, HB⟩ := hrel
    by_cases hj : j = 0
    · subst hj
      obtain rfl : z = -1 := by have := HJ.out; omega
      have HB2 : Hid (Box2 w (cont l c 1).1 (cont l c 1).2 wr) := HB.out
      obtain ⟨p, hp⟩ : ∃ p, p = (cont l c 1).1 := ⟨_, rfl⟩
      obtain ⟨q, hq⟩ : ∃ q, q = (cont l c 1).2 := ⟨_, rfl⟩
      rw [← hp, ← hq] at HB2
      have HP := Lib.hid hp
      have HQ := Lib.hid hq
      clear HB hp hq
      have r0 : wr.cell? ⟨w.heap.size, 0, none⟩ = some (.int .i64 0) := cell_of_row _ _ 0 _ _ _ HB2.out.r
      have r1 : wr.cell? ⟨w.heap.size, 1, none⟩ = some (.int .i64 0) := cell_of_row _ _ 1 _ _ _ HB2.out.r
      have f0 : wr.cell? ⟨w.heap.size + 1, 0, none⟩ = some (.int .i64 p) := cell_of_row _ _ 0 _ _ _ HB2.out.f
      have f1 : wr.cell? ⟨w.heap.size + 1, 1, none⟩ = some (.int .i64 q) := cell_of_row _ _ 1 _ _ _ HB2.out.f
      have q0 := frozen_of_row _ _ 0 _ _ HB2.out.r
      have q1 := frozen_of_row _ _ 1 _ _ HB2.out.r
      go_wp2
      exact bodyPost_ret (v := frV p q) (by simp [results, Tryd.results54, go_sem, *]) rfl ⟨by rw [HP.out, HQ.out], bel_set (Nat.le_refl _) (bel_set (Nat.le_refl _) HB2.out.low)⟩
    · obtain ⟨i, rfl⟩ : ∃ i, j = i + 1 := ⟨j - 1, by omega⟩
      obtain ⟨hjm, hjz⟩ := HJ.out
      obtain rfl : z = (i : Int) := by omega
      have hil : i < l.length := by have := HM.out; omega
      have hdr : l.drop i = l.getD i 0 :: l.drop (i + 1) := by
        rw [List.drop_eq_getElem_cons hil]; congr 1; simp [List.getD, hil]
      have hx0 : 0 ≤ l.getD i 0 := HL.out _ (by simp [List.getD, hil])
      obtain ⟨t1, t2, t3⟩ := cont_grows (l.take i) (fun x hx => HL.out x (List.mem_of_mem_take hx)) (l.getD i 0 * (cont (l.drop (i + 1)) c 1).1 + (cont (l.drop (i + 1)) c 1).2) (cont (l.drop (i + 1)) c 1).1
        (by
          obtain ⟨u1, u2, _⟩ := cont_grows (l.drop (i + 1)) (fun x hx => HL.out x (List.mem_of_mem_drop hx)) c 1 (by omega) (by omega)
          have := Int.mul_nonneg hx0 u1
          omega)
        (cont_grows (l.drop (i + 1)) (fun x hx => HL.out x (List.mem_of_mem_drop hx)) c 1 (by omega) (by omega)).1
      have hwhole : cont (l.take i) (l.getD i 0 * (cont (l.drop (i + 1)) c 1).1 + (cont (l.drop (i + 1)) c 1).2) (cont (l.drop (i + 1)) c 1).1 = cont l c 1 := by
        have h := cont_app (l.take i) (l.drop i) c 1
        rw [List.take_append_drop] at h
        rw [h, hdr]
        rfl
      rw [hwhole] at t3
      obtain ⟨b1, b2⟩ := t3 2147483647 hm1 hm2
      obtain ⟨u1, u2, _⟩ := cont_grows (l.drop (i + 1)) (fun x hx => HL.out x (List.mem_of_mem_drop hx)) c 1 (by omega) (by omega)
      have hpm := Int.mul_nonneg hx0 u1
      have hca := (HB.out.low.cell (p := ⟨g, i, none⟩) hgw).trans (HC.out i (by omega))
      have HNX : Hid (∀ W, Box2 w (l.getD i 0 * (cont (l.drop (i + 1)) c 1).1 + (cont (l.drop (i + 1)) c 1).2) (cont (l.drop (i + 1)) c 1).1 W → Box2 w (cont (l.drop i) c 1).1 (cont (l.drop i) c 1).2 W) := fun W h => by rw [hdr]; exact h
      clear hdr hwhole t1 t2 t3
      generalize (cont (l.drop (i + 1)) c 1).1 = p at *
      generalize (cont (l.drop (i + 1)) c 1).2 = q at *
      generalize l.getD i 0 = x at *
      have hpm2 : x * p ≤ 2147483647 := by omega
      have f0 : wr.cell? ⟨w.heap.size + 1, 0, none⟩ = some (.int .i64 p) := cell_of_row _ _ 0 _ _ _ HB.out.f
      have f1 : wr.cell? ⟨w.heap.size + 1, 1, none⟩ = some (.int .i64 q) := cell_of_row _ _ 1 _ _ _ HB.out.f
      have q0 : wr.frozen? ⟨w.heap.size + 1, 0, none⟩ = false := frozen_of_row _ _ 0 _ _ HB.out.f
      have q1 : wr.frozen? ⟨w.heap.size + 1, 1, none⟩ = false := frozen_of_row _ _ 1 _ _ HB.out.f
      have him : (i : Int) < (m : Int) + 1 := by omega
      clear hil hjm hjz hj HJ
      go_wp2
      go_region
      all_goals
        go_wp2
        go_roundw
        case rel => exact ⟨i, (i : Int) - 1, rfl, by omega, by omega, ⟨by omega, by omega⟩, HNX.out _ ((HB.out.drew _).set _ _)⟩
        case measure => simp [intOf]

end Go.Proofs.YtckedklopgnloaaDoor
