/- Cuts: (*flow).reach: its first region (rows and boxes made in whatever order): what holds while it runs.
Cuts: a row of numbers that is taken from in front and added to behind.
Cuts: (*flow).reach: what holds at its loop and in its rounds.
Cuts: (*flow).reach, walked (by program: wip/tools/gen_cf3.py). -/
import Derived.Test.YtenilbofncfbdaaCB
import Derived.Deep.AppendSrc
import Derived.OwnWalkIn
import Derived.Sort.LoopGhostIn
import Derived.Sort.CutIn
set_option linter.unusedSimpArgs false
set_option linter.unusedVariables false
namespace Go.Proofs.Ytenilbofncfbdaa
open Go.RowKit

structure RJ (w1 : World) (n : Nat) (d : Nat → Bool) (vs : Nat → Value) (W : World) : Prop where
  low : Below w1.heap.size w1 W
  h4 : d 4 = true → ∃ p, vs 4 = .slice (some ⟨p, 0, none⟩) n n ∧ RowB W p (List.replicate n false) ∧ w1.heap.size ≤ p
  h5 : d 5 = true → ∃ p, vs 5 = .slice (some ⟨p, 0, none⟩) 1 1 ∧ W.heap[p]? = some (.cells #[.int .i64 (-1)] 3 (0, 0)) ∧ w1.heap.size ≤ p
  h10 : d 10 = true → ∃ p, vs 10 = .slice (some ⟨p, 0, none⟩) n n ∧ RowI W p (List.replicate n (-1)) ∧ w1.heap.size ≤ p
  h11 : d 11 = true → ∃ p, vs 11 = .pointer (some ⟨p, 0, none⟩) ∧ w1.heap.size ≤ p ∧ ∃ x, W.heap[p]? = some (.cells #[x] 34 (0, 0)) ∧ (d 13 = true → x = vs 4)
  h12 : d 12 = true → ∃ p, vs 12 = .pointer (some ⟨p, 0, none⟩) ∧ w1.heap.size ≤ p ∧ ∃ x, W.heap[p]? = some (.cells #[x] 35 (0, 0)) ∧ (d 14 = true → x = vs 10)
  o13 : d 13 = true → d 4 = true
  o14 : d 14 = true → d 10 = true
  p13 : d 13 = true → d 11 = true
  p14 : d 14 = true → d 12 = true
theorem RJ.start (w1 : World) (n : Nat) (vs : Nat → Value) : RJ w1 n (fun _ => false) vs w1.drew :=
  ⟨(Below.refl _ _).drew, (fun h => by cases h), (fun h => by cases h), (fun h => by cases h), (fun h => by cases h), (fun h => by cases h), (fun h => by cases h), (fun h => by cases h), (fun h => by cases h), (fun h => by cases h)⟩
theorem RJ.grow {w1 : World} {n : Nat} {d : Nat → Bool} {vs : Nat → Value} {W W' : World} (h : RJ w1 n d vs W) (hb : Below W.heap.size W W') : RJ w1 n d vs W' := by
  refine ⟨h.low.trans (hb.mono h.low.size), fun e => ?_, fun e => ?_, fun e => ?_, fun e => ?_, fun e => ?_, h.o13, h.o14, h.p13, h.p14⟩
  · obtain ⟨p, h1, h2, h3⟩ := h.h4 e
    exact ⟨p, h1, h2.keep hb, h3⟩
  · obtain ⟨p, h1, h2, h3⟩ := h.h5 e
    exact ⟨p, h1, stays h2 hb, h3⟩
  · obtain ⟨p, h1, h2, h3⟩ := h.h10 e
    exact ⟨p, h1, h2.keep hb, h3⟩
  · obtain ⟨p, h1, h2, x, h3, h4⟩ := h.h11 e
    exact ⟨p, h1, h2, x, stays h3 hb, h4⟩
  · obtain ⟨p, h1, h2, x, h3, h4⟩ := h.h12 e
    exact ⟨p, h1, h2, x, stays h3 hb, h4⟩
theorem updC_ne {d : Nat → Bool} {i j : Nat} (h : j ≠ i) : updC d i j = d j := by unfold updC; rw [if_neg h]
theorem updW_ne {vs : Nat → Value} {i j : Nat} {v : Value} (h : j ≠ i) : updW vs i v j = vs j := by unfold updW; rw [if_neg h]
theorem updC_eq {d : Nat → Bool} {i : Nat} : updC d i i = true := by unfold updC; rw [if_pos rfl]
theorem updW_eq {vs : Nat → Value} {i : Nat} {v : Value} : updW vs i v i = v := by unfold updW; rw [if_pos rfl]
theorem RJ.quiet {w1 : World} {n : Nat} {d : Nat → Bool} {vs : Nat → Value} {W : World} (h : RJ w1 n d vs W) (i : Nat) (v : Value) (hi : i < 4 ∨ (5 < i ∧ i < 10)) : RJ w1 n (updC d i) (updW vs i v) W := by
  refine ⟨h.low, ?_, ?_, ?_, ?_, ?_, ?_, ?_, ?_, ?_⟩
  · rw [updC_ne (by omega), updW_ne (by omega)]; exact h.h4
  · rw [updC_ne (by omega), updW_ne (by omega)]; exact h.h5
  · rw [updC_ne (by omega), updW_ne (by omega)]; exact h.h10
  · rw [updC_ne (by omega), updC_ne (by omega), updW_ne (by omega), updW_ne (by omega)]; exact h.h11
  · rw [updC_ne (by omega), updC_ne (by omega), updW_ne (by omega), updW_ne (by omega)]; exact h.h12
  · rw [updC_ne (by omega), updC_ne (by omega)]; exact h.o13
  · rw [updC_ne (by omega), updC_ne (by omega)]; exact h.o14
  · rw [updC_ne (by omega), updC_ne (by omega)]; exact h.p13
  · rw [updC_ne (by omega), updC_ne (by omega)]; exact h.p14
theorem RJ.at4 {w1 : World} {n : Nat} {d : Nat → Bool} {vs : Nat → Value} {W : World} (h : RJ w1 n d vs W) (hd : d 4 = false) {p : Nat} (hp : RowB W p (List.replicate n false)) (hB : w1.heap.size ≤ p) : RJ w1 n (updC d 4) (updW vs 4 (.slice (some ⟨p, 0, none⟩) n n)) W := by
  refine ⟨h.low, fun _ => ⟨p, updW_eq, hp, hB⟩, ?_, ?_, ?_, ?_, fun _ => updC_eq, ?_, ?_, ?_⟩
  · rw [updC_ne (by omega), updW_ne (by omega)]; exact h.h5
  · rw [updC_ne (by omega), updW_ne (by omega)]; exact h.h10
  · rw [updC_ne (by omega), updC_ne (by omega), updW_ne (by omega)]
    intro e
    obtain ⟨p, h1, h2, x, h3, h4⟩ := h.h11 e
    exact ⟨p, h1, h2, x, h3, fun e => by have := h.o13 e; rw [hd] at this; cases this⟩
  · rw [updC_ne (by omega), updC_ne (by omega), updW_ne (by omega), updW_ne (by omega)]; exact h.h12
  · rw [updC_ne (by omega), updC_ne (by omega)]; exact h.o14
  · rw [updC_ne (by omega), updC_ne (by omega)]; exact h.p13
  · rw [updC_ne (by omega), updC_ne (by omega)]; exact h.p14
theorem RJ.at5 {w1 : World} {n : Nat} {d : Nat → Bool} {vs : Nat → Value} {W : World} (h : RJ w1 n d vs W) {p : Nat} (hp : W.heap[p]? = some (.cells #[.int .i64 (-1)] 3 (0, 0))) (hB : w1.heap.size ≤ p) : RJ w1 n (updC d 5) (updW vs 5 (.slice (some ⟨p, 0, none⟩) 1 1)) W := by
  refine ⟨h.low, ?_, fun _ => ⟨p, updW_eq, hp, hB⟩, ?_, ?_, ?_, ?_, ?_, ?_, ?_⟩
  · rw [updC_ne (by omega), updW_ne (by omega)]; exact h.h4
  · rw [updC_ne (by omega), updW_ne (by omega)]; exact h.h10
  · rw [updC_ne (by omega), updC_ne (by omega), updW_ne (by omega), updW_ne (by omega)]; exact h.h11
  · rw [updC_ne (by omega), updC_ne (by omega), updW_ne (by omega), updW_ne (by omega)]; exact h.h12
  · rw [updC_ne (by omega), updC_ne (by omega)]; exact h.o13
  · rw [updC_ne (by omega), updC_ne (by omega)]; exact h.o14
  · rw [updC_ne (by omega), updC_ne (by omega)]; exact h.p13
  · rw [updC_ne (by omega), updC_ne (by omega)]; exact h.p14
theorem RJ.at10 {w1 : World} {n : Nat} {d : Nat → Bool} {vs : Nat → Value} {W : World} (h : RJ w1 n d vs W) (hd : d 10 = false) {p : Nat} (hp : RowI W p (List.replicate n (-1))) (hB : w1.heap.size ≤ p) : RJ w1 n (updC d 10) (updW vs 10 (.slice (some ⟨p, 0, none⟩) n n)) W := by
  refine ⟨h.low, ?_, ?_, fun _ => ⟨p, updW_eq, hp, hB⟩, ?_, ?_, ?_, fun _ => updC_eq, ?_, ?_⟩
  · rw [updC_ne (by omega), updW_ne (by omega)]; exact h.h4
  · rw [updC_ne (by omega), updW_ne (by omega)]; exact h.h5
  · rw [updC_ne (by omega), updC_ne (by omega), updW_ne (by omega), updW_ne (by omega)]; exact h.h11
  · rw [updC_ne (by omega), updC_ne (by omega), updW_ne (by omega)]
    intro e
    obtain ⟨p, h1, h2, x, h3, h4⟩ := h.h12 e
    exact ⟨p, h1, h2, x, h3, fun e => by have := h.o14 e; rw [hd] at this; cases this⟩
  · rw [updC_ne (by omega), updC_ne (by omega)]; exact h.o13
  · rw [updC_ne (by omega), updC_ne (by omega)]; exact h.p13
  · rw [updC_ne (by omega), updC_ne (by omega)]; exact h.p14
theorem RJ.at11 {w1 : World} {n : Nat} {d : Nat → Bool} {vs : Nat → Value} {W : World} (h : RJ w1 n d vs W) (hd : d 13 = false) {p : Nat} {x : Value} (hp : W.heap[p]? = some (.cells #[x] 34 (0, 0))) (hB : w1.heap.size ≤ p) : RJ w1 n (updC d 11) (updW vs 11 (.pointer (some ⟨p, 0, none⟩))) W := by
  refine ⟨h.low, ?_, ?_, ?_, fun _ => ⟨p, updW_eq, hB, x, hp, fun e => by rw [updC_ne (by omega), hd] at e; cases e⟩, ?_, ?_, ?_, (fun e => by rw [updC_ne (by omega), hd] at e; cases e), ?_⟩
  · rw [updC_ne (by omega), updW_ne (by omega)]; exact h.h4
  · rw [updC_ne (by omega), updW_ne (by omega)]; exact h.h5
  · rw [updC_ne (by omega), updW_ne (by omega)]; exact h.h10
  · rw [updC_ne (by omega), updC_ne (by omega), updW_ne (by omega), updW_ne (by omega)]; exact h.h12
  · rw [updC_ne (by omega), updC_ne (by omega)]; exact h.o13
  · rw [updC_ne (by omega), updC_ne (by omega)]; exact h.o14
  · rw [updC_ne (by omega), updC_ne (by omega)]; exact h.p14
theorem RJ.at12 {w1 : World} {n : Nat} {d : Nat → Bool} {vs : Nat → Value} {W : World} (h : RJ w1 n d vs W) (hd : d 14 = false) {p : Nat} {x : Value} (hp : W.heap[p]? = some (.cells #[x] 35 (0, 0))) (hB : w1.heap.size ≤ p) : RJ w1 n (updC d 12) (updW vs 12 (.pointer (some ⟨p, 0, none⟩))) W := by
  refine ⟨h.low, ?_, ?_, ?_, ?_, fun _ => ⟨p, updW_eq, hB, x, hp, fun e => by rw [updC_ne (by omega), hd] at e; cases e⟩, ?_, ?_, ?_, (fun e => by rw [updC_ne (by omega), hd] at e; cases e)⟩
  · rw [updC_ne (by omega), updW_ne (by omega)]; exact h.h4
  · rw [updC_ne (by omega), updW_ne (by omega)]; exact h.h5
  · rw [updC_ne (by omega), updW_ne (by omega)]; exact h.h10
  · rw [updC_ne (by omega), updC_ne (by omega), updW_ne (by omega), updW_ne (by omega)]; exact h.h11
  · rw [updC_ne (by omega), updC_ne (by omega)]; exact h.o13
  · rw [updC_ne (by omega), updC_ne (by omega)]; exact h.o14
  · rw [updC_ne (by omega), updC_ne (by omega)]; exact h.p13
/-- a block of another type is another block -/
theorem blk_ne {W : World} {p q : Nat} {cs ds : Array Value} {t u : TypeId} {fr : Nat × Nat} (h : W.heap[p]? = some (.cells cs t fr)) (k : W.heap[q]? = some (.cells ds u fr)) (ht : t ≠ u) : p ≠ q := by
  rintro rfl
  rw [h] at k
  injection k with k
  injection k with _ k
  exact ht k
theorem RJ.at13 {w1 : World} {n : Nat} {d : Nat → Bool} {vs : Nat → Value} {W : World} (h : RJ w1 n d vs W) (hd4 : d 4 = true) (hd11 : d 11 = true) {p : Nat} (hv : vs 11 = .pointer (some ⟨p, 0, none⟩)) : RJ w1 n (updC d 13) vs (W.setCell ⟨p, 0, none⟩ (vs 4)) := by
  obtain ⟨p', h1, h2, x, h3, -⟩ := h.h11 hd11
  rw [hv] at h1
  obtain rfl : p = p' := by injection h1 with h1; injection h1 with h1; injection h1
  refine ⟨bel_set h2 h.low, ?_, ?_, ?_, ?_, ?_, fun _ => by rw [updC_ne (by omega)]; exact hd4, ?_, fun _ => by rw [updC_ne (by omega)]; exact hd11, ?_⟩
  · rw [updC_ne (by omega)]
    intro e
    obtain ⟨q, k1, k2, k3⟩ := h.h4 e
    exact ⟨q, k1, k2.other (blk_ne k2 h3 (by decide)) _, k3⟩
  · rw [updC_ne (by omega)]
    intro e
    obtain ⟨q, k1, k2, k3⟩ := h.h5 e
    exact ⟨q, k1, (Below.heap_setCell _ _ _ _ (blk_ne k2 h3 (by decide))).trans k2, k3⟩
  · rw [updC_ne (by omega)]
    intro e
    obtain ⟨q, k1, k2, k3⟩ := h.h10 e
    exact ⟨q, k1, k2.other (blk_ne k2 h3 (by decide)) _, k3⟩
  · intro _
    refine ⟨p, hv, h2, vs 4, ?_, fun _ => rfl⟩
    simp [World.setCell, Array.getElem?_modify, h3]
  · rw [updC_ne (by omega), updC_ne (by omega)]
    intro e
    obtain ⟨q, k1, k2, y, k3, k4⟩ := h.h12 e
    exact ⟨q, k1, k2, y, (Below.heap_setCell _ _ _ _ (blk_ne k3 h3 (by decide))).trans k3, k4⟩
  · rw [updC_ne (by omega), updC_ne (by omega)]; exact h.o14
  · rw [updC_ne (by omega), updC_ne (by omega)]; exact h.p14
theorem RJ.at14 {w1 : World} {n : Nat} {d : Nat → Bool} {vs : Nat → Value} {W : World} (h : RJ w1 n d vs W) (hd10 : d 10 = true) (hd12 : d 12 = true) {p : Nat} (hv : vs 12 = .pointer (some ⟨p, 0, none⟩)) : RJ w1 n (updC d 14) vs (W.setCell ⟨p, 0, none⟩ (vs 10)) := by
  obtain ⟨p', h1, h2, x, h3, -⟩ := h.h12 hd12
  rw [hv] at h1
  obtain rfl : p = p' := by injection h1 with h1; injection h1 with h1; injection h1
  refine ⟨bel_set h2 h.low, ?_, ?_, ?_, ?_, ?_, ?_, fun _ => by rw [updC_ne (by omega)]; exact hd10, ?_, fun _ => by rw [updC_ne (by omega)]; exact hd12⟩
  · rw [updC_ne (by omega)]
    intro e
    obtain ⟨q, k1, k2, k3⟩ := h.h4 e
    exact ⟨q, k1, k2.other (blk_ne k2 h3 (by decide)) _, k3⟩
  · rw [updC_ne (by omega)]
    intro e
    obtain ⟨q, k1, k2, k3⟩ := h.h5 e
    exact ⟨q, k1, (Below.heap_setCell _ _ _ _ (blk_ne k2 h3 (by decide))).trans k2, k3⟩
  · rw [updC_ne (by omega)]
    intro e
    obtain ⟨q, k1, k2, k3⟩ := h.h10 e
    exact ⟨q, k1, k2.other (blk_ne k2 h3 (by decide)) _, k3⟩
  · rw [updC_ne (by omega), updC_ne (by omega)]
    intro e
    obtain ⟨q, k1, k2, y, k3, k4⟩ := h.h11 e
    exact ⟨q, k1, k2, y, (Below.heap_setCell _ _ _ _ (blk_ne k3 h3 (by decide))).trans k3, k4⟩
  · intro _
    refine ⟨p, hv, h2, vs 10, ?_, fun _ => rfl⟩
    simp [World.setCell, Array.getElem?_modify, h3]
  · rw [updC_ne (by omega), updC_ne (by omega)]; exact h.o13
  · rw [updC_ne (by omega), updC_ne (by omega)]; exact h.p13
end Go.Proofs.Ytenilbofncfbdaa

namespace Go.Proofs.Ytenilbofncfbdaa
open Go.RowKit

/-- v reads as the numbers xs, which lie in block g -/
def Que (w : World) (g : Nat) (v : Value) (xs : List Int) : Prop :=
  ∃ off cap arr, v = .slice (some ⟨g, off, none⟩) xs.length cap ∧ w.heap[g]? = some (.cells arr 3 (0, 0)) ∧ xs.length ≤ cap ∧ off + cap ≤ arr.size ∧ ∀ i, i < xs.length → arr[off + i]? = some (intV (xs.getD i 0))
theorem Que.of {w w' : World} {g : Nat} {v : Value} {xs : List Int} (h : Que w g v xs) (e : w'.heap[g]? = w.heap[g]?) : Que w' g v xs := by
  obtain ⟨off, cap, arr, h1, h2, h3⟩ := h
  exact ⟨off, cap, arr, h1, e.trans h2, h3⟩
theorem Que.lt {w : World} {g : Nat} {v : Value} {xs : List Int} (h : Que w g v xs) : g < w.heap.size := by
  obtain ⟨off, cap, arr, h1, h2, h3⟩ := h
  exact (Array.getElem?_eq_some_iff.1 h2).1
theorem Que.keep {w w' : World} {g : Nat} {v : Value} {xs : List Int} (h : Que w g v xs) (hb : Below w.heap.size w w') : Que w' g v xs := h.of (hb.block g h.lt)
theorem Que.lit {w : World} {g : Nat} {z : Int} (h : w.heap[g]? = some (.cells #[intV z] 3 (0, 0))) : Que w g (.slice (some ⟨g, 0, none⟩) 1 1) [z] :=
  ⟨0, 1, _, rfl, h, Nat.le_refl _, Nat.le_refl _, fun i hi => by
    obtain rfl : i = 0 := by simp at hi; omega
    rfl⟩
theorem Que.slice {w : World} {g : Nat} {v : Value} {xs : List Int} (h : Que w g v xs) : ∃ off cap, v = .slice (some ⟨g, off, none⟩) xs.length cap ∧ xs.length ≤ cap ∧ ∀ i, i < xs.length → w.cell? ⟨g, off + i, none⟩ = some (intV (xs.getD i 0)) := by
  obtain ⟨off, cap, arr, h1, h2, h3, h4, h5⟩ := h
  exact ⟨off, cap, h1, h3, fun i hi => by simp [World.cell?, h2, h5 i hi]⟩
/-- the first one is taken -/
theorem Que.tail {w : World} {g off cap n : Nat} {x : Int} {xs : List Int} (h : Que w g (.slice (some ⟨g, off, none⟩) n cap) (x :: xs)) : ∃ v', Que w g v' xs ∧ n = xs.length + 1 ∧ ∀ W k, (Instr.slice 35 (.slice (some ⟨g, off, none⟩) n cap) (some (.int k 1)) none none).run Try.prog W = .ok v' W := by
  obtain ⟨o2, c2, arr, h1, h2, h3, h4, h5⟩ := h
  injection h1 with e1 e2 e3
  injection e1 with e1
  injection e1 with _ e1
  subst e1
  subst e2
  subst e3
  simp only [List.length_cons] at h3 h5 ⊢
  have hrun : ∀ W k, (Instr.slice 35 (.slice (some ⟨g, off, none⟩) (xs.length + 1) cap) (some (.int k 1)) none none).run Try.prog W = .ok (.slice (if cap = 1 then some ⟨g, off, none⟩ else some ⟨g, off + 1, none⟩) xs.length (cap - 1)) W := by
    intro W k
    rw [run_slice_l W 35 _ _ _ Try.underlying35 k 1 (by omega) (by omega)]
    have e : (sizeOf (Try.prog.elem 35)).run Try.prog W = .ok 1 W := by kernel_rfl
    rw [e]
    simp [sliced, Addr.add, Result.andThen]
  by_cases hc : cap = 1
  · simp only [if_pos hc] at hrun
    refine ⟨_, ?_, trivial, hrun⟩
    refine ⟨off, cap - 1, arr, rfl, h2, by omega, by omega, fun i hi => by omega⟩
  · simp only [if_neg hc] at hrun
    refine ⟨_, ?_, trivial, hrun⟩
    refine ⟨off + 1, cap - 1, arr, rfl, h2, by omega, by omega, fun i hi => ?_⟩
    have := h5 (i + 1) (by omega)
    rw [show off + 1 + i = off + (i + 1) by omega, this]
    rfl
/-- one more behind -/
theorem Que.run_append {w : World} {g : Nat} {v : Value} {xs : List Int} (ty : TypeId) (h : Que w g v xs) (hl : xs.length ≤ 1000) {l : Nat} {z : Int} (hz : w.heap[l]? = some (.cells #[intV z] 3 (0, 0))) :
    ∃ g' v' w', (Builtin.append_ #[35, 35] ty #[v, .slice (some ⟨l, 0, none⟩) 1 1]).run Try.prog w = .ok v' w' ∧ Que w' g' v' (xs ++ [z]) ∧ (g' = g ∨ g' = w.heap.size) ∧ w.heap.size ≤ w'.heap.size ∧ (∀ c, c ≠ g → c < w.heap.size → w'.heap[c]? = w.heap[c]?) ∧ Below g w w' := by
  obtain ⟨off, cap, arr, rfl, h2, h3, h4, h5⟩ := h
  obtain ⟨i0, hi, hz0, hz1, hz2⟩ := info_parts info_int
  have hglt := (Array.getElem?_eq_some_iff.1 h2).1
  have hsrc : Src Try.prog i0.size 35 (.slice (some ⟨l, 0, none⟩) 1 1) 1 [intV z] w := Src.ofSlice w Try.underlying35 ⟨l, 0, none⟩ 1 1 [intV z] (by rw [hz1]; rfl) (by
    intro j u hj
    have hj0 : j = 0 := by have := (List.getElem?_eq_some_iff.1 hj).1; simp at this; omega
    subst hj0
    rw [Addr.add_lit, cell_of_row w l _ _ _ _ hz]
    simpa using hj) (by intro u hu; simp at hu; subst hu; rfl)
  by_cases hroom : xs.length + 1 ≤ cap
  · have hr := run_append_room_src (P := Try.prog) w 35 35 ty 3 i0 Try.underlying35 hi g off xs.length cap _ 1 [intV z] hsrc hroom (by
      intro j hj
      have hj0 : j = 0 := by simpa using hj
      subst hj0
      have hlt : off + xs.length < arr.size := by omega
      simp [World.cell?, h2, hz1, hlt]) (by
      intro j hj
      simp [World.frozen?, h2])
    refine ⟨g, _, _, hr, ?_, .inl rfl, ?_, ?_, ?_⟩
    · rw [hz1, Nat.mul_one]
      have hset : (w.setCells g (off + xs.length) [intV z]).heap[g]? = some (.cells (arr.setIfInBounds (off + xs.length) (intV z)) 3 (0, 0)) := by
        simp [World.setCells, World.setCell, Array.getElem?_modify, h2]
      refine ⟨off, cap, _, by simp, hset, by simpa using hroom, by simpa using h4, fun i hi => ?_⟩
      rw [List.length_append, List.length_singleton] at hi
      by_cases e : i = xs.length
      · subst e
        have hlt : off + xs.length < arr.size := by omega
        simp [hlt, List.getD]
      · rw [Array.getElem?_setIfInBounds, if_neg (by omega), h5 i (by omega)]
        congr 2
        rw [List.getD_eq_getElem?_getD, List.getD_eq_getElem?_getD, List.getElem?_append_left (by omega)]
    · rw [hz1]; simp [World.setCells]
    · intro c hc _
      exact Below.heap_setCell _ _ _ _ hc
    · exact (Below.refl g w).setCell (p := ⟨g, _, none⟩) (Nat.le_refl _) _
  · have hold : (Builtin.firstCells i0.size xs.length (.slice (some ⟨g, off, none⟩) xs.length cap)).run Try.prog w.drew = .ok (xs.map intV).toArray w.drew := by
      refine run_firstCells_some w.drew i0.size xs.length ⟨g, off, none⟩ xs.length cap (xs.map intV) (by rw [hz1]; simp) (fun j u hj => ?_)
      have hjl : j < xs.length := by have := (List.getElem?_eq_some_iff.1 hj).1; simpa using this
      rw [Addr.add_lit]
      have h6 := h5 j hjl
      simp [hjl] at hj
      subst hj
      show w.cell? ⟨g, off + j, none⟩ = _
      simp [World.cell?, h2, h6, List.getD, hjl]
    have hr := run_append_grow_src (P := Try.prog) w 35 35 ty 3 i0 (.int .i64 0) Try.underlying35 hi hz0 (some ⟨g, off, none⟩) xs.length cap (xs.map intV) hold _ 1 [intV z] hsrc (by omega) (by omega) (growslice_fits (by omega) (by rw [hz2]; omega))
    have hge := grownCap_ge w (xs.length + 1) cap 3
    refine ⟨w.heap.size, _, _, hr, ?_, .inr rfl, by simp, ?_, ?_⟩
    · refine ⟨0, grownCap w (xs.length + 1) cap 3, _, by simp, heap_alloc_new w.drew _, by simpa using hge, ?_, fun i hi => ?_⟩
      · simp [size_zeroCells]
        rw [show (Value.int .i64 0).cells.size = 1 from rfl]
        omega
      · rw [List.length_append, List.length_singleton] at hi
        rw [Nat.zero_add, Array.getElem?_append_left (by simp; omega)]
        simp only [List.getElem?_toArray]
        by_cases e : i = xs.length
        · subst e; simp [List.getD]
        · rw [List.getElem?_append_left (by simp; omega)]
          rw [List.getD_eq_getElem?_getD, List.getElem?_append_left (by omega)]
          simp [show i < xs.length by omega]
    · intro c _ hc
      exact Below.heap_alloc w.drew _ c hc
    · exact ((Below.refl g w).drew).alloc (by show g ≤ w.heap.size; omega) _
/-- append(v, z), within a fence -/
theorem wpListIn_append_que {F : Fence} {n : Nat} {w : World} {ops : Array Oper} {rest : List Oper} {o : Oper} {a : Act} {Q : Exit → Act → World → Prop} (hgd : o.guard = none) (s x : Operand)
    (ho : o.op = .call { callee := .builtin .append, args := #[s, x], argTypes := #[35, 35] }) {g : Nat} {v : Value} {xs : List Int} (hs : a.eval s = v) (hq : Que w g v xs) (hl : xs.length ≤ 1000) (l : Nat) (z : Int) (hx : a.eval x = .slice (some ⟨l, 0, none⟩) 1 1) (hz : w.heap[l]? = some (.cells #[intV z] 3 (0, 0)))
    (h : ∀ g' v' w', Que w' g' v' (xs ++ [z]) → (g' = g ∨ g' = w.heap.size) → w.heap.size ≤ w'.heap.size → (∀ c, c ≠ g → c < w.heap.size → w'.heap[c]? = w.heap[c]?) → Below g w w' → wpListIn F n Try.prog ops Q rest (a.put o.dst v') w') : wpListIn F n Try.prog ops Q (o :: rest) a w := by
  obtain ⟨g', v', w', hr, h1, h2, h3, h4, h5⟩ := hq.run_append o.type hl hz
  refine wpListIn_plain hgd fun K hK' => ?_
  unfold Oper.wpIn
  refine ⟨?_, ?_⟩
  · simp [Oper.about, ho, resolve, Target.leads, Sem.run_pure]
  · rw [Oper.semAt_plain F _ _ (by rw [ho]; intro c hc'; cases hc')]
    simp [execOp, ho, resolve, invoke, builtin, hs, hx, hr, Result.andThen]
    exact hK' _ _ (h g' v' w' h1 h2 h3 h4 h5)

/-- v[1:], within a fence -/
theorem wpListIn_tail_que {F : Fence} {n : Nat} {w : World} {ops : Array Oper} {rest : List Oper} {o : Oper} {a : Act} {Q : Exit → Act → World → Prop} (hgd : o.guard = none) (s : Operand)
    (ho : o.op = .slice 35 s (some (.const (.int .i64 1))) none none) {w0 : World} {g off len cap : Nat} {x : Int} {xs : List Int} (hs : a.eval s = .slice (some ⟨g, off, none⟩) len cap) (hq : Que w0 g (.slice (some ⟨g, off, none⟩) len cap) (x :: xs))
    (h : ∀ v', Que w0 g v' xs → wpListIn F n Try.prog ops Q rest (a.put o.dst v') w) : wpListIn F n Try.prog ops Q (o :: rest) a w := by
  obtain ⟨v', h1, h2, hrun⟩ := hq.tail
  refine wpListIn_plain hgd fun K hK' => ?_
  unfold Oper.wpIn
  refine ⟨?_, ?_⟩
  · simp [Oper.about, ho]
  · rw [Oper.semAt_plain F _ _ (by rw [ho]; intro c hc'; cases hc')]
    have hex : (execOp a.eval o).run Try.prog w = .ok (.value v') w := by
      have hr := hrun w .i64
      unfold execOp
      rw [ho]
      simp only [Option.map_some, Option.map_none, hs]
      simp [go_sem, Result.andThen, hs, Act.eval, hr]
    rw [hex]
    exact hK' _ _ (h v' h1)

end Go.Proofs.Ytenilbofncfbdaa

namespace Go.Proofs.Ytenilbofncfbdaa
open Go.RowKit

/-- numbers of nodes as numbers -/
abbrev nI (ws : List Nat) : List Int := ws.map fun (x : Nat) => (x : Int)
/-- the search in memory: its two rows, the boxes that hold them, the row of those that wait and its box -/
structure RS (w1 : World) (n ib yb ip yp wp gq : Nat) (wv : Value) (i : List Bool) (y : List Int) (ws : List Nat) (W : World) : Prop where
  low : Below w1.heap.size w1 W
  rb : RowB W ib i
  ry : RowI W yb y
  bi : W.heap[ip]? = some (.cells #[.slice (some ⟨ib, 0, none⟩) n n] 34 (0, 0))
  bY : W.heap[yp]? = some (.cells #[.slice (some ⟨yb, 0, none⟩) n n] 35 (0, 0))
  bw : W.heap[wp]? = some (.cells #[wv] 35 (0, 0))
  q : Que W gq wv (nI ws)
  ge : w1.heap.size ≤ ib ∧ w1.heap.size ≤ yb ∧ w1.heap.size ≤ ip ∧ w1.heap.size ≤ yp ∧ w1.heap.size ≤ wp ∧ w1.heap.size ≤ gq
  n1 : gq ≠ yb
  n2 : yp ≠ wp
  il : i.length = n
  yl : y.length = n
section
variable {w1 : World} {n ib yb ip yp wp gq : Nat} {wv : Value} {i : List Bool} {y : List Int} {ws : List Nat} {W : World}
/-- it stays where its seven blocks stay -/
theorem RS.of {W' : World} (h : RS w1 n ib yb ip yp wp gq wv i y ws W) (hl : Below w1.heap.size w1 W') (hk : ∀ k cs t fr, W.heap[k]? = some (.cells cs t fr) → (k = ib ∨ k = yb ∨ k = ip ∨ k = yp ∨ k = wp ∨ k = gq) → W'.heap[k]? = W.heap[k]?) : RS w1 n ib yb ip yp wp gq wv i y ws W' := by
  have hq := h.q
  obtain ⟨off, cap, arr, e1, e2, e3⟩ := hq
  exact ⟨hl, h.rb.of (hk _ _ _ _ h.rb (by simp)), h.ry.of (hk _ _ _ _ h.ry (by simp)), (hk _ _ _ _ h.bi (by simp)).trans h.bi, (hk _ _ _ _ h.bY (by simp)).trans h.bY, (hk _ _ _ _ h.bw (by simp)).trans h.bw, h.q.of (hk _ _ _ _ e2 (by simp)), h.ge, h.n1, h.n2, h.il, h.yl⟩
theorem RS.below {W' : World} (h : RS w1 n ib yb ip yp wp gq wv i y ws W) (hb : Below W.heap.size W W') : RS w1 n ib yb ip yp wp gq wv i y ws W' :=
  h.of (h.low.trans (hb.mono h.low.size)) fun k cs t fr hk _ => hb.block k (Array.getElem?_eq_some_iff.1 hk).1
theorem RS.put {l : Nat} {o o' : Obj} (h : RS w1 n ib yb ip yp wp gq wv i y ws W) (hl : w1.heap.size ≤ l) (ho : W.heap[l]? = some o) (hc : o.isCells = false) : RS w1 n ib yb ip yp wp gq wv i y ws (W.putObj l o') :=
  h.of (h.low.trans ((Below.refl _ W).grown (grownBy_putObj' W l o') (by have := h.low.size; omega) (fun k e => by cases e; omega))) fun k cs t fr hk _ => (row_put o' hk ho hc).trans hk.symm
theorem RS.setI {u : Nat} (h : RS w1 n ib yb ip yp wp gq wv i y ws W) : RS w1 n ib yb ip yp wp gq wv (i.set u true) y ws (W.setCell ⟨ib, u, none⟩ (.bool true)) := by
  have e : ∀ c, c ≠ ib → (W.setCell ⟨ib, u, none⟩ (.bool true)).heap[c]? = W.heap[c]? := fun c h1 => Below.heap_setCell _ _ _ _ h1
  obtain ⟨off, cap, arr, e1, e2, e3⟩ := h.q
  have hrb : W.heap[ib]? = some (.cells (i.map Value.bool).toArray 4 (0, 0)) := h.rb
  have hry : W.heap[yb]? = some (.cells (y.map intV).toArray 3 (0, 0)) := h.ry
  exact ⟨bel_set h.ge.1 h.low, RowB.set h.rb u true, h.ry.of (e _ (blk_ne hry hrb (by decide))), (e _ (blk_ne h.bi hrb (by decide))).trans h.bi, (e _ (blk_ne h.bY hrb (by decide))).trans h.bY, (e _ (blk_ne h.bw hrb (by decide))).trans h.bw, h.q.of (e _ (blk_ne e2 hrb (by decide))), h.ge, h.n1, h.n2, by simpa using h.il, h.yl⟩
theorem RS.setY {u k : Nat} (h : RS w1 n ib yb ip yp wp gq wv i y ws W) : RS w1 n ib yb ip yp wp gq wv i (y.set u (k : Int)) ws (W.setCell ⟨yb, u, none⟩ (.int .i64 (k : Int))) := by
  have e : ∀ c, c ≠ yb → (W.setCell ⟨yb, u, none⟩ (.int .i64 (k : Int))).heap[c]? = W.heap[c]? := fun c h1 => Below.heap_setCell _ _ _ _ h1
  have hrb : W.heap[ib]? = some (.cells (i.map Value.bool).toArray 4 (0, 0)) := h.rb
  have hry : W.heap[yb]? = some (.cells (y.map intV).toArray 3 (0, 0)) := h.ry
  exact ⟨bel_set h.ge.2.1 h.low, h.rb.of (e _ (blk_ne hrb hry (by decide))), RowI.set h.ry u _, (e _ (blk_ne h.bi hry (by decide))).trans h.bi, (e _ (blk_ne h.bY hry (by decide))).trans h.bY, (e _ (blk_ne h.bw hry (by decide))).trans h.bw, h.q.of (e _ h.n1), h.ge, h.n1, h.n2, h.il, by simpa using h.yl⟩
/-- those that wait are others now, and lie in the box -/
theorem RS.wait {W' : World} {gq' : Nat} {wv' : Value} {ws' : List Nat} (h : RS w1 n ib yb ip yp wp gq wv i y ws W) (hq : Que W' gq' wv' (nI ws')) (hg : gq' = gq ∨ gq' = W.heap.size) (hs : W.heap.size ≤ W'.heap.size) (ho : ∀ c, c ≠ gq → c < W.heap.size → W'.heap[c]? = W.heap[c]?) (hb : Below gq W W') : RS w1 n ib yb ip yp wp gq' wv' i y ws' (W'.setCell ⟨wp, 0, none⟩ wv') := by
  obtain ⟨off, cap, arr, e1, e2, e3⟩ := h.q
  obtain ⟨off', cap', arr', f1, f2, f3⟩ := hq
  have lt : ∀ {k : Nat} {o : Obj}, W.heap[k]? = some o → k < W.heap.size := fun hk => (Array.getElem?_eq_some_iff.1 hk).1
  have hwq : wp ≠ gq := blk_ne h.bw e2 (by decide)
  have kw : W'.heap[wp]? = some (.cells #[wv] 35 (0, 0)) := (ho wp hwq (lt h.bw)).trans h.bw
  have hwq' : gq' ≠ wp := by
    rintro rfl
    rw [f2] at kw
    injection kw with kw
    injection kw with _ kw
    revert kw
    decide
  have e : ∀ {c : Nat} {cs : Array Value} {t : TypeId} {fr : Nat × Nat}, W.heap[c]? = some (.cells cs t fr) → c ≠ gq → c ≠ wp → (W'.setCell ⟨wp, 0, none⟩ wv').heap[c]? = W.heap[c]? := fun hc h1 h2 => (Below.heap_setCell _ _ _ _ h2).trans (ho _ h1 (lt hc))
  refine ⟨bel_set h.ge.2.2.2.2.1 (h.low.trans (hb.mono h.ge.2.2.2.2.2)), h.rb.of (e h.rb (blk_ne h.rb e2 (by decide)) (blk_ne h.rb h.bw (by decide))), h.ry.of (e h.ry (Ne.symm h.n1) (blk_ne h.ry h.bw (by decide))), (e h.bi (blk_ne h.bi e2 (by decide)) (blk_ne h.bi h.bw (by decide))).trans h.bi, (e h.bY (blk_ne h.bY e2 (by decide)) h.n2).trans h.bY, ?_, ⟨off', cap', arr', f1, (Below.heap_setCell _ _ _ _ hwq').trans f2, f3⟩, ⟨h.ge.1, h.ge.2.1, h.ge.2.2.1, h.ge.2.2.2.1, h.ge.2.2.2.2.1, ?_⟩, ?_, h.n2, h.il, h.yl⟩
  · simp [World.setCell, Array.getElem?_modify, kw]
  · rcases hg with rfl | rfl
    · exact h.ge.2.2.2.2.2
    · exact h.low.size
  · rcases hg with rfl | rfl
    · exact h.n1
    · have := lt h.ry; omega
end

/-- within the rounds: pre has been looked at, rest has not -/
structure RI (w1 : World) (L : Prs) (g : List Int) (n b v : Nat) (lv : Value) (N0 U : Nat) (ds : List Deferred) (ib yb ip yp wp qn vb : Nat) (i0 : List Bool) (y0 : List Int) (ws0 : List Nat) (gq : Nat) (wv : Value) (i : List Bool) (y : List Int) (ws : List Nat) (pre rest : List (Nat × Nat)) (W : World) : Prop where
  sp : nbF L v = pre ++ rest
  sc : scanB L g b v (nbF L v) i0 y0 ws0 = scanB L g b v rest i y ws
  rs : RS w1 n ib yb ip yp wp gq wv i y ws W
  inv : InvN qn lv L v W
  bv : W.heap[vb]? = some (.cells #[.int .i64 (v : Int)] 3 (0, 0))
  mks : Marks N0 U ds W
  g1 : gq ≠ vb
  g2 : gq ≠ qn + 1
  y1 : yb ≠ vb
  y2 : yb ≠ qn + 1
section
variable {w1 : World} {L : Prs} {g : List Int} {n b v : Nat} {lv : Value} {N0 U : Nat} {ds : List Deferred} {ib yb ip yp wp qn vb : Nat} {i0 : List Bool} {y0 : List Int} {ws0 : List Nat} {gq : Nat} {wv : Value} {i : List Bool} {y : List Int} {ws : List Nat} {pre rest : List (Nat × Nat)} {W : World}
theorem RI.below {W' : World} (h : RI w1 L g n b v lv N0 U ds ib yb ip yp wp qn vb i0 y0 ws0 gq wv i y ws pre rest W) (hb : Below W.heap.size W W') : RI w1 L g n b v lv N0 U ds ib yb ip yp wp qn vb i0 y0 ws0 gq wv i y ws pre rest W' :=
  ⟨h.sp, h.sc, h.rs.below hb, h.inv.below hb, stays h.bv hb, h.mks.below hb, h.g1, h.g2, h.y1, h.y2⟩
theorem Lis.put {l : Nat} {o o' : Obj} (h : Lis W W.heap.size lv L) (ho : W.heap[l]? = some o) (hc : o.isCells = false) : Lis (W.putObj l o') (W.putObj l o').heap.size lv L := by
  obtain ⟨ao, cap, h1, h2, h3, h4, h5⟩ := h
  refine ⟨ao, cap, h1, h2, h3, h4, fun hne => ?_⟩
  obtain ⟨bb, off, h6, h7, h8⟩ := h5 hne
  have key : ∀ (k : Nat) (x : Value), W.cell? ⟨bb, k, none⟩ = some x → (W.putObj l o').cell? ⟨bb, k, none⟩ = some x := by
    intro k x hx
    have hbl : bb ≠ l := by
      rintro rfl
      simp only [World.cell?, ho] at hx
      cases o <;> simp [Obj.isCells] at hc hx
    rw [← hx]
    exact World.cell?_of_block (a := ⟨bb, k, none⟩) (World.putObj_heap_other (by omega))
  exact ⟨bb, off, h6, by simpa [World.putObj] using h7, fun k hk => ⟨key _ _ (h8 k hk).1, key _ _ (h8 k hk).2⟩⟩
theorem RI.put {l : Nat} {o o' : Obj} (h : RI w1 L g n b v lv N0 U ds ib yb ip yp wp qn vb i0 y0 ws0 gq wv i y ws pre rest W) (hl : w1.heap.size ≤ l) (hU : U ≤ l) (ho : W.heap[l]? = some o) (hc : o.isCells = false) : RI w1 L g n b v lv N0 U ds ib yb ip yp wp qn vb i0 y0 ws0 gq wv i y ws pre rest (W.putObj l o') :=
  ⟨h.sp, h.sc, h.rs.put hl ho hc, ⟨row_put o' h.inv.1 ho hc, row_put o' h.inv.2.1 ho hc, Lis.put h.inv.2.2 ho hc⟩, row_put o' h.bv ho hc, h.mks.put hU, h.g1, h.g2, h.y1, h.y2⟩
theorem RI.next {W' : World} {gq' : Nat} {wv' : Value} {i' : List Bool} {y' : List Int} {ws' : List Nat} {pre' rest' : List (Nat × Nat)} (h : RI w1 L g n b v lv N0 U ds ib yb ip yp wp qn vb i0 y0 ws0 gq wv i y ws pre rest W) (hl : Lis W' W'.heap.size lv L) (hr : RS w1 n ib yb ip yp wp gq' wv' i' y' ws' W') (ho : KeepsOthers W W')
    (hs : ∀ c, c ≠ ib → c ≠ yb → c ≠ gq → c ≠ wp → c < W.heap.size → W'.heap[c]? = W.heap[c]?) (hg : gq' = gq ∨ W.heap.size ≤ gq') (hsp : nbF L v = pre' ++ rest') (hsc : scanB L g b v (nbF L v) i0 y0 ws0 = scanB L g b v rest' i' y' ws') :
    RI w1 L g n b v lv N0 U ds ib yb ip yp wp qn vb i0 y0 ws0 gq' wv' i' y' ws' pre' rest' W' := by
  obtain ⟨off, cap, arr, e1, e2, e3⟩ := h.rs.q
  have hrb : W.heap[ib]? = some (.cells (i.map Value.bool).toArray 4 (0, 0)) := h.rs.rb
  have hry : W.heap[yb]? = some (.cells (y.map intV).toArray 3 (0, 0)) := h.rs.ry
  have lt : ∀ {k : Nat} {o : Obj}, W.heap[k]? = some o → k < W.heap.size := fun hk => (Array.getElem?_eq_some_iff.1 hk).1
  have k1 := (hs vb (blk_ne h.bv hrb (by decide)) (Ne.symm h.y1) (Ne.symm h.g1) (blk_ne h.bv h.rs.bw (by decide)) (lt h.bv)).trans h.bv
  have k2 := (hs qn (blk_ne h.inv.1 hrb (by decide)) (blk_ne h.inv.1 hry (by decide)) (blk_ne h.inv.1 e2 (by decide)) (blk_ne h.inv.1 h.rs.bw (by decide)) (lt h.inv.1)).trans h.inv.1
  have k3 := (hs (qn + 1) (blk_ne h.inv.2.1 hrb (by decide)) (Ne.symm h.y2) (Ne.symm h.g2) (blk_ne h.inv.2.1 h.rs.bw (by decide)) (lt h.inv.2.1)).trans h.inv.2.1
  refine ⟨hsp, hsc, hr, ⟨k2, k3, hl⟩, k1, h.mks.others ho, ?_, ?_, h.y1, h.y2⟩
  · rcases hg with rfl | hg
    · exact h.g1
    · have := lt h.bv; omega
  · rcases hg with rfl | hg
    · exact h.g2
    · have := lt h.inv.2.1; omega
end

end Go.Proofs.Ytenilbofncfbdaa

namespace Go.Proofs.Ytenilbofncfbdaa
open Go.RowKit

attribute [local go_sem] Oper.semAt_some

def dp7 (u k : Nat) : Bool := (u == 5 && (k == 3 || k == 4)) || (u == 3 && k == 2) || (u == 2 && k == 1) || (u == 1 && k == 0)
/-- at the loop's head: f: what the search has still to burn -/
def FR (w1 : World) (L : Prs) (g : List Int) (n a b : Nat) (R : List Bool × List Int) (N0 ib yb ip yp wp f : Nat) (ds : List Deferred) (W : World) : Prop :=
 ∃ (i : List Bool) (y : List Int) (ws done : List Nat) (gq U : Nat) (wv : Value), R = bfsB L g b f i y ws ∧ BI L g n a b (done ++ ws) i y ∧ n < f + done.length ∧ RS w1 n ib yb ip yp wp gq wv i y ws W ∧ Marks N0 U ds W ∧ U ≤ W.heap.size
theorem reach_end {fn : Func} {w w1 W : World} {n ib yb ip yp wp gq U : Nat} {wv : Value} {R : List Bool × List Int} {i : List Bool} {y : List Int} {ws : List Nat} {a : Act} (hR : R = (i, y)) (h : RS w1 n ib yb ip yp wp gq wv i y ws W) {k : Nat} (hm : Marks w.heap.size U a.defers (W.drewN k)) (hb : Below w.heap.size w w1) (hfn : fn.results = #[.tmp 6, .tmp 7]) (h6 : a.tmps.getD 6 undef = .slice (some ⟨ib, 0, none⟩) n n) (h7 : a.tmps.getD 7 undef = .slice (some ⟨yb, 0, none⟩) n n) :
  bodyPostM Fence.wide 5 Try.prog fn (fun e w' => (∃ ib yb, e = .returned (.tuple #[.slice (some ⟨ib, 0, none⟩) n n, .slice (some ⟨yb, 0, none⟩) n n]) ∧ RowB w' ib R.1 ∧ RowI w' yb R.2 ∧ w.heap.size ≤ ib ∧ w.heap.size ≤ yb) ∧ Below w.heap.size w w') .ret a (W.drewN k) := by
 subst hR
 refine (marks_retN hm fun w' hw' => ⟨.tuple #[.slice (some ⟨ib, 0, none⟩) n n, .slice (some ⟨yb, 0, none⟩) n n], ?_, ⟨ib, yb, rfl, ?_, ?_, ?_, ?_⟩, ?_⟩).1
 ·simp [results, hfn]
  exact ⟨by simpa using h6, by simpa using h7⟩
 ·exact hw'.cells _ _ h.rb rfl
 ·exact hw'.cells _ _ h.ry rfl
 ·have := hb.size; have := h.ge.1; omega
 ·have := hb.size; have := h.ge.2.1; omega
 ·exact (hb.trans ((h.low.mono hb.size).trans (bdN _ _ _))).trans hw'.low
theorem start_bi {L : Prs} {g : List Int} {n a b : Nat} (ha : a < n) : BI L g n a b ([] ++ [a]) ((List.replicate n false).set a true) (List.replicate n (-1)) := by
 refine ⟨by simp, by simp, by simp, ⟨[], rfl⟩, fun u hu => ?_, by simpa using ha, ?_⟩
 ·by_cases e : u = a
  ·subst e; rw [getD_set_same _ _ _ _ (by simpa using ha)]; simp
  ·rw [getD_set_other _ _ _ _ _ (Ne.symm e)]
   simp [e, List.getD_eq_getElem?_getD, List.getElem?_replicate, hu]
 ·intro o1 u o2 h
  cases o1 with
  | nil => injection h with h1 _; exact .inl h1.symm
  | cons c r => exfalso; injection h with _ h2; have := congrArg List.length h2; simp at this
theorem FR.fuel {L : Prs} {g : List Int} {n a b f : Nat} {i : List Bool} {y : List Int} {ws done : List Nat} (h : BI L g n a b (done ++ ws) i y) (hf : n < f + done.length) : 0 < f := by
 have := nodup_bound h.nod h.lt
 rw [List.length_append] at this
 omega

set_option maxRecDepth 100000 in
set_option maxHeartbeats 8000000 in
theorem freach_any (w : World) (B fb gb : Nat) (lv : Value) (n : Nat) (L : Prs) (g : List Int) (a b : Nat) (h : FlowW w B fb gb lv n L g) (hf : FitL n L) (hn : n ≤ 16) (hl : L.length ≤ 1000) (ha : a < n) (hb : b < n) :
  Calls Try.prog 34 #[.pointer (some ⟨fb, 0, none⟩), .int .i64 (a : Int), .int .i64 (b : Int)] w fun e w' => (∃ ib yb, e = .returned (.tuple #[.slice (some ⟨ib, 0, none⟩) n n, .slice (some ⟨yb, 0, none⟩) n n]) ∧ RowB w' ib (reachB L g n a b).1 ∧ RowI w' yb (reachB L g n a b).2 ∧ w.heap.size ≤ ib ∧ w.heap.size ≤ yb) ∧ Below w.heap.size w w' := by
 obtain ⟨R, hR⟩ : ∃ R, R = reachB L g n a b := ⟨_, rfl⟩
 rw [← hR]
 have HR := Lib.hid hR
 clear hR
 have g1 := new_block w (.cells #[.pointer (some ⟨fb, 0, none⟩)] 48)
 have g2 := new_block (w.alloc (.cells #[.pointer (some ⟨fb, 0, none⟩)] 48)) (.cells #[.int .i64 (b : Int)] 3)
 have s1 : (w.alloc (.cells #[.pointer (some ⟨fb, 0, none⟩)] 48)).heap.size = w.heap.size + 1 := by simp
 rw [s1] at g2
 obtain ⟨w1, hw1⟩ : ∃ W, W = (w.alloc (.cells #[.pointer (some ⟨fb, 0, none⟩)] 48)).alloc (.cells #[.int .i64 (b : Int)] 3) := ⟨_, rfl⟩
 have z1 : w1.heap.size = w.heap.size + 2 := by rw [hw1]; simp
 have b1 : Below w.heap.size w w1 := by rw [hw1]; exact g1.1.trans (g2.1.mono (by omega))
 have k3 : w1.heap[w.heap.size]? = some (.cells #[.pointer (some ⟨fb, 0, none⟩)] 48 (0, 0)) := by rw [hw1]; exact stays g1.2 (by rw [s1]; exact g2.1)
 have k5 : w1.heap[w.heap.size + 1]? = some (.cells #[.int .i64 (b : Int)] 3 (0, 0)) := by rw [hw1]; exact g2.2
 have h1 := h.below b1
 have HB1 := Lib.hid b1
 have HK3 := Lib.hid k3
 have HK5 := Lib.hid k5
 have HFW := Lib.hid h1
 obtain ⟨q3, hq3⟩ : ∃ q, q = w.heap.size := ⟨_, rfl⟩
 rw [← hq3] at k3 k5
 have HC3 : Hid (∀ W, Below w1.heap.size w1 W → W.cell? ⟨q3, 0, none⟩ = some (.pointer (some ⟨fb, 0, none⟩))) := fun W hW => cell_of_row _ _ 0 _ _ _ (stays k3 hW)
 have HCN : Hid (∀ W, Below w1.heap.size w1 W → W.cell? ⟨fb, 0, none⟩ = some (.int .i64 (n : Int))) := fun W hW => cell_of_row _ _ 0 _ _ _ (stays h1.f hW)
 have HCL : Hid (∀ W, Below w1.heap.size w1 W → W.cell? ⟨fb, 1, none⟩ = some lv) := fun W hW => cell_of_row _ _ 1 _ _ _ (stays h1.f hW)
 have HC5 : Hid (∀ W, Below w1.heap.size w1 W → W.cell? ⟨q3 + 1, 0, none⟩ = some (.int .i64 (b : Int))) := fun W hW => cell_of_row _ _ 0 _ _ _ (stays k5 hW)
 have HF := Lib.hid hf
 have hn1 : 1 ≤ n := by omega
 have hn16 := hn
 have HW1 := Lib.hid hw1
 clear g1 g2 s1 b1 k3 k5 h1 h hf hw1
 refine (callsIn_wide (n := 5)).1 ?_
 refine callsIn_of_wp_marks Try.func34 rfl trivial ?_ rfl
 simp only [Try.ntmps34, List.size_toArray, List.length_cons, List.length_nil, Nat.reduceAdd, Nat.reduceSub, Array.replicate_succ, Array.replicate_zero, List.push_toArray, List.append_toArray, List.nil_append, List.cons_append]
 gi_wp2_with (fail)
 rw [← HW1.out, ← hq3]
 clear hq3
 refine wpIn_scope_wide ?_
 gi_wp2_with (fail)
 refine wpIn_flowM (F0 := Fence.wide) (n0 := 5) (fun _ => trivial) (fun h => by cases h) (by kernel_rfl) (by kernel_rfl) 15 13 (by kernel_rfl) (fun j => ([0, 1, 2, 3, 4, 5, 6, 7, 8, 9, 10, 11, 12] : List Nat).getD j 0) (fun j => ([14, 15, 16, 17, 18, 19, 20, 21, 22, 23, 24, 8, 9] : List Nat).getD j 0) (by kernel_rfl) (by kernel_rfl) (by kernel_rfl) (by kernel_rfl) (by kernel_rfl) (by kernel_rfl) (by kernel_rfl) (fun j zv => ([(fun zv => zv = (.pointer (some ⟨fb, 0, none⟩))), (fun zv => zv = (.pointer (some ⟨fb, 0, none⟩))), (fun zv => zv = (.pointer (some ⟨fb, 0, none⟩))), (fun zv => zv = (.int .i64 (n : Int))), (fun zv => ∃ p, zv = .slice (some ⟨p, 0, none⟩) n n), (fun zv => ∃ p, zv = .slice (some ⟨p, 0, none⟩) 1 1), (fun zv => zv = (.pointer (some ⟨fb, 0, none⟩))), (fun zv => zv = (.pointer (some ⟨fb, 0, none⟩))), (fun zv => zv = (.pointer (some ⟨fb, 0, none⟩))), (fun zv => zv = (.int .i64 (n : Int))), (fun zv => ∃ p, zv = .slice (some ⟨p, 0, none⟩) n n), (fun zv => ∃ p, zv = .pointer (some ⟨p, 0, none⟩)), (fun zv => ∃ p, zv = .pointer (some ⟨p, 0, none⟩))] : List (Value → Prop)).getD j (fun _ => True) zv) (fun d vs W => RJ w1 n d vs W) ?h0z ?stepz ?finz
 case h0z => exact fun vs => RJ.start _ _ vs
 case stepz =>
  intro i o a W d vs hi ho hdi hJ hf hr hF
  replace hi : i < 15 := hi
  rcases (show i = 0 ∨ i = 1 ∨ i = 2 ∨ i = 3 ∨ i = 4 ∨ i = 5 ∨ i = 6 ∨ i = 7 ∨ i = 8 ∨ i = 9 ∨ i = 10 ∨ i = 11 ∨ i = 12 ∨ i = 13 ∨ i = 14 by omega) with rfl | rfl | rfl | rfl | rfl | rfl | rfl | rfl | rfl | rfl | rfl | rfl | rfl | rfl | rfl
  all_goals
   replace ho := op_at ho (by rfl)
   subst ho
  ·have f3 : a.tmps.getD 3 undef = (.pointer (some ⟨q3, 0, none⟩)) := hf 3 (by kernel_rfl)
   have c3 := HC3.out W hJ.low
   exact .inl ⟨(fun k b h => by cases h), .inl ⟨0, by decide, rfl, (.pointer (some ⟨fb, 0, none⟩)), W, (by simp [go_sem, Act.eval, f3, c3]), rfl, hJ.quiet 0 _ (by omega)⟩⟩
  ·have d0 : a.tmps.getD 14 undef = (.pointer (some ⟨fb, 0, none⟩)) := fdn (hF 0 (by decide) (hr 0 (by kernel_rfl)))
   exact .inl ⟨(fun k b h => by cases h), .inl ⟨1, by decide, rfl, (.pointer (some ⟨fb, 0, none⟩)), W, (by simp [go_sem, Act.eval, d0]), rfl, hJ.quiet 1 _ (by omega)⟩⟩
  ·have d1 : a.tmps.getD 15 undef = (.pointer (some ⟨fb, 0, none⟩)) := fdn (hF 1 (by decide) (hr 1 (by kernel_rfl)))
   exact .inl ⟨(fun k b h => by cases h), .inl ⟨2, by decide, rfl, (.pointer (some ⟨fb, 0, none⟩)), W, (by simp [go_sem, Act.eval, d1]), rfl, hJ.quiet 2 _ (by omega)⟩⟩
  ·have d2 : a.tmps.getD 16 undef = (.pointer (some ⟨fb, 0, none⟩)) := fdn (hF 2 (by decide) (hr 2 (by kernel_rfl)))
   have cn := HCN.out W hJ.low
   exact .inl ⟨(fun k b h => by cases h), .inl ⟨3, by decide, rfl, (.int .i64 (n : Int)), W, (by simp [go_sem, Act.eval, d2, cn]), rfl, hJ.quiet 3 _ (by omega)⟩⟩
  ·have d3 : a.tmps.getD 17 undef = (.int .i64 (n : Int)) := fdn (hF 3 (by decide) (hr 3 (by kernel_rfl)))
   exact .inl ⟨(fun k b h => by cases h), .inl ⟨4, by decide, rfl, _, _, (by simp [go_sem, Act.eval, d3, run_make_bool n (by omega) W]), ⟨_, rfl⟩, (hJ.grow (new_block W _).1).at4 hdi (made_bool W n) hJ.low.size⟩⟩
  ·exact .inl ⟨(fun k b h => by cases h), .inl ⟨5, by decide, rfl, .slice (some ⟨W.heap.size, 0, none⟩) 1 1, W.alloc (.cells #[.int .i64 (-1)] 3), (by simp [go_sem, Act.eval]), ⟨_, rfl⟩, (hJ.grow (new_block W _).1).at5 (new_block W _).2 hJ.low.size⟩⟩
  ·have f3 : a.tmps.getD 3 undef = (.pointer (some ⟨q3, 0, none⟩)) := hf 3 (by kernel_rfl)
   have c3 := HC3.out W hJ.low
   exact .inl ⟨(fun k b h => by cases h), .inl ⟨6, by decide, rfl, (.pointer (some ⟨fb, 0, none⟩)), W, (by simp [go_sem, Act.eval, f3, c3]), rfl, hJ.quiet 6 _ (by omega)⟩⟩
  ·have d6 : a.tmps.getD 20 undef = (.pointer (some ⟨fb, 0, none⟩)) := fdn (hF 6 (by decide) (hr 6 (by kernel_rfl)))
   exact .inl ⟨(fun k b h => by cases h), .inl ⟨7, by decide, rfl, (.pointer (some ⟨fb, 0, none⟩)), W, (by simp [go_sem, Act.eval, d6]), rfl, hJ.quiet 7 _ (by omega)⟩⟩
  ·have d7 : a.tmps.getD 21 undef = (.pointer (some ⟨fb, 0, none⟩)) := fdn (hF 7 (by decide) (hr 7 (by kernel_rfl)))
   exact .inl ⟨(fun k b h => by cases h), .inl ⟨8, by decide, rfl, (.pointer (some ⟨fb, 0, none⟩)), W, (by simp [go_sem, Act.eval, d7]), rfl, hJ.quiet 8 _ (by omega)⟩⟩
  ·have d8 : a.tmps.getD 22 undef = (.pointer (some ⟨fb, 0, none⟩)) := fdn (hF 8 (by decide) (hr 8 (by kernel_rfl)))
   have cn := HCN.out W hJ.low
   exact .inl ⟨(fun k b h => by cases h), .inl ⟨9, by decide, rfl, (.int .i64 (n : Int)), W, (by simp [go_sem, Act.eval, d8, cn]), rfl, hJ.quiet 9 _ (by omega)⟩⟩
  ·obtain ⟨g5, e5⟩ := hF 5 (by decide) (hr 5 (by kernel_rfl))
   replace e5 : a.tmps.getD 19 undef = vs 5 := e5
   replace g5 : (fun zv => ∃ p, zv = .slice (some ⟨p, 0, none⟩) 1 1) (vs 5) := g5
   have d9 : a.tmps.getD 23 undef = (.int .i64 (n : Int)) := fdn (hF 9 (by decide) (hr 9 (by kernel_rfl)))
   obtain ⟨pl, hl1, hl2, -⟩ := hJ.h5 (hr 5 (by kernel_rfl))
   rw [hl1] at e5
   have hits : Its W W.heap.size (.slice (some ⟨pl, 0, none⟩) 1 1) [-1] := ⟨_, _, rfl, Nat.le_refl _, by decide, (fun h => by cases h), fun _ => ⟨pl, 0, rfl, (Array.getElem?_eq_some_iff.1 hl2).1, fun i hi => by
    obtain rfl : i = 0 := by simp at hi; omega
    rw [cell_of_row _ _ _ _ _ _ hl2]; rfl⟩⟩
   refine .inl ⟨(fun k b h => by cases h), .inr (.inr ⟨10, by decide, rfl, 40, #[.slice (some ⟨pl, 0, none⟩) 1 1, (.int .i64 (n : Int))], W, (by simp [go_sem, Act.eval, e5, d9]), ?_⟩)⟩
   refine (callsIn_wide.2 (repeat_any _ (-1) n W hits hn16 hn1)).mono ?_
   rintro e W' ⟨⟨pr, rfl, hrow, hB⟩, hbel⟩
   exact ⟨_, rfl, ⟨_, rfl⟩, (hJ.grow hbel).at10 hdi hrow (Nat.le_trans hJ.low.size hB)⟩
  ·exact .inl ⟨(fun k b h => by cases h), .inl ⟨11, by decide, rfl, .pointer (some ⟨W.heap.size, 0, none⟩), W.alloc (.cells #[.slice none 0 0] 34), (by simp [go_sem, Act.eval]), ⟨_, rfl⟩, (hJ.grow (new_block W _).1).at11 (show d 13 = false from by cases h : d 13 with | false => rfl | true => have h1 := hJ.p13 h; rw [hdi] at h1; cases h1) (new_block W _).2 hJ.low.size⟩⟩
  ·exact .inl ⟨(fun k b h => by cases h), .inl ⟨12, by decide, rfl, .pointer (some ⟨W.heap.size, 0, none⟩), W.alloc (.cells #[.slice none 0 0] 35), (by simp [go_sem, Act.eval]), ⟨_, rfl⟩, (hJ.grow (new_block W _).1).at12 (show d 14 = false from by cases h : d 14 with | false => rfl | true => have h1 := hJ.p14 h; rw [hdi] at h1; cases h1) (new_block W _).2 hJ.low.size⟩⟩
  ·obtain ⟨g11, e11⟩ := hF 11 (by decide) (hr 11 (by kernel_rfl))
   replace e11 : a.tmps.getD 8 undef = vs 11 := e11
   replace g11 : (fun zv => ∃ p, zv = .pointer (some ⟨p, 0, none⟩)) (vs 11) := g11
   obtain ⟨g4, e4⟩ := hF 4 (by decide) (hr 4 (by kernel_rfl))
   replace e4 : a.tmps.getD 18 undef = vs 4 := e4
   replace g4 : (fun zv => ∃ p, zv = .slice (some ⟨p, 0, none⟩) n n) (vs 4) := g4
   obtain ⟨pb, hb1, hb2, x, hb3, -⟩ := hJ.h11 (hr 11 (by kernel_rfl))
   obtain ⟨ps, hs1, hs2, -⟩ := hJ.h4 (hr 4 (by kernel_rfl))
   rw [hb1] at e11
   rw [hs1] at e4
   have cx := cell_of_row _ _ 0 _ _ _ hb3
   have fx := frozen_of_row _ _ 0 _ _ hb3
   have h13 := hJ.at13 (hr 4 (by kernel_rfl)) (hr 11 (by kernel_rfl)) hb1
   rw [hs1] at h13
   exact .inl ⟨(fun k b h => by cases h), .inr (.inl ⟨rfl, _, (by simp [go_sem, Act.eval, e11, e4, cx, fx]), h13⟩)⟩
  ·obtain ⟨g12, e12⟩ := hF 12 (by decide) (hr 12 (by kernel_rfl))
   replace e12 : a.tmps.getD 9 undef = vs 12 := e12
   replace g12 : (fun zv => ∃ p, zv = .pointer (some ⟨p, 0, none⟩)) (vs 12) := g12
   obtain ⟨g10, e10⟩ := hF 10 (by decide) (hr 10 (by kernel_rfl))
   replace e10 : a.tmps.getD 24 undef = vs 10 := e10
   replace g10 : (fun zv => ∃ p, zv = .slice (some ⟨p, 0, none⟩) n n) (vs 10) := g10
   obtain ⟨pb, hb1, hb2, x, hb3, -⟩ := hJ.h12 (hr 12 (by kernel_rfl))
   obtain ⟨ps, hs1, hs2, -⟩ := hJ.h10 (hr 10 (by kernel_rfl))
   rw [hb1] at e12
   rw [hs1] at e10
   have cx := cell_of_row _ _ 0 _ _ _ hb3
   have fx := frozen_of_row _ _ 0 _ _ hb3
   have h14 := hJ.at14 (hr 10 (by kernel_rfl)) (hr 12 (by kernel_rfl)) hb1
   rw [hs1] at h14
   exact .inl ⟨(fun k b h => by cases h), .inr (.inl ⟨rfl, _, (by simp [go_sem, Act.eval, e12, e10, cx, fx]), h14⟩)⟩
 case finz =>
  intro d vs Wz hall hJ hF
  have h0 : vs 0 = (.pointer (some ⟨fb, 0, none⟩)) := hF 0 (by decide)
  have h1 : vs 1 = (.pointer (some ⟨fb, 0, none⟩)) := hF 1 (by decide)
  have h2 : vs 2 = (.pointer (some ⟨fb, 0, none⟩)) := hF 2 (by decide)
  have h3 : vs 3 = (.int .i64 (n : Int)) := hF 3 (by decide)
  have h4 : (fun zv => ∃ p, zv = .slice (some ⟨p, 0, none⟩) n n) (vs 4) := hF 4 (by decide)
  have h5 : (fun zv => ∃ p, zv = .slice (some ⟨p, 0, none⟩) 1 1) (vs 5) := hF 5 (by decide)
  have h6 : vs 6 = (.pointer (some ⟨fb, 0, none⟩)) := hF 6 (by decide)
  have h7 : vs 7 = (.pointer (some ⟨fb, 0, none⟩)) := hF 7 (by decide)
  have h8 : vs 8 = (.pointer (some ⟨fb, 0, none⟩)) := hF 8 (by decide)
  have h9 : vs 9 = (.int .i64 (n : Int)) := hF 9 (by decide)
  have h10 : (fun zv => ∃ p, zv = .slice (some ⟨p, 0, none⟩) n n) (vs 10) := hF 10 (by decide)
  have h11 : (fun zv => ∃ p, zv = .pointer (some ⟨p, 0, none⟩)) (vs 11) := hF 11 (by decide)
  have h12 : (fun zv => ∃ p, zv = .pointer (some ⟨p, 0, none⟩)) (vs 12) := hF 12 (by decide)
  clear hF
  obtain ⟨ib, hi1, hi2, hi3⟩ := hJ.h4 (hall 4 (by decide))
  obtain ⟨lb, hl1, -, -⟩ := hJ.h5 (hall 5 (by decide))
  obtain ⟨yb, hy1, hy2, hy3⟩ := hJ.h10 (hall 10 (by decide))
  obtain ⟨ip, hq1, hq3, x1, hq2, hx1⟩ := hJ.h11 (hall 11 (by decide))
  obtain ⟨yp, hr1, hr3, x2, hr2, hx2⟩ := hJ.h12 (hall 12 (by decide))
  obtain rfl := hx1 (hall 13 (by decide))
  obtain rfl := hx2 (hall 14 (by decide))
  show (_ : Exit → Act → World → Prop) Exit.normal (puts _ vs 13 _) Wz
  simp only [puts, h0, h1, h2, h3, h6, h7, h8, h9, List.getD_cons_zero, List.getD_cons_succ]
  clear h0 h1 h2 h3 h6 h7 h8 h9
  rw [hi1] at hq2
  rw [hy1] at hr2
  simp only [hi1, hl1, hy1, hq1, hr1]
  simp only [Act.put, List.setIfInBounds_toArray, List.set_cons_succ, List.set_cons_zero]
  have HLOW := Lib.hid hJ.low
  clear hJ hall h4 h5 h10 h11 h12 hx1 hx2 hi1 hl1 hy1 hq1 hr1
  have HI2 := Lib.hid hi2
  have HY2 := Lib.hid hy2
  have HQ2 := Lib.hid hq2
  have HR2 := Lib.hid hr2
  have cip := cell_of_row _ _ 0 _ _ _ hq2
  have cin := hi2.cell a (by simpa using ha)
  have fin_ := hi2.frozen a
  have hil := hi2.lt
  clear hi2 hy2 hq2 hr2
  gi_wp2_with (fail)
  refine wpIn_label ?_
  have hi2 := HI2.out
  have hi2' : Wz.heap[ib]? = some (.cells ((List.replicate n false).map Value.bool).toArray 4 (0, 0)) := hi2
  have hstart : RS w1 n ib yb ip yp (Wz.heap.size + 1) Wz.heap.size (.slice (some ⟨Wz.heap.size, 0, none⟩) 1 1) ((List.replicate n false).set a true) (List.replicate n (-1)) [a] (((Wz.setCell ⟨ib, a, none⟩ (.bool true)).alloc (.cells #[.int .i64 (a : Int)] 3)).alloc (.cells #[.slice (some ⟨Wz.heap.size, 0, none⟩) 1 1] 35)) := by
   have hz : (Wz.setCell ⟨ib, a, none⟩ (.bool true)).heap.size = Wz.heap.size := by simp
   have m1 := new_block (Wz.setCell ⟨ib, a, none⟩ (.bool true)) (.cells #[.int .i64 (a : Int)] 3)
   have m2 := new_block ((Wz.setCell ⟨ib, a, none⟩ (.bool true)).alloc (.cells #[.int .i64 (a : Int)] 3)) (.cells #[.slice (some ⟨Wz.heap.size, 0, none⟩) 1 1] 35)
   have hz2 : ((Wz.setCell ⟨ib, a, none⟩ (.bool true)).alloc (.cells #[.int .i64 (a : Int)] 3)).heap.size = Wz.heap.size + 1 := by simp
   rw [hz] at m1
   rw [hz2] at m2
   have mm := m1.1.trans (m2.1.mono (Nat.le_succ _))
   have hy : RowI (Wz.setCell ⟨ib, a, none⟩ (.bool true)) yb (List.replicate n (-1)) := HY2.out.other (Ne.symm (blk_ne hi2 HY2.out (by decide))) _
   have hq : (Wz.setCell ⟨ib, a, none⟩ (.bool true)).heap[ip]? = some (.cells #[.slice (some ⟨ib, 0, none⟩) n n] 34 (0, 0)) := (Below.heap_setCell _ _ _ _ (blk_ne HQ2.out hi2' (by decide))).trans HQ2.out
   have hr : (Wz.setCell ⟨ib, a, none⟩ (.bool true)).heap[yp]? = some (.cells #[.slice (some ⟨yb, 0, none⟩) n n] 35 (0, 0)) := (Below.heap_setCell _ _ _ _ (blk_ne HR2.out hi2' (by decide))).trans HR2.out
   have lt : ∀ {k : Nat} {o : Obj}, Wz.heap[k]? = some o → k < Wz.heap.size := fun hk => (Array.getElem?_eq_some_iff.1 hk).1
   have hsz := HLOW.out.size
   exact ⟨(bel_set hi3 HLOW.out).trans (mm.mono hsz), (RowB.set hi2 a true).of (mm.block _ (lt hi2)), hy.of (mm.block _ (lt HY2.out)), (mm.block _ (lt HQ2.out)).trans hq, (mm.block _ (lt HR2.out)).trans hr, m2.2, Que.lit ((m2.1.block _ (Nat.lt_succ_self _)).trans m1.2), ⟨hi3, hy3, hq3, hr3, by omega, hsz⟩, by have := lt HY2.out; omega, by have := lt HR2.out; omega, by simp, by simp⟩
  obtain ⟨W2, hW2⟩ : ∃ W2, W2 = ((Wz.setCell ⟨ib, a, none⟩ (.bool true)).alloc (.cells #[.int .i64 (a : Int)] 3)).alloc (.cells #[.slice (some ⟨Wz.heap.size, 0, none⟩) 1 1] 35) := ⟨_, rfl⟩
  rw [← hW2] at hstart ⊢
  obtain ⟨gq0, hgq0⟩ : ∃ q, q = Wz.heap.size := ⟨_, rfl⟩
  obtain ⟨wp, hwp⟩ : ∃ q, q = Wz.heap.size + 1 := ⟨_, rfl⟩
  rw [← hwp] at hstart ⊢
  rw [← hgq0] at hstart ⊢
  have HST := Lib.hid hstart
  have hz2 := hstart.low.size
  have hbi0 : BI L g n a b ([] ++ [a]) ((List.replicate n false).set a true) (List.replicate n (-1)) := start_bi ha
  have HBI0 := Lib.hid hbi0
  clear hi2 hi2' hstart hW2 hgq0 hwp cip cin fin_ hil hi3 hy3 hq3 hr3 HI2 HY2 HQ2 HR2 HLOW hbi0
  gi_wp2_with (fail)
  refine wpIn_loop_ghost (fun f a' W' => ∃ (ds : List Deferred) (u11 u30 u31 u32 u33 u34 u35 u36 u37 u38 u39 u40 u41 u42 u43 : Value), FR w1 L g n a b R w.heap.size ib yb ip yp wp f ds W' ∧ a' = { tmps := #[(.pointer (some ⟨fb, 0, none⟩)), .int .i64 (a : Int), .int .i64 (b : Int), .pointer (some ⟨q3, 0, none⟩), undef, .pointer (some ⟨q3 + 1, 0, none⟩), .slice none 0 0, .slice none 0 0, .pointer (some ⟨ip, 0, none⟩), .pointer (some ⟨yp, 0, none⟩), .pointer (some ⟨wp, 0, none⟩), u11, undef, undef, (.pointer (some ⟨fb, 0, none⟩)), (.pointer (some ⟨fb, 0, none⟩)), (.pointer (some ⟨fb, 0, none⟩)), (.int .i64 (n : Int)), .slice (some ⟨ib, 0, none⟩) n n, .slice (some ⟨lb, 0, none⟩) 1 1, (.pointer (some ⟨fb, 0, none⟩)), (.pointer (some ⟨fb, 0, none⟩)), (.pointer (some ⟨fb, 0, none⟩)), (.int .i64 (n : Int)), .slice (some ⟨yb, 0, none⟩) n n, .slice (some ⟨ib, 0, none⟩) n n, .int .i64 (a : Int), .pointer (some ⟨ib, a, none⟩), .int .i64 (a : Int), .slice (some ⟨gq0, 0, none⟩) 1 1, u30, u31, u32, u33, u34, u35, u36, u37, u38, u39, u40, u41, u42, u43, undef, undef, undef, undef, undef, undef, undef, undef, undef, undef, undef, undef, undef, undef, undef, undef, undef, undef, undef, undef, undef, undef, undef, undef, undef, undef, undef, undef, undef], defers := ds }) (n + 1) ⟨[], _, _, _, _, _, _, _, _, _, _, _, _, _, _, _, ⟨_, _, [a], [], gq0, w.heap.size, _, HR.out, HBI0.out, by simp, HST.out, trivial, by omega⟩, rfl⟩ ?_
  rintro f a' W ⟨ds, u11, u30, u31, u32, u33, u34, u35, u36, u37, u38, u39, u40, u41, u42, u43, HFR, rfl⟩
  obtain ⟨i, y, ws, done, gq, U, wv, hRR, hBI, hfu, hRS, hM, hU⟩ := HFR
  obtain ⟨f, rfl⟩ : ∃ f', f = f' + 1 := ⟨f - 1, by have := FR.fuel hBI hfu; omega⟩
  have cwp := cell_of_row _ _ 0 _ _ _ hRS.bw
  obtain ⟨off, capq, hwv, hcap, hcells⟩ := hRS.q.slice
  subst hwv
  have HRS := Lib.hid hRS
  have HM := Lib.hid hM
  have HBI := Lib.hid hBI
  have HRR := Lib.hid hRR
  clear HST HBI0 HR
  cases ws with
  | nil =>
   have cip := cell_of_row _ _ 0 _ _ _ hRS.bi
   have cyp := cell_of_row _ _ 0 _ _ _ hRS.bY
   have HRI : Hid (R = (i, y)) := hRR.trans rfl
   clear hRR hBI hRS hM hcells hcap
   gi_wp2_with (fail)
   refine wpIn_wide.2 ?_
   go_quiet (fail)
   gi_wp2_with (fail)
   rw [Exit.noGoto_ret]
   exact reach_end HRI.out HRS.out (HM.out.below (bdN _ _ _)) HB1.out rfl rfl rfl
  | cons v ws =>
   have hq : Que W gq (.slice (some ⟨gq, off, none⟩) (nI (v :: ws)).length capq) ((v : Int) :: nI ws) := hRS.q
   have c0 : W.cell? ⟨gq, off, none⟩ = some (.int .i64 (v : Int)) := by have h0 := hcells 0 (by simp); exact h0
   have zwp := frozen_of_row _ _ 0 _ _ hRS.bw
   have hwpl : wp < W.heap.size := (Array.getElem?_eq_some_iff.1 hRS.bw).1
   have hgql : gq < W.heap.size := hRS.q.lt
   have hv : v < n := hBI.lt v (by simp)
   obtain ⟨m, hm⟩ : ∃ m, m = (nI (v :: ws)).length := ⟨_, rfl⟩
   have hm1 : 1 ≤ m := by rw [hm]; simp
   rw [← hm] at cwp hq
   have HQ := Lib.hid hq
   clear hRS hM hcells hm hBI hRR hq
   gi_wp2_with (refine wpListIn_tail_que rfl _ rfl rfl HQ.out ?_)
   intro v' hq'
   have m1 := new_block W (.cells #[.int .i64 (v : Int)] 3)
   have hRS1 := (HRS.out.below m1.1).wait (hq'.keep m1.1) (.inl rfl) (Nat.le_refl _) (fun c _ _ => rfl) (Below.refl _ _)
   have HVB : ((W.alloc (.cells #[.int .i64 (v : Int)] 3)).setCell ⟨wp, 0, none⟩ v').heap[W.heap.size]? = some (.cells #[.int .i64 (v : Int)] 3 (0, 0)) := (Below.heap_setCell _ _ _ _ (by show W.heap.size ≠ wp; omega)).trans m1.2
   have HM1 : Marks w.heap.size U ds ((W.alloc (.cells #[.int .i64 (v : Int)] 3)).setCell ⟨wp, 0, none⟩ v') := (HM.out.below m1.1).set ⟨_, _, _, stays HRS.out.bw m1.1⟩
   have HNG : Hid (W.heap.size ≠ gq ∧ W.heap.size ≠ yb) := ⟨by omega, by have := HRS.out.ry.lt; omega⟩
   have hsz : ((W.alloc (.cells #[.int .i64 (v : Int)] 3)).setCell ⟨wp, 0, none⟩ v').heap.size = W.heap.size + 1 := by simp
   have hcomm : (W.alloc (.cells #[.int .i64 (v : Int)] 3)).setCell ⟨wp, 0, none⟩ v' = (W.setCell ⟨wp, 0, none⟩ v').alloc (.cells #[.int .i64 (v : Int)] 3) := by simp [go_sem, hwpl]
   rw [hcomm] at hRS1 HVB HM1 hsz
   have HZ := Lib.hid hsz
   replace HRS1 := Lib.hid hRS1
   replace HVB := Lib.hid HVB
   replace HM1 := Lib.hid HM1
   obtain ⟨ao', m', cap', hv'⟩ : ∃ ao m c, v' = .slice ao m c := by obtain ⟨o, c, e, -⟩ := hq'.slice; exact ⟨_, _, _, e⟩
   subst hv'
   clear hRS1 m1 hq' HRS HM hsz hcomm
   gi_wp2_with (fail)
   obtain ⟨W3, hW3⟩ : ∃ W3, W3 = (W.setCell ⟨wp, 0, none⟩ (.slice ao' m' cap')).alloc (.cells #[.int .i64 (v : Int)] 3) := ⟨_, rfl⟩
   rw [← hW3] at HRS1 HVB HM1 HZ ⊢
   obtain ⟨vb, hvb⟩ : ∃ b, b = W.heap.size := ⟨_, rfl⟩
   rw [← hvb] at HVB HNG HZ ⊢
   have HUV : Hid (U ≤ vb) := by show U ≤ vb; rw [hvb]; exact hU
   clear hW3 cwp c0 zwp hwpl hgql hvb hU
   have LOW3 : Hid (Below w1.heap.size w1 W3.drew) := HRS1.out.low.drew
   have HLI : Hid (Lis W3.drew W3.drew.heap.size lv L) := (HFW.out.below (HRS1.out.low.drew)).l.below (Below.refl _ _) (by have h1 := HFW.out.bf; have h2 := HFW.out.lt.1; have h3 := HRS1.out.low.size; show B ≤ W3.heap.size; omega)
   refine wpIn_flowM (F0 := Fence.wide) (n0 := 5) (fun _ => trivial) (fun h => by cases h) (by kernel_rfl) (by kernel_rfl) 6 6 (by kernel_rfl) (fun j => ([0, 1, 2, 3, 4, 5] : List Nat).getD j 0) (fun j => ([38, 39, 40, 41, 42, 43] : List Nat).getD j 0) (by kernel_rfl) (by kernel_rfl) (by kernel_rfl) (by kernel_rfl) (by kernel_rfl) (by kernel_rfl) (by kernel_rfl) (fun j zv => ([(fun zv => zv = (.pointer (some ⟨fb, 0, none⟩))), (fun zv => zv = (.pointer (some ⟨fb, 0, none⟩))), (fun zv => zv = (.pointer (some ⟨fb, 1, none⟩))), (fun zv => zv = lv), (fun zv => zv = (.int .i64 (v : Int))), (fun zv => ∃ q, zv = nbV q)] : List (Value → Prop)).getD j (fun _ => True) zv) (fun d vs W => Clo dp7 d ∧ (d 5 = false → W = W3.drew) ∧ (d 5 = true → ∃ q, vs 5 = nbV q ∧ W3.heap.size ≤ q ∧ InvN q lv L v W ∧ Below W3.heap.size W3 W)) ?h0y ?stepy ?finy
   case h0y => exact fun _ => ⟨(fun u k h => by cases h), (fun _ => rfl), (fun h => by cases h)⟩
   case stepy =>
    intro i o a W d vs hi ho hdi hJ hf hr hF
    replace hi : i < 6 := hi
    rcases (show i = 0 ∨ i = 1 ∨ i = 2 ∨ i = 3 ∨ i = 4 ∨ i = 5 by omega) with rfl | rfl | rfl | rfl | rfl | rfl
    all_goals
     replace ho := op_at ho (by rfl)
     subst ho
    ·have f3 : a.tmps.getD 3 undef = (.pointer (some ⟨q3, 0, none⟩)) := hf 3 (by kernel_rfl)
     have h5 : d 5 = false := by cases h : d 5 with | false => rfl | true => have h1 := hJ.1 1 0 (hJ.1 2 1 (hJ.1 3 2 (hJ.1 5 3 h rfl) rfl) rfl) rfl; rw [hdi] at h1; cases h1
     have hW := hJ.2.1 h5
     subst hW
     have c3 := HC3.out _ LOW3.out
     exact .inl ⟨(fun k b h => by cases h), .inl ⟨0, by decide, rfl, (.pointer (some ⟨fb, 0, none⟩)), W3.drew, (by simp [go_sem, Act.eval, f3, c3]), rfl, ⟨hJ.1.upd (fun k hk => by simp [dp7] at hk), (fun _ => rfl), (fun h => by rw [updC_ne (by omega), h5] at h; cases h)⟩⟩⟩
    ·have d0 : a.tmps.getD 38 undef = (.pointer (some ⟨fb, 0, none⟩)) := fdn (hF 0 (by decide) (hr 0 (by kernel_rfl)))
     have h5 : d 5 = false := by cases h : d 5 with | false => rfl | true => have h1 := hJ.1 2 1 (hJ.1 3 2 (hJ.1 5 3 h rfl) rfl) rfl; rw [hdi] at h1; cases h1
     have hW := hJ.2.1 h5
     subst hW
     exact .inl ⟨(fun k b h => by cases h), .inl ⟨1, by decide, rfl, (.pointer (some ⟨fb, 0, none⟩)), W3.drew, (by simp [go_sem, Act.eval, d0]), rfl, ⟨hJ.1.upd (fun k hk => by rcases (show k = 0 by simpa [dp7] using hk) with rfl; exact hr _ (by kernel_rfl)), (fun _ => rfl), (fun h => by rw [updC_ne (by omega), h5] at h; cases h)⟩⟩⟩
    ·have d1 : a.tmps.getD 39 undef = (.pointer (some ⟨fb, 0, none⟩)) := fdn (hF 1 (by decide) (hr 1 (by kernel_rfl)))
     have h5 : d 5 = false := by cases h : d 5 with | false => rfl | true => have h1 := hJ.1 3 2 (hJ.1 5 3 h rfl) rfl; rw [hdi] at h1; cases h1
     have hW := hJ.2.1 h5
     subst hW
     exact .inl ⟨(fun k b h => by cases h), .inl ⟨2, by decide, rfl, (.pointer (some ⟨fb, 1, none⟩)), W3.drew, (by simp [go_sem, Act.eval, d1]), rfl, ⟨hJ.1.upd (fun k hk => by rcases (show k = 1 by simpa [dp7] using hk) with rfl; exact hr _ (by kernel_rfl)), (fun _ => rfl), (fun h => by rw [updC_ne (by omega), h5] at h; cases h)⟩⟩⟩
    ·have d2 : a.tmps.getD 40 undef = (.pointer (some ⟨fb, 1, none⟩)) := fdn (hF 2 (by decide) (hr 2 (by kernel_rfl)))
     have h5 : d 5 = false := by cases h : d 5 with | false => rfl | true => have h1 := hJ.1 5 3 h rfl; rw [hdi] at h1; cases h1
     have hW := hJ.2.1 h5
     subst hW
     have c1 := HCL.out _ LOW3.out
     exact .inl ⟨(fun k b h => by cases h), .inl ⟨3, by decide, rfl, lv, W3.drew, (by simp [go_sem, Act.eval, d2, c1]), rfl, ⟨hJ.1.upd (fun k hk => by rcases (show k = 2 by simpa [dp7] using hk) with rfl; exact hr _ (by kernel_rfl)), (fun _ => rfl), (fun h => by rw [updC_ne (by omega), h5] at h; cases h)⟩⟩⟩
    ·have f11 : a.tmps.getD 11 undef = (.pointer (some ⟨vb, 0, none⟩)) := hf 11 (by kernel_rfl)
     have h5 : d 5 = false := by cases h : d 5 with | false => rfl | true => have h1 := hJ.1 5 4 h rfl; rw [hdi] at h1; cases h1
     have hW := hJ.2.1 h5
     subst hW
     have cv : W3.drew.cell? ⟨vb, 0, none⟩ = some (.int .i64 (v : Int)) := cell_of_row _ _ 0 _ _ _ HVB.out
     exact .inl ⟨(fun k b h => by cases h), .inl ⟨4, by decide, rfl, (.int .i64 (v : Int)), W3.drew, (by simp [go_sem, Act.eval, f11, cv]), rfl, ⟨hJ.1.upd (fun k hk => by simp [dp7] at hk), (fun _ => rfl), (fun h => by rw [updC_ne (by omega), h5] at h; cases h)⟩⟩⟩
    ·have d3 : a.tmps.getD 41 undef = lv := fdn (hF 3 (by decide) (hr 3 (by kernel_rfl)))
     have d4 : a.tmps.getD 42 undef = (.int .i64 (v : Int)) := fdn (hF 4 (by decide) (hr 4 (by kernel_rfl)))
     have hW := hJ.2.1 hdi
     subst hW
     refine .inl ⟨(fun k b h => by cases h), .inr (.inr ⟨5, by decide, rfl, 41, #[lv, .int .i64 (v : Int)], W3.drew, (by simp [go_sem, Act.eval, d3, d4]), ?_⟩)⟩
     refine (callsIn_wide.2 (neigh_any lv L v W3.drew HLI.out)).mono ?_
     rintro e W' ⟨q, rfl, hq, hinv, hbel⟩
     exact ⟨_, rfl, ⟨q, rfl⟩, hJ.1.upd (fun k hk => by rcases (show k = 3 ∨ k = 4 by simpa [dp7] using hk) with rfl | rfl <;> exact hr _ (by kernel_rfl)), (fun h => by rw [updC_eq] at h; cases h), fun _ => ⟨q, updW_eq, hq, hinv, (bdN W3.heap.size W3 1).trans hbel⟩⟩
   case finy =>
    intro d vs Wy hall hJ hF
    have h0 : vs 0 = (.pointer (some ⟨fb, 0, none⟩)) := hF 0 (by decide)
    have h1 : vs 1 = (.pointer (some ⟨fb, 0, none⟩)) := hF 1 (by decide)
    have h2 : vs 2 = (.pointer (some ⟨fb, 1, none⟩)) := hF 2 (by decide)
    have h3 : vs 3 = lv := hF 3 (by decide)
    have h4 : vs 4 = (.int .i64 (v : Int)) := hF 4 (by decide)
    have h5 : (fun zv => ∃ q, zv = nbV q) (vs 5) := hF 5 (by decide)
    clear hF
    obtain ⟨qn, hqn, hqs, hinv, hbel⟩ := hJ.2.2 (hall 5 (by decide))
    show (_ : Exit → Act → World → Prop) Exit.normal (puts _ vs 6 _) Wy
    simp only [puts, h0, h1, h2, h3, h4, List.getD_cons_zero, List.getD_cons_succ]
    clear h0 h1 h2 h3 h4
    have hri : RI w1 L g n b v lv w.heap.size U ds ib yb ip yp wp qn vb i y ws gq (.slice ao' m' cap') i y ws [] (nbF L v) Wy :=
     ⟨rfl, rfl, HRS1.out.below hbel, hinv, stays HVB.out hbel, HM1.out.below hbel, Ne.symm HNG.out.1, by have := HRS1.out.q.lt; omega, Ne.symm HNG.out.2, by have := HRS1.out.ry.lt; omega⟩
    have HRI := Lib.hid hri
    have HU : Hid (U ≤ Wy.heap.size ∧ w1.heap.size ≤ Wy.heap.size) := ⟨by have h1 := hbel.size; have h2 := HZ.out; have h3 := HUV.out; omega, by have h1 := hbel.size; have h2 := HRS1.out.low.size; omega⟩
    simp only [hqn]
    simp only [Act.put, List.setIfInBounds_toArray, List.set_cons_succ, List.set_cons_zero]
    clear hJ hall h5 hqn hqs hinv hbel hri HRS1 HVB HM1 HZ HNG LOW3 HLI
    gi_wp2_with (fail)
    refine wpIn_range_H (F := Fence.wide) (n := 5) rfl (by omega) (gf := 50) (lb := #[.pointer (some ⟨qn, 0, none⟩), .pointer (some ⟨qn + 1, 0, none⟩)]) ?hg trivial (enters_of Try.func50 (by kernel_rfl) rfl) (encs := encN) (Inv := InvN qn lv L v) (neigh_iter qn lv L v 4) (fun x => rfl) ?hRput
     (fun pre W => ∃ gq' wv' i' y' ws' rest, RI w1 L g n b v lv w.heap.size U ds ib yb ip yp wp qn vb i y ws gq' wv' i' y' ws' pre rest W ∧ Wy.heap.size ≤ W.heap.size)
     (fun c pre W => c = .exit 0 ∧ ∃ gq' wv' i' y' ws', RS w1 n ib yb ip yp wp gq' wv' i' y' ws' W ∧ Marks w.heap.size U ds W ∧ scanB L g b v (nbF L v) i y ws = (i', y', ws', true))
     ?hI ?hIp ?hIxp ?hInv ?h0 (A := ?A) (fun (x : Nat × Nat) (u k : Nat) (_ _ _ _ : Unit) W => x = (u, k)) ?hAxp ?assign ?body ?done ?stop
    case hg => rfl
    case hRput => exact fun pre x W l o o' h _ _ => h
    case hI =>
     rintro s' A A' ⟨gq', wv', i', y', ws', rest, h1, h2⟩ hb
     exact ⟨_, _, _, _, _, _, h1.below hb, Nat.le_trans h2 hb.size⟩
    case hIp =>
     rintro s' A l o o' ⟨gq', wv', i', y', ws', rest, h1, h2⟩ hl ho hc
     exact ⟨_, _, _, _, _, _, h1.put (by have := HU.out.2; omega) (by have := HU.out.1; omega) ho hc, by simpa [World.putObj] using h2⟩
    case hIxp =>
     rintro c s' A l o o' ⟨h0, gq', wv', i', y', ws', h1, h2, h3⟩ hl ho hc
     exact ⟨h0, _, _, _, _, _, h1.put (by have := HU.out.2; omega) ho hc, h2.put (by have := HU.out.1; omega), h3⟩
    case hInv => rintro s' W' ⟨gq', wv', i', y', ws', rest, h1, h2⟩; exact h1.inv
    case h0 => exact ⟨_, _, _, _, _, _, HRI.out, Nat.le_refl _⟩
    case hAxp => exact fun x u k _ _ _ _ W l o o' h _ _ _ => h
    case assign =>
     rintro yl pre ⟨u, k⟩ W' K h1 hR hK
     have HK := Lib.hid hK
     have HP := Lib.hid h1
     have HR' := Lib.hid hR
     clear hK h1 hR
     simp only [encN]
     gi_wp2
     have d1 : Unit := ()
     have d2 : Unit := ()
     have d3 : Unit := ()
     have d4 : Unit := ()
     exact HK.out u k d1 d2 d3 d4 _ (KeepsOthers.refl _) HP.out HR'.out rfl
    case body =>
     rintro yl pre x u k d1 d2 d3 d4 W' hyl ⟨rl, hrl⟩ ⟨gq', wv', i', y', ws', rest0, h1, h2⟩ ⟨rest, hR⟩ rfl
     have hpo : rest0 = (u, k) :: rest := List.append_cancel_left (h1.sp.symm.trans hR)
     subst hpo
     have hedge : Edge L k u v := mem_nb.1 (by rw [hR]; simp)
     obtain ⟨hu, -, huv⟩ := edge_lt HF.out hedge
     have hk : k < L.length := hedge.1
     have HRI1 := Lib.hid h1
     have HRL := Lib.hid hrl
     have HSZ := Lib.hid h2
     have cip := cell_of_row _ _ 0 _ _ _ h1.rs.bi
     have cyp := cell_of_row _ _ 0 _ _ _ h1.rs.bY
     have cwp := cell_of_row _ _ 0 _ _ _ h1.rs.bw
     have cvb := cell_of_row _ _ 0 _ _ _ h1.bv
     have cin := h1.rs.rb.cell u (by rw [h1.rs.il]; exact hu)
     have c3 := HC3.out _ h1.rs.low
     have c5 := HC5.out _ h1.rs.low
     have HOP := Lib.hid (open_any W' B fb gb lv n L g k v (HFW.out.below h1.rs.low) hk)
     obtain ⟨bu, hbu⟩ : ∃ x, x = i'.getD u false := ⟨_, rfl⟩
     rw [← hbu] at cin
     have HSC : Hid (scanB L g b v ((u, k) :: rest) i' y' ws' = if (bu || !openL L g k v) = true then scanB L g b v rest i' y' ws' else if u = b then (i'.set u true, y'.set u (k : Int), ws' ++ [u], true) else scanB L g b v rest (i'.set u true) (y'.set u (k : Int)) (ws' ++ [u])) := by
      show _ = _
      rw [hbu]
      rfl
     have HSP : Hid (nbF L v = (pre ++ [(u, k)]) ++ rest) := by show _ = _; rw [hR]; simp
     have hun : 0 ≤ (u : Int) ∧ (u : Int) < (n : Int) := by omega
     clear h1 h2 hR hedge hrl hbu
     cases bu with
     | true =>
      gi_wp2_with (fail)
      refine ⟨trivial, ?_⟩
      gi_wp2_with (fail)
      have HS2 : Hid (scanB L g b v ((u, k) :: rest) i' y' ws' = scanB L g b v rest i' y' ws') := by show _ = _; rw [HSC.out, if_pos (by simp)]
      exact ⟨KeepsOthers.refl _, gq', wv', i', y', ws', rest, { HRI1.out with sp := HSP.out, sc := HRI1.out.sc.trans HS2.out }, HSZ.out⟩
     | false =>
      obtain ⟨bo, hbo⟩ : ∃ x, x = openL L g k v := ⟨_, rfl⟩
      rw [← hbo] at HSC HOP
      clear hbo
      gi_wp2_with (fail)
      refine ⟨trivial, ?_⟩
      refine (CallsIn.inRound yl (callsIn_wide.2 HOP.out)).mono ?_
      rintro e w' ⟨rfl, rfl⟩
      cases bo with
      | false =>
       gi_wp2_with (fail)
       have HS2 : Hid (scanB L g b v ((u, k) :: rest) i' y' ws' = scanB L g b v rest i' y' ws') := by show _ = _; rw [HSC.out, if_pos (by simp)]
       exact ⟨KeepsOthers.refl _, gq', wv', i', y', ws', rest, { HRI1.out with sp := HSP.out, sc := HRI1.out.sc.trans HS2.out }, HSZ.out⟩
      | true =>
       gi_wp2_with (fail)
       obtain ⟨W0, hW0⟩ : ∃ W0, W0 = w' := ⟨_, rfl⟩
       rw [← hW0] at HRI1 HSZ HRL ⊢
       have HW0 := Lib.hid hW0
       clear hW0 cip cyp cwp cvb c3 c5 cin HOP
       refine wpIn_flowM (F0 := (Fence.wide.inRound yl)) (n0 := 3) (fun _ => trivial) (fun h => by cases h) (by kernel_rfl) (by kernel_rfl) 9 7 (by kernel_rfl) (fun j => ([0, 1, 2, 3, 4, 5, 7] : List Nat).getD j 0) (fun j => ([57, 58, 59, 60, 61, 62, 63] : List Nat).getD j 0) (by kernel_rfl) (by kernel_rfl) (by kernel_rfl) (by kernel_rfl) (by kernel_rfl) (by kernel_rfl) (by kernel_rfl) (fun j zv => ([(fun zv => zv = (.slice (some ⟨ib, 0, none⟩) n n)), (fun zv => zv = (.int .i64 (u : Int))), (fun zv => zv = (.slice (some ⟨yb, 0, none⟩) n n)), (fun zv => zv = (.int .i64 (u : Int))), (fun zv => zv = (.int .i64 (k : Int))), (fun zv => zv = (.pointer (some ⟨ib, u, none⟩))), (fun zv => zv = (.pointer (some ⟨yb, u, none⟩)))] : List (Value → Prop)).getD j (fun _ => True) zv) (fun d _ W => RS w1 n ib yb ip yp wp gq' wv' (if d 6 = true then i'.set u true else i') (if d 8 = true then y'.set u (k : Int) else y') ws' W ∧ KeepsOthers W0 W ∧ (∀ c, c ≠ ib → c ≠ yb → W.heap[c]? = W0.heap[c]?) ∧ W.heap.size = W0.heap.size) ?h0x ?stepx ?finx
       case h0x => exact fun _ => ⟨HRI1.out.rs.below (bdN _ _ 1), ⟨Nat.le_refl _, fun _ _ h _ => h⟩, (fun _ _ _ => rfl), rfl⟩
       case stepx =>
        intro i o a W d vs hi ho hdi hJ hf hr hF
        replace hi : i < 9 := hi
        rcases (show i = 0 ∨ i = 1 ∨ i = 2 ∨ i = 3 ∨ i = 4 ∨ i = 5 ∨ i = 6 ∨ i = 7 ∨ i = 8 by omega) with rfl | rfl | rfl | rfl | rfl | rfl | rfl | rfl | rfl
        all_goals
         replace ho := op_at ho (by rfl)
         subst ho
        ·have f8 : a.tmps.getD 8 undef = (.pointer (some ⟨ip, 0, none⟩)) := hf 8 (by kernel_rfl)
         have cip := cell_of_row _ _ 0 _ _ _ hJ.1.bi
         exact .inl ⟨(fun k b h => by cases h), .inl ⟨0, by decide, rfl, (.slice (some ⟨ib, 0, none⟩) n n), W, (by simp [go_sem, Act.eval, f8, cip]), rfl, ⟨(by rw [updC_ne (by omega), updC_ne (by omega)]; exact hJ.1), hJ.2⟩⟩⟩
        ·have f12 : a.tmps.getD 12 undef = (.int .i64 (u : Int)) := hf 12 (by kernel_rfl)
         exact .inl ⟨(fun k b h => by cases h), .inl ⟨1, by decide, rfl, (.int .i64 (u : Int)), W, (by simp [go_sem, Act.eval, f12]), rfl, ⟨(by rw [updC_ne (by omega), updC_ne (by omega)]; exact hJ.1), hJ.2⟩⟩⟩
        ·have f9 : a.tmps.getD 9 undef = (.pointer (some ⟨yp, 0, none⟩)) := hf 9 (by kernel_rfl)
         have cyp := cell_of_row _ _ 0 _ _ _ hJ.1.bY
         exact .inl ⟨(fun k b h => by cases h), .inl ⟨2, by decide, rfl, (.slice (some ⟨yb, 0, none⟩) n n), W, (by simp [go_sem, Act.eval, f9, cyp]), rfl, ⟨(by rw [updC_ne (by omega), updC_ne (by omega)]; exact hJ.1), hJ.2⟩⟩⟩
        ·have f12 : a.tmps.getD 12 undef = (.int .i64 (u : Int)) := hf 12 (by kernel_rfl)
         exact .inl ⟨(fun k b h => by cases h), .inl ⟨3, by decide, rfl, (.int .i64 (u : Int)), W, (by simp [go_sem, Act.eval, f12]), rfl, ⟨(by rw [updC_ne (by omega), updC_ne (by omega)]; exact hJ.1), hJ.2⟩⟩⟩
        ·have f13 : a.tmps.getD 13 undef = (.int .i64 (k : Int)) := hf 13 (by kernel_rfl)
         exact .inl ⟨(fun k b h => by cases h), .inl ⟨4, by decide, rfl, (.int .i64 (k : Int)), W, (by simp [go_sem, Act.eval, f13]), rfl, ⟨(by rw [updC_ne (by omega), updC_ne (by omega)]; exact hJ.1), hJ.2⟩⟩⟩
        ·have d0 : a.tmps.getD 57 undef = (.slice (some ⟨ib, 0, none⟩) n n) := fdn (hF 0 (by decide) (hr 0 (by kernel_rfl)))
         have d1 : a.tmps.getD 58 undef = (.int .i64 (u : Int)) := fdn (hF 1 (by decide) (hr 1 (by kernel_rfl)))
         exact .inl ⟨(fun k b h => by cases h), .inl ⟨5, by decide, rfl, (.pointer (some ⟨ib, u, none⟩)), W, (by simp [go_sem, Act.eval, d0, d1, hun]), rfl, ⟨(by rw [updC_ne (by omega), updC_ne (by omega)]; exact hJ.1), hJ.2⟩⟩⟩
        ·have d5 : a.tmps.getD 62 undef = (.pointer (some ⟨ib, u, none⟩)) := fdn (hF 5 (by decide) (hr 5 (by kernel_rfl)))
         have cx := hJ.1.rb.cell u (by rw [hJ.1.il]; exact hu)
         have fx := hJ.1.rb.frozen u
         exact .inl ⟨(fun k b h => by cases h), .inr (.inl ⟨rfl, W.setCell ⟨ib, u, none⟩ (.bool true), (by simp [go_sem, Act.eval, d5, cx, fx]), ⟨(by have h0 := hJ.1.setI (u := u); rw [updC_ne (show (8 : Nat) ≠ 6 by omega), updC_eq]; simp only [hdi] at h0; simpa using h0), hJ.2.1.trans (KeepsOthers.setCell _ ⟨ib, u, none⟩ _), (fun c h1 h2 => (Below.heap_setCell _ _ _ _ h1).trans (hJ.2.2.1 c h1 h2)), by rw [← hJ.2.2.2]; simp⟩⟩)⟩
        ·have d2 : a.tmps.getD 59 undef = (.slice (some ⟨yb, 0, none⟩) n n) := fdn (hF 2 (by decide) (hr 2 (by kernel_rfl)))
         have d3 : a.tmps.getD 60 undef = (.int .i64 (u : Int)) := fdn (hF 3 (by decide) (hr 3 (by kernel_rfl)))
         exact .inl ⟨(fun k b h => by cases h), .inl ⟨6, by decide, rfl, (.pointer (some ⟨yb, u, none⟩)), W, (by simp [go_sem, Act.eval, d2, d3, hun]), rfl, ⟨(by rw [updC_ne (by omega), updC_ne (by omega)]; exact hJ.1), hJ.2⟩⟩⟩
        ·have d7 : a.tmps.getD 63 undef = (.pointer (some ⟨yb, u, none⟩)) := fdn (hF 6 (by decide) (hr 7 (by kernel_rfl)))
         have d4 : a.tmps.getD 61 undef = (.int .i64 (k : Int)) := fdn (hF 4 (by decide) (hr 4 (by kernel_rfl)))
         have cx := hJ.1.ry.cell u (by rw [hJ.1.yl]; exact hu)
         have fx := hJ.1.ry.frozen u
         exact .inl ⟨(fun k b h => by cases h), .inr (.inl ⟨rfl, W.setCell ⟨yb, u, none⟩ (.int .i64 (k : Int)), (by simp [go_sem, Act.eval, d7, d4, cx, fx]), ⟨(by have h0 := hJ.1.setY (u := u) (k := k); rw [updC_ne (show (6 : Nat) ≠ 8 by omega), updC_eq]; simp only [hdi] at h0; simpa using h0), hJ.2.1.trans (KeepsOthers.setCell _ ⟨yb, u, none⟩ _), (fun c h1 h2 => (Below.heap_setCell _ _ _ _ h2).trans (hJ.2.2.1 c h1 h2)), by rw [← hJ.2.2.2]; simp⟩⟩)⟩
       case finx =>
        intro d vs Wx hall hJ hF
        have h0 : vs 0 = (.slice (some ⟨ib, 0, none⟩) n n) := hF 0 (by decide)
        have h1 : vs 1 = (.int .i64 (u : Int)) := hF 1 (by decide)
        have h2 : vs 2 = (.slice (some ⟨yb, 0, none⟩) n n) := hF 2 (by decide)
        have h3 : vs 3 = (.int .i64 (u : Int)) := hF 3 (by decide)
        have h4 : vs 4 = (.int .i64 (k : Int)) := hF 4 (by decide)
        have h5 : vs 5 = (.pointer (some ⟨ib, u, none⟩)) := hF 5 (by decide)
        have h6 : vs 6 = (.pointer (some ⟨yb, u, none⟩)) := hF 6 (by decide)
        clear hF
        show (_ : Exit → Act → World → Prop) Exit.normal (puts _ vs 7 _) Wx
        simp only [puts, h0, h1, h2, h3, h4, h5, h6, List.getD_cons_zero, List.getD_cons_succ]
        clear h0 h1 h2 h3 h4 h5 h6
        have h6 := hall 6 (by decide)
        have h8 := hall 8 (by decide)
        rw [if_pos h6, if_pos h8] at hJ
        obtain ⟨hRS2, hKO, hOB, hSZ⟩ := hJ
        simp only [Act.put, List.setIfInBounds_toArray, List.set_cons_succ, List.set_cons_zero]
        obtain ⟨off2, capq2, hwv2, hcap2, -⟩ := hRS2.q.slice
        subst hwv2
        have HLEN : Hid (ws'.length ≤ n) := by
         have h1 := scan_len (L := L) (g := g) (b := b) (v := v) ((u, k) :: rest) i' y' ws'
         rw [← HRI1.out.sc] at h1
         exact Nat.le_trans h1 (scan_small HF.out HBI.out)
        have cwp := cell_of_row _ _ 0 _ _ _ hRS2.bw
        have m1 := new_block Wx (.cells #[.int .i64 (u : Int)] 3)
        have hq := hRS2.q.keep m1.1
        obtain ⟨m2, hm2⟩ : ∃ m, m = (nI ws').length := ⟨_, rfl⟩
        rw [← hm2] at cwp hq
        have HQ2 := Lib.hid hq
        have HRS2 := Lib.hid hRS2
        have HKO := Lib.hid hKO
        have HOB := Lib.hid hOB
        have HSX := Lib.hid hSZ
        have HM1 := Lib.hid m1
        have HN : Hid ((nI ws').length ≤ 1000) := by show (nI ws').length ≤ 1000; have := HLEN.out; simp only [List.length_map]; omega
        clear hRS2 hKO hOB hSZ m1 hq hall h6 h8 hcap2 hm2
        gi_wp2_with (refine wpListIn_append_que rfl _ _ rfl rfl HQ2.out HN.out Wx.heap.size (u : Int) rfl HM1.out.2 ?_)
        intro gq2 wv2 W5 hq5 hg5 hs5 ho5 hb5
        have hqn2 : Que W5 gq2 wv2 (nI (ws' ++ [u])) := by rw [show nI (ws' ++ [u]) = nI ws' ++ [(u : Int)] by simp [nI]]; exact hq5
        have hzx : (Wx.alloc (.cells #[.int .i64 (u : Int)] 3)).heap.size = Wx.heap.size + 1 := by simp
        have hA := HRS2.out.below HM1.out.1
        have hR6 := hA.wait hqn2 (by rw [hzx]; exact hg5) (by rw [hzx]; exact hs5) (fun c h1 h2 => ho5 c h1 (by rw [← hzx]; exact h2)) hb5
        have hwq : wp ≠ gq' := by obtain ⟨off, cap, arr, e1, e2, e3⟩ := hA.q; exact blk_ne hA.bw e2 (by decide)
        have hwx : wp < Wx.heap.size := (Array.getElem?_eq_some_iff.1 HRS2.out.bw).1
        have kw5 := (ho5 wp hwq (by omega)).trans hA.bw
        have cw5 := cell_of_row _ _ 0 _ _ _ kw5
        have fw5 := frozen_of_row _ _ 0 _ _ kw5
        have HKN : Hid (KeepsOthers W0 (W5.setCell ⟨wp, 0, none⟩ wv2) ∧ W0.heap.size ≤ W5.heap.size ∧ ∀ c, c ≠ ib → c ≠ yb → c ≠ gq' → c ≠ wp → c < W0.heap.size → (W5.setCell ⟨wp, 0, none⟩ wv2).heap[c]? = W0.heap[c]?) := by
         have h1 : ∀ c, c ≠ gq' → c ≠ wp → c < Wx.heap.size → (W5.setCell ⟨wp, 0, none⟩ wv2).heap[c]? = Wx.heap[c]? := fun c k1 k2 k3 => ((Below.heap_setCell _ _ _ _ k2).trans (ho5 c k1 (by omega))).trans (HM1.out.1.block c k3)
         have h2 := HSX.out
         obtain ⟨off, cap, arr, e1, e2, e3⟩ := HRS2.out.q
         have hbw := HRS2.out.bw
         refine ⟨HKO.out.trans ⟨by simp; omega, fun c o hc ho => ?_⟩, by omega, fun c k1 k2 k3 k4 k5 => (h1 c k3 k4 (by omega)).trans (HOB.out c k1 k2)⟩
         refine (h1 c ?_ ?_ (Array.getElem?_eq_some_iff.1 hc).1).trans hc
         ·rintro rfl; rw [e2] at hc; cases hc; simp [Obj.isCells] at ho
         ·rintro rfl; rw [hbw] at hc; cases hc; simp [Obj.isCells] at ho
        have HL6 : Hid (Lis (W5.setCell ⟨wp, 0, none⟩ wv2) (W5.setCell ⟨wp, 0, none⟩ wv2).heap.size lv L) := HFW.out.l.below (hR6.low.mono (by have h1 := HFW.out.bf; have h2 := HFW.out.lt.1; omega)) (by have h1 := HFW.out.bf; have h2 := HFW.out.lt.1; have h3 := hR6.low.size; omega)
        have c5 := HC5.out _ hR6.low
        have HR6 := Lib.hid hR6
        have HG5 : Hid (gq2 = gq' ∨ W0.heap.size ≤ gq2) := hg5.imp id (fun h => by have := HSX.out; omega)
        obtain ⟨ao2, m3, cap2, hv2⟩ : ∃ ao m c, wv2 = .slice ao m c := by obtain ⟨o, c, e, -⟩ := hq5.slice; exact ⟨_, _, _, e⟩
        subst hv2
        clear hq5 hg5 hs5 ho5 hb5 hqn2 hzx hA hR6 hwq hwx kw5 cwp
        by_cases hub : u = b
        ·subst hub
         gi_wp2_with (fail)
         have HS2 : Hid (scanB L g u v ((u, k) :: rest) i' y' ws' = (i'.set u true, y'.set u (k : Int), ws' ++ [u], true)) := by show _ = _; rw [HSC.out]; simp
         exact ⟨HW0.out ▸ HKN.out.1, rfl, _, _, _, _, _, HR6.out, HRI1.out.mks.others HKN.out.1, HRI1.out.sc.trans HS2.out⟩
        ·have hxb : ((u : Int) == (b : Int)) = false := by rw [beq_eq_false_iff_ne]; omega
         have HUB := Lib.hid hub
         clear hub
         gi_wp2_with (fail)
         have HS2 : Hid (scanB L g b v ((u, k) :: rest) i' y' ws' = scanB L g b v rest (i'.set u true) (y'.set u (k : Int)) (ws' ++ [u])) := by show _ = _; rw [HSC.out, if_neg (by simp), if_neg HUB.out]
         exact ⟨HW0.out ▸ HKN.out.1, _, _, _, _, _, rest, HRI1.out.next HL6.out HR6.out HKN.out.1 HKN.out.2.2 HG5.out HSP.out (HRI1.out.sc.trans HS2.out), by have h1 := HKN.out.2.1; have h2 := HSZ.out; simp; omega⟩
    case done =>
     rintro D xs W' hxs ⟨gq', wv', i', y', ws', rest, h1, h2⟩ hD hWD
     have H1 := Lib.hid h1
     have HXS := Lib.hid hxs
     have HD := Lib.hid hD
     have H2 := Lib.hid h2
     clear h1 hxs hD h2
     dsimp only
     gi_wp2_with (fail)
     obtain rfl : rest = [] := by have h0 := H1.out.sp; rw [HXS.out] at h0; simpa using h0
     obtain ⟨e1, e2⟩ := bfs_step (f := f) HF.out HBI.out H1.out.sc
     have hDl := (Array.getElem?_eq_some_iff.1 HD.out).1
     refine ⟨f, Nat.lt_succ_self f, _ :: ds, _, _, _, _, _, _, _, _, _, _, _, _, _, _, _, ⟨i', y', ws', done ++ [v], gq', D + 1, wv', HRR.out.trans e1, e2, by simp; omega, H1.out.rs, H1.out.mks.push HD.out (Nat.le_trans HU.out.1 hWD) (by have := HU.out.2; omega), hDl⟩, rfl⟩
    case stop =>
     rintro D c pre W' hpre ⟨hc, gq', wv', i', y', ws', h1, h2, h3⟩ hD hWD
     subst hc
     have H1 := Lib.hid h1
     have HD := Lib.hid hD
     have H2 := Lib.hid h2
     have H3 := Lib.hid h3
     clear h1 hD h2 h3
     dsimp only
     have HRI2 : Hid (R = (i', y')) := HRR.out.trans (bfs_stop H3.out)
     have cip := cell_of_row _ _ 0 _ _ _ H1.out.bi
     have cyp := cell_of_row _ _ 0 _ _ _ H1.out.bY
     gi_wp2_with (fail)
     refine wpIn_wide.2 ?_
     go_quiet (fail)
     gi_wp2_with (fail)
     rw [Exit.noGoto_ret]
     exact reach_end HRI2.out H1.out ((H2.out.push HD.out (Nat.le_trans HU.out.1 hWD) (by have := HU.out.2; omega)).below (bdN _ _ _)) HB1.out rfl rfl rfl

end Go.Proofs.Ytenilbofncfbdaa

