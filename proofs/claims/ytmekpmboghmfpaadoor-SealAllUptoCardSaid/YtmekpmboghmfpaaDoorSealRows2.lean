/- Salvage's lists, read only: rows of bytes, and places. -/
import Derived.Test.YtmekpmboghmfpaaDoorSealFMath
namespace Go.Proofs.YtmekpmboghmfpaaDoor
open Go.RowKit

theorem own_rows {w : World} {B : Nat} {lv : Value} {vs : List Value} (h : OwnL w B lv vs) (rows : List (List UInt8)) (hl : vs.length = rows.length) (hr : ∀ i, i < rows.length → ∃ B', Own w B' (vs.getD i undef) (rows.getD i [])) : BtsL w w.heap.size lv rows := by
  rcases h.2 with ⟨rfl, h0⟩ | ⟨g, cap, cur, rfl, hb, hg, hcap, hm, hsz, htake⟩
  · have : rows = [] := List.eq_nil_of_length_eq_zero (by omega)
    subst this
    exact ⟨none, 0, rfl, by simp, by simp [maxLen], fun h => absurd rfl h⟩
  · refine ⟨some ⟨g, 0, none⟩, cap, by rw [hl], by omega, hm, fun _ => ⟨g, 0, rfl, (Array.getElem?_eq_some_iff.1 hg).1, fun i hi => ?_⟩⟩
    obtain ⟨B', hB⟩ := hr i hi
    refine ⟨_, ?_, hB.bts⟩
    rw [Nat.zero_add, World.ownsRow.cellAt h i (by omega)]
    simp [List.getD, show i < vs.length by omega]

/-- Salvage, its lists as rows -/
theorem salv_rows (v : Value) (l : List UInt8) (w : World) (hb : Bts w w.heap.size v l) (ht : TabOK w) (hsm : l.length ≤ 1099511627776) :
    Calls Tryd.prog 21 #[v] w fun e w' => ∃ lv pv, e = .returned (.tuple #[lv, pv]) ∧ Below w.heap.size w w' ∧ BtsL w' w'.heap.size lv ((places l).map (bodyAt l)) ∧
      OwnP w' w.heap.size pv ((places l).map fun k : Nat => Value.int .i64 (k : Int)) := by
  refine (seal_Salvage v l w hb ht hsm).mono ?_
  rintro e w' ⟨lv, pv, xs, rfl, hB, hx, ho, hl, hp⟩
  refine ⟨lv, pv, rfl, hB, ?_, ?_⟩
  · refine own_rows hl _ (by rw [← hx]; simp) fun i hi => ⟨w.heap.size, ?_⟩
    rw [← hx] at hi ⊢
    have hi' : i < xs.length := by simpa using hi
    have := ho xs[i] (List.getElem_mem hi')
    simpa [List.getD, hi'] using this
  · have : ((places l).map fun k : Nat => Value.int .i64 (k : Int)) = xs.map fun x => Value.int .i64 (x.1 : Int) := by rw [← hx, List.map_map]; rfl
    rw [this]; exact hp

theorem lit1 (c : UInt8) (i : Nat) (hi : i < 1) : (#[Value.int .u8 (c.toNat : Int)])[i]? = some (.int .u8 (([c].getD i 0).toNat : Int)) := by
  obtain rfl : i = 0 := by omega
  rfl

end Go.Proofs.YtmekpmboghmfpaaDoor
