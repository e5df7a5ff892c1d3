/- Terms: the program's. -/
import Derived.Test.YtckedklopgnloaaDoorFracTerms2
import Derived.RangeFuncBox
namespace Go.Proofs.YtckedklopgnloaaDoor
open Go.RowKit

attribute [local go_sem] Oper.semAt_some

theorem terms_calls (n d : Int) (w : World) : Calls Tryd.prog 49 #[frV n d] w fun e w' => e = .returned (.func (.func 55) #[] #[.pointer (some ⟨w.heap.size, 0, none⟩)]) ∧ w.alloc (.cells #[.int .i64 n, .int .i64 d] 23) = w' := by
  go_enter Tryd.func49, Tryd.ntmps49
  go_wp2
  go_ret
  exact ⟨rfl, by trivial⟩

/-- what holds between two rounds: W0 the world of entry, the list's box one above it, the iterator's two above it -/
def TerI (W0 : World) (pre : List (Int × Bool)) (W : World) : Prop :=
  Below W0.heap.size W0 W ∧ W0.heap.size + 3 ≤ W.heap.size ∧ ∃ v, Boxed W (W0.heap.size + 1) 41 v ∧ OwnI W (W0.heap.size + 3) v (pre.map (·.1))
theorem TerI.turns {W0 W W' : World} {pre : List (Int × Bool)} (h : TerI W0 pre W) (ht : Turns (W0.heap.size + 2) W W') : TerI W0 pre W' := by
  obtain ⟨h1, h2, v, h3, h4⟩ := h
  refine ⟨h1.trans (ht.below (by omega) h1.size), Nat.le_trans h2 ht.size, v, (ht.block _ h3.lt (by omega)).trans h3, h4.1, ?_⟩
  rcases h4.2 with h | ⟨g, cap, cur, hv, hb, hg, r⟩
  · exact .inl h
  · exact .inr ⟨g, cap, cur, hv, hb, (ht.block _ (Array.getElem?_eq_some_iff.1 hg).1 (by omega)).trans hg, r⟩
theorem TerI.put {W0 W : World} {pre : List (Int × Bool)} (h : TerI W0 pre W) {l : Nat} {o : Obj} (hl : W0.heap.size + 3 ≤ l) (ho : W.heap[l]? = some o) (hc : o.isCells = false) (o' : Obj) : TerI W0 pre (W.putObj l o') := by
  obtain ⟨h1, h2, v, h3, h4⟩ := h
  refine ⟨h1.grown (grownBy_putObj' W l o') h1.size (fun k e => by cases e; omega), ?_, v, (World.putObj_heap_other (by omega)).trans h3, ?_⟩
  · have := (grownBy_putObj' W l o').size; omega
  · exact ownsRow_putObj h4 o' ho hc

set_option maxRecDepth 100000 in
set_option maxHeartbeats 4000000 in
theorem terms_any (n d : Int) (w : World) (hd0 : 1 ≤ d) (hd1 : d ≤ 2147483647) (hn0 : -2147483647 ≤ n) (hn1 : n ≤ 2147483647) :
    Calls Tryd.prog 37 #[frV n d] w fun e w' => ∃ v, e = .returned v ∧ OwnI w' w.heap.size v (termsI n d) ∧ Below w.heap.size w w' := by
  refine (callsIn_wide (n := 5)).1 ?_
  refine callsIn_of_wp_marks Tryd.func37 rfl trivial ?_ rfl
  simp only [Tryd.ntmps37, List.size_toArray, List.length_cons, List.length_nil, Nat.reduceAdd, Nat.reduceSub, Array.replicate_succ, Array.replicate_zero, List.push_toArray, List.append_toArray, List.nil_append, List.cons_append]
  gi_wp2_with (fail)
  refine ⟨trivial, ?_⟩
  refine (callsIn_wide.2 (terms_calls n d _)).mono ?_
  rintro e w' ⟨rfl, rfl⟩
  gi_wp2
  refine wpIn_range_box (F := Fence.wide) (n := 5) rfl (by omega) (gf := 55) (lb := #[.pointer (some ⟨w.heap.size + 2, 0, none⟩)]) rfl trivial (enters_of Tryd.func55 (by kernel_rfl) rfl)
    (terms1_iter (w.heap.size + 2) n d hd0 hd1 hn0 hn1 4) (by simp) ?hb0 (fun x => rfl)
    (TerI w) (fun s A B h ht => h.turns ht) (fun s A l0 o o' h hl ho hc => h.put (by simp at hl; omega) ho hc _) ?h0
    (fun x => { tmps := #[frV n d, .pointer (some ⟨w.heap.size, 0, none⟩), .slice none 0 0, .pointer (some ⟨w.heap.size + 1, 0, none⟩), .int .i64 x.1, .agg #[.int .i64 n, .int .i64 d], .func (.func 55) #[] #[.pointer (some ⟨w.heap.size + 2, 0, none⟩)], .int .i64 x.1, .bool x.2, undef, undef, undef, undef, undef], defers := [] }) ?assign ?body ?done
  case hb0 => 
    have := heap_alloc_new ((w.alloc (.cells #[.int .i64 n, .int .i64 d] 23)).alloc (.cells #[.slice none 0 0] 41)) (.cells #[.int .i64 n, .int .i64 d] 23)
    simpa [frO] using this
  case h0 =>
    refine ⟨(((Below.refl _ w).alloc (Nat.le_refl _) _).alloc (by simp) _).alloc (by simp; omega) _, by simp, .slice none 0 0, ?_, OwnI.nil _ _⟩
    have := Boxed.new (w.alloc (.cells #[.int .i64 n, .int .i64 d] 23)) 41 (.slice none 0 0)
    simpa using this.alloc (.cells #[.int .i64 n, .int .i64 d] 23)
  case assign =>
    intro yl x W K hK
    simp only [encT]
    gi_wp2
    exact hK
  case body =>
    intro yl pre x W hI hR
    obtain ⟨hB, hz, v, hv, hown⟩ := hI
    obtain ⟨rest, hrest⟩ := hR
    have hlen := termsI_len n d (by omega)
    have hpl : (pre.map (·.1)).length + 1 ≤ 2147483647 := by
      have := congrArg List.length hrest
      simp only [List.length_append, List.length_cons] at this
      omega
    have hc := hv.cell
    have hf := hv.frozen
    obtain ⟨i0, hi, hz0, hz1, hz2⟩ := info_parts info_i64
    have HB := Lib.hid hB
    have HZ := Lib.hid hz
    have HO := Lib.hid hown
    have HV := Lib.hid hv
    have HPL := Lib.hid hpl
    clear hB hz hown hv hrest hlen hpl
    gi_wp2_with (gi_at_builtin; (refine wpListIn_append_own _ rfl _ _ 41 rfl (w.heap.size + 3) 2 i0 (.int .i64 0) 1 8 Tryd.underlying41 hi hz0 hz1 hz2 rfl (by decide) _ _ _ rfl (HO.out.below ((Below.refl _ _).alloc (Nat.le_refl _) _)) ⟨W.heap.size, 0, none⟩ 1 1 [.int .i64 x.1] rfl rfl ?c1 (by intro u hu; simp at hu; subst hu; rfl) (by have := HPL.out; unfold maxLen; omega) (by have := HPL.out; omega) (by have := HZ.out; simp; omega) ?_))
    case c1 =>
      intro j u hj
      have hj0 : j = 0 := by have := (List.getElem?_eq_some_iff.1 hj).1; simp at this; omega
      subst hj0
      rw [Addr.add_lit, cell_of_row _ W.heap.size _ _ _ _ (heap_alloc_new W _)]
      simpa using hj
    intro v2 w2 hown2 hg2 _
    obtain ⟨g2, cap2, rfl⟩ := ownsRow_succ hown2
    have hz := HZ.out
    have hrow : ∀ k, v.ownBlock = some k → w.heap.size + 3 ≤ k := fun k hk => (World.ownsRow.lt HO.out k hk).1
    have keep : ∀ k, k < W.heap.size → k < w.heap.size + 3 → w2.heap[k]? = W.heap[k]? := fun k hk hk3 => by
      rw [hg2.block k (by simp; omega) (fun e => by have := hrow _ e.symm; omega)]
      exact Below.heap_alloc _ _ _ hk
    have hv2 : Boxed w2 (w.heap.size + 1) 41 v := (keep _ (by omega) (by omega)).trans HV.out
    have hc2 := hv2.cell
    have hf2 := hv2.frozen
    have hKO : KeepsOthers W w2 := (KeepsOthers.alloc W _).trans (KeepsOthers.of_grownBy hg2 fun j o ej hj => by
      have hO2 := HO.out.below ((Below.refl W.heap.size W).alloc (Nat.le_refl _) (.cells #[.int .i64 x.1] 2))
      rcases hO2.2 with ⟨h, _⟩ | ⟨g, cap, cur, h, _, hgb, _⟩
      · rw [h] at ej; simp [Value.ownBlock] at ej
      · rw [h] at ej
        obtain rfl : g = j := by simpa [Value.ownBlock] using ej
        rw [hgb] at hj; cases hj; rfl)
    have HKO := Lib.hid hKO
    have hBel : Below w.heap.size w w2 := (HB.out.alloc (by omega) _).grown hg2 (by simp; omega) (fun k hk => by have := hrow k hk; omega)
    have HB2 := Lib.hid hBel
    have HZ2 : Hid (w.heap.size + 3 ≤ w2.heap.size) := by have := hg2.size; show _ ≤ _; simp at this; omega
    have HO2 := Lib.hid hown2
    have HV2 := Lib.hid hv2
    have HKE := Lib.hid keep
    clear hg2 hrow hKO hBel hown2 hv2 keep hc hf hz
    gi_wp2
    refine ⟨?_, ?_, ?_⟩
    · exact HKO.out.trans (KeepsOthers.setCell _ _ _)
    · rw [Below.heap_setCell _ _ _ _ (show w.heap.size + 2 ≠ w.heap.size + 1 by omega)]
      exact HKE.out _ (by have := HZ.out; omega) (by omega)
    · refine ⟨bel_set (by omega) HB2.out, by simpa [World.setCell] using HZ2.out, _, HV2.out.set _, ?_⟩
      have := ownsRow_setCell_below (a := ⟨w.heap.size + 1, 0, none⟩) HO2.out (show w.heap.size + 1 < w.heap.size + 3 by omega) (.slice (some ⟨g2, 0, none⟩) ((pre.map (·.1)).length + 1) cap2)
      simpa [OwnI] using this
  case done => 
    intro D xs W hS hI hK hD
    obtain ⟨hB, hz, v, hv, hown⟩ := hI
    have hc := hv.cell
    have hDn : w.heap.size + 3 ≤ D := by simp at hD; omega
    gi_wp2
    refine ⟨by simp, .inl ⟨_, _, rfl, run_takeDeferred hK, ?_⟩⟩
    refine ⟨_, results_tmp rfl _ _ _, v, rfl, ?_, ?_⟩
    · rw [← hS]
      have := ownsRow_putObj hown (.deferred none) hK rfl
      exact OwnI.mono this (by omega)
    · exact hB.grown (grownBy_putObj' W D _) hB.size (fun k e => by cases e; omega)

end Go.Proofs.YtckedklopgnloaaDoor
