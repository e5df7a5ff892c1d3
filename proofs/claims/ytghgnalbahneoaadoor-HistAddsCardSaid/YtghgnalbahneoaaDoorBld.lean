/- strings.Builder: copyCheck, WriteString, WriteByte at a builder of the call's own. -/
import Derived.Test.YtghgnalbahneoaaDoorShelf
import Derived.Test.YtghgnalbahneoaaDoorBase
import Derived.Test.YtghgnalbahneoaaDoorRange
import Derived.Shelf.Strings.Builder1
import Derived.Lib.Builder
import Derived.Lib.AppendStr
import Derived.Lib.AppendIntMem
namespace Go.Proofs.YtghgnalbahneoaaDoor
open Go.RowKit

theorem info_bld : (Tryd.prog.info? 73).map (fun i => i.size) = some 2 := by kernel_rfl
theorem info_u8b : (Tryd.prog.info? 5).map (fun i => (i.zero, i.size, i.bytes)) = some (some (.int .u8 0), 1, 1) := by kernel_rfl
theorem neB_u8 : 73 ≠ 5 := by decide

set_option maxRecDepth 100000 in
set_option maxHeartbeats 1000000 in
theorem bld_used (b : Nat) (w : World) (h0 : w.cell? ⟨b, 0, none⟩ = some (.pointer (some ⟨b, 0, none⟩))) :
    Calls Tryd.prog 64 #[.pointer (some ⟨b, 0, none⟩)] w fun e w' => e = .returned (.tuple #[]) ∧ w' = w := by
  obtain ⟨j, hj, -⟩ := Option.map_eq_some_iff.1 info_bld
  have hn := Lib.run_neq_ptr_same w ⟨b, 0, none⟩ Tryd.underlying70 hj
  go_enter Tryd.func64, Tryd.ntmps64
  go_wp2
  go_end0
  exact ⟨rfl, rfl⟩

set_option maxRecDepth 100000 in
set_option maxHeartbeats 1000000 in
theorem bld_fresh (b : Nat) (w : World) (h0 : w.cell? ⟨b, 0, none⟩ = some (.pointer none)) (hsh : w.shape? b = some (73, 2)) (hfz : w.frozen? ⟨b, 0, none⟩ = false) :
    Calls Tryd.prog 64 #[.pointer (some ⟨b, 0, none⟩)] w fun e w' => e = .returned (.tuple #[]) ∧ w' = w.setCell ⟨b, 0, none⟩ (.pointer (some ⟨b, 0, none⟩)) := by
  obtain ⟨j, hj, hjs⟩ := Option.map_eq_some_iff.1 info_bld
  have h1 := Lib.run_to_unsafe (P := Tryd.prog) w ⟨b, 0, none⟩ Tryd.underlying70 Tryd.underlying100 hj (by rw [hjs]; decide) hsh (Nat.zero_lt_succ 1)
  have h2 := Lib.run_from_unsafe (P := Tryd.prog) w ⟨b, 0, none⟩ Tryd.underlying100 Tryd.underlying70 hj hsh (by kernel_rfl)
  go_enter Tryd.func64, Tryd.ntmps64
  go_wp2
  rw [run_callFunc_extern Tryd.func73 (by kernel_rfl) (by kernel_rfl) (by kernel_rfl) (e := Extern.AbiNoEscape.same) (by kernel_rfl)]
  rw [Lib.run_noEscape]
  simp only [Result.andThen]
  rw [Oper.upon_value]
  go_wp2
  go_end0
  exact ⟨rfl, rfl⟩

/-- a builder of the call's own that holds these bytes -/
def Bld (w : World) (B b : Nat) (l : List UInt8) : Prop := Lib.IsBuilder 73 5 B b (Lib.byteCells l) w
theorem Bld.mono {w : World} {B B' b : Nat} {l : List UInt8} (h : Bld w B b l) (hB : B' ≤ B) : Bld w B' b l := by
  have go : ∀ p, Lib.BuilderAt 73 5 B b p (Lib.byteCells l) w → Lib.BuilderAt 73 5 B' b p (Lib.byteCells l) w := by
    rintro p ⟨h1, v, h2, h3, h4⟩
    refine ⟨Nat.le_trans hB h1, v, h2, ⟨h3.1, ?_⟩, h4⟩
    rcases h3.2 with h | ⟨g, cap, cur, hv, hg, r⟩
    · exact .inl h
    · exact .inr ⟨g, cap, cur, hv, Nat.le_trans hB hg, r⟩
  exact h.elim (fun x => .inl (go _ x)) (fun x => .inr (go _ x))
theorem Bld.below {w w' : World} {B b : Nat} {l : List UInt8} (h : Bld w B b l) (hb : Below w.heap.size w w') : Bld w' B b l := by
  have go : ∀ p, Lib.BuilderAt 73 5 B b p (Lib.byteCells l) w → Lib.BuilderAt 73 5 B b p (Lib.byteCells l) w' := by
    rintro p ⟨h1, v, h2, h3, h4⟩
    refine ⟨h1, v, (hb.block _ (Array.getElem?_eq_some_iff.1 h2).1).trans h2, ⟨h3.1, ?_⟩, h4⟩
    rcases h3.2 with h | ⟨g, cap, cur, hv, hg, hr, r⟩
    · exact .inl h
    · exact .inr ⟨g, cap, cur, hv, hg, (hb.block _ (Array.getElem?_eq_some_iff.1 hr).1).trans hr, r⟩
  exact h.elim (fun x => .inl (go _ x)) (fun x => .inr (go _ x))
theorem Bld.put {w : World} {B b : Nat} {l : List UInt8} (h : Bld w B b l) {k : Nat} {o : Obj} (o' : Obj) (hl : w.heap[k]? = some o) (hc : o.isCells = false) : Bld (w.putObj k o') B b l := by
  have row : ∀ {q : Nat} {cs : Array Value} {t : TypeId} {fr : Nat × Nat}, w.heap[q]? = some (.cells cs t fr) → (w.putObj k o').heap[q]? = some (.cells cs t fr) := by
    intro q cs t fr hq
    have : k ≠ q := by rintro rfl; rw [hl] at hq; cases hq; simp [Obj.isCells] at hc
    rw [World.putObj_heap_other (by omega)]; exact hq
  have go : ∀ p, Lib.BuilderAt 73 5 B b p (Lib.byteCells l) w → Lib.BuilderAt 73 5 B b p (Lib.byteCells l) (w.putObj k o') := by
    rintro p ⟨h1, v, h2, h3, h4⟩
    refine ⟨h1, v, row h2, ⟨h3.1, ?_⟩, h4⟩
    rcases h3.2 with h | ⟨g, cap, cur, hv, hg, hr, r⟩
    · exact .inl h
    · exact .inr ⟨g, cap, cur, hv, hg, row hr, r⟩
  exact h.elim (fun x => .inl (go _ x)) (fun x => .inr (go _ x))
theorem stayB {W W' : World} {k : Nat} {o : Obj} (h : W.heap[k]? = some o) (hb : Below W.heap.size W W') : W'.heap[k]? = some o := (hb.block _ (Array.getElem?_eq_some_iff.1 h).1).trans h
theorem bel_allocB (w : World) (o : Obj) : Below w.heap.size w (w.alloc o) := (Below.refl _ _).alloc (Nat.le_refl _) o
theorem Bld.new (w : World) (B : Nat) (hB : B ≤ w.heap.size) : Bld (w.alloc (.cells #[.pointer none, .slice none 0 0] 73)) B w.heap.size [] :=
  Bld.mono (B := w.heap.size) (Lib.fresh_isBuilder _ _ w) hB
theorem Bld.lt {w : World} {B b : Nat} {l : List UInt8} (h : Bld w B b l) : B ≤ b ∧ b < w.heap.size := by
  rcases h with h | h
  · exact ⟨h.1, h.lt⟩
  · exact ⟨h.1, h.lt⟩

/-- what a write leaves: every block but the builder's own that is no row of bytes -/
def FrameB (b : Nat) (w w' : World) : Prop := ∀ (j : Nat) (o : Obj), w.heap[j]? = some o → j ≠ b → (∀ cs fr, o ≠ .cells cs 5 fr) → w'.heap[j]? = some o
theorem FrameB.refl (b : Nat) (w : World) : FrameB b w w := fun _ _ h _ _ => h
theorem FrameB.trans {b : Nat} {w w1 w2 : World} (h : FrameB b w w1) (k : FrameB b w1 w2) : FrameB b w w2 := fun j o hj hn ho => k j o (h j o hj hn ho) hn ho
theorem FrameB.set {b : Nat} {w w1 : World} (h : FrameB b w w1) (i : Nat) (v : Value) : FrameB b w (w1.setCell ⟨b, i, none⟩ v) := fun j o hj hn ho => by
  rw [Below.heap_setCell _ _ _ _ (show j ≠ b from hn)]; exact h j o hj hn ho
theorem FrameB.below {b : Nat} {w w1 w2 : World} (h : FrameB b w w1) (k : Below w1.heap.size w1 w2) : FrameB b w w2 := fun j o hj hn ho => stayB (h j o hj hn ho) k
theorem FrameB.grown {b B : Nat} {w w1 w2 : World} {v : Value} {n : Nat} {xs : List Value} (h : FrameB b w w1) (hown : w1.ownsRow B 5 1 v n xs) (hg : w1.grownBy w2 v.ownBlock) : FrameB b w w2 := fun j o hj hn ho => by
  have h1 := h j o hj hn ho
  refine (hg.block j (Array.getElem?_eq_some_iff.1 h1).1 (fun e => ?_)).trans h1
  rcases hown.2 with ⟨rfl, -⟩ | ⟨g, cap, cur, rfl, -, hr, -⟩
  · simp [Value.ownBlock] at e
  · simp only [Value.ownBlock, Option.some.injEq] at e
    subst e
    rw [hr] at h1
    exact ho _ _ (Option.some.inj h1).symm
theorem FrameB.others {b : Nat} {w w' : World} (h : FrameB b w w') (hs : w.heap.size ≤ w'.heap.size) {cs : Array Value} {t : TypeId} {fr : Nat × Nat} (hb : w.heap[b]? = some (.cells cs t fr)) : KeepsOthers w w' :=
  ⟨hs, fun k o hk ho => h k o hk (fun e => by subst e; rw [hb] at hk; cases hk; cases ho) (fun cs fr e => by subst e; cases ho)⟩
theorem Bld.row {w : World} {B b : Nat} {l : List UInt8} (h : Bld w B b l) : ∃ cs, w.heap[b]? = some (.cells cs 73 (0, 0)) := by
  rcases h with ⟨-, v, h, -⟩ | ⟨-, v, h, -⟩
  · exact ⟨_, h⟩
  · exact ⟨_, h⟩

theorem bld_check (B b : Nat) (l : List UInt8) (w : World) (h : Bld w B b l) :
    Calls Tryd.prog 64 #[.pointer (some ⟨b, 0, none⟩)] w fun e w' => e = .returned (.tuple #[]) ∧ Lib.BuilderAt 73 5 B b (.pointer (some ⟨b, 0, none⟩)) (Lib.byteCells l) w' ∧ Below B w w' ∧ w'.heap.size = w.heap.size ∧ FrameB b w w' := by
  rcases h with h | h
  · refine (bld_fresh b w h.cell0 h.shape h.frozen0).mono ?_
    rintro e w' ⟨rfl, rfl⟩
    exact ⟨rfl, h.used _, (Below.refl B w).setCell (p := ⟨b, 0, none⟩) h.1 _, by simp [World.setCell], (FrameB.refl b w).set 0 _⟩
  · refine (bld_used b w h.cell0).mono ?_
    rintro e w' ⟨rfl, rfl⟩
    exact ⟨rfl, h, Below.refl B _, rfl, FrameB.refl _ _⟩

set_option maxRecDepth 100000 in
set_option maxHeartbeats 1000000 in
theorem bld_byte (B b : Nat) (l : List UInt8) (c : UInt8) (w : World) (h : Bld w B b l) (hlen : l.length + 1 ≤ 140737488355328) (hBw : B ≤ w.heap.size) :
    Calls Tryd.prog 44 #[.pointer (some ⟨b, 0, none⟩), .int .u8 (c.toNat : Int)] w fun e w' => e = .returned .nilIface ∧ Bld w' B b (l ++ [c]) ∧ Below B w w' ∧ FrameB b w w' := by
  obtain ⟨i0, hi, hz0, hz1, hz2⟩ := info_parts info_u8b
  have hk := Lib.hid (bld_check B b l w h)
  have HL : Hid ((Lib.byteCells l).length = l.length) := by show _ = _; simp [Lib.byteCells]
  go_enter Tryd.func44, Tryd.ntmps44
  go_wp2_with (fail)
  refine hk.out.mono ?_
  rintro e w1 ⟨rfl, h1, hb1, hs, hf⟩
  have HFR := Lib.hid hf
  clear hf
  have HS := Lib.hid hs
  clear hs
  obtain ⟨hB, v, hbk, hown, hne⟩ := h1
  have c0 : w1.cell? ⟨b, 0, none⟩ = some (.pointer (some ⟨b, 0, none⟩)) := by rw [Lib.cell_of_heap hbk]; rfl
  have c1 : w1.cell? ⟨b, 1, none⟩ = some v := by rw [Lib.cell_of_heap hbk]; rfl
  go_wp2_with (at_builtin; refine wpList_append_own _ rfl _ _ 71 rfl B 5 i0 (.int .u8 0) 1 1 Tryd.underlying71 hi hz0 hz1 hz2 rfl (by decide) _ _ _ rfl (hown.alloc _) ⟨w1.heap.size, 0, none⟩ 1 1 [.int .u8 (c.toNat : Int)] rfl rfl ?c1 ?c2 ?c3 ?c4 ?c5 ?_)
  case c1 =>
    intro j u hj
    match j, hj with
    | 0, hj => simp at hj; subst hj; simp [Addr.add]
  case c2 => intro u hu; simp at hu; subst hu; rfl
  case c3 => have := HL.out; unfold maxLen; omega
  case c4 => have := HL.out; omega
  case c5 => have := HS.out; simp; omega
  intro v' w2 hown' hgrow _
  have hlt : b < w1.heap.size := (Array.getElem?_eq_some_iff.1 hbk).1
  have hb2 : w2.heap[b]? = some (.cells #[.pointer (some ⟨b, 0, none⟩), v] 73 (0, 0)) := by
    rw [hgrow.block b (by simp; omega) (fun e => hne e.symm), Lib.alloc_old w1 _ b hlt]
    exact hbk
  have d0 : w2.cell? ⟨b, 0, none⟩ = some (.pointer (some ⟨b, 0, none⟩)) := by rw [Lib.cell_of_heap hb2]; rfl
  have d1 : w2.cell? ⟨b, 1, none⟩ = some v := by rw [Lib.cell_of_heap hb2]; rfl
  have f1 : w2.frozen? ⟨b, 1, none⟩ = false := Lib.frozen_of_heap hb2 1
  obtain ⟨g, cap, rfl⟩ : ∃ g cap, v' = .slice (some ⟨g, 0, none⟩) ((Lib.byteCells l).length + 1) cap := by
    rcases hown'.2 with ⟨_, h0⟩ | ⟨g, cap, cur, hv, _⟩
    · omega
    · exact ⟨g, cap, hv⟩
  go_wp2
  go_ret
  refine ⟨rfl, .inr ?_, ?_, ((HFR.out.below (bel_allocB _ _)).grown (hown.alloc _) hgrow).set 1 _⟩
  · have := Lib.BuilderAt.put (T := 73) (e := 5) hB hb2 (bs' := Lib.byteCells l ++ [.int .u8 (c.toNat : Int)]) (by simpa using hown') neB_u8
    simpa [Lib.byteCells] using this
  · have := HS.out
    exact ((hb1.alloc (by omega) _).grown hgrow (by simp; omega) (fun k hk => (hown.lt k hk).1)).setCell (p := ⟨b, 1, none⟩) hB _

set_option maxRecDepth 100000 in
set_option maxHeartbeats 1000000 in
theorem bld_string (B b : Nat) (l s : List UInt8) (w : World) (h : Bld w B b l) (hlen : l.length + s.length ≤ 140737488355328) (hBw : B ≤ w.heap.size) :
    Calls Tryd.prog 42 #[.pointer (some ⟨b, 0, none⟩), .string ⟨s.toArray⟩] w fun e w' => e = .returned (.tuple #[.int .i64 (s.length : Int), .nilIface]) ∧ Bld w' B b (l ++ s) ∧ Below B w w' ∧ FrameB b w w' := by
  obtain ⟨i0, hi, hz0, hz1, hz2⟩ := info_parts info_u8b
  have hk := Lib.hid (bld_check B b l w h)
  have HL : Hid ((Lib.byteCells l).length = l.length) := by show _ = _; simp [Lib.byteCells]
  have HZ : Hid ((⟨s.toArray⟩ : ByteArray).size = s.length) := by show _ = _; simp [ByteArray.size]
  go_enter Tryd.func42, Tryd.ntmps42
  go_wp2_with (fail)
  refine hk.out.mono ?_
  rintro e w1 ⟨rfl, h1, hb1, hs, hf⟩
  have HFR := Lib.hid hf
  clear hf
  have HS := Lib.hid hs
  clear hs
  obtain ⟨hB, v, hbk, hown, hne⟩ := h1
  have c0 : w1.cell? ⟨b, 0, none⟩ = some (.pointer (some ⟨b, 0, none⟩)) := by rw [Lib.cell_of_heap hbk]; rfl
  have c1 : w1.cell? ⟨b, 1, none⟩ = some v := by rw [Lib.cell_of_heap hbk]; rfl
  go_wp2_with (at_builtin; refine Lib.wpList_append_own_string _ rfl _ _ 71 9 rfl B 5 i0 Tryd.underlying71 Tryd.underlying9 hi hz0 hz1 hz2 _ _ _ rfl hown ⟨s.toArray⟩ rfl ?c3 ?c4 ?c5 ?_)
  case c3 => have := HL.out; have := HZ.out; unfold maxLen; omega
  case c4 => have := HL.out; have := HZ.out; omega
  case c5 => have := HS.out; omega
  intro v' w2 hown' hgrow _
  have hlt : b < w1.heap.size := (Array.getElem?_eq_some_iff.1 hbk).1
  have hb2 : w2.heap[b]? = some (.cells #[.pointer (some ⟨b, 0, none⟩), v] 73 (0, 0)) := by
    rw [hgrow.block b hlt (fun e => hne e.symm)]
    exact hbk
  have d0 : w2.cell? ⟨b, 0, none⟩ = some (.pointer (some ⟨b, 0, none⟩)) := by rw [Lib.cell_of_heap hb2]; rfl
  have d1 : w2.cell? ⟨b, 1, none⟩ = some v := by rw [Lib.cell_of_heap hb2]; rfl
  have f1 : w2.frozen? ⟨b, 1, none⟩ = false := Lib.frozen_of_heap hb2 1
  obtain ⟨ao, n', cap, rfl⟩ : ∃ ao n' cap, v' = .slice ao n' cap := by
    rcases hown'.2 with ⟨hv, _⟩ | ⟨g, cap, cur, hv, _⟩
    · exact ⟨_, _, _, hv⟩
    · exact ⟨_, _, _, hv⟩
  go_wp2
  go_ret2
  refine ⟨by rw [← HZ.out]; rfl, .inr ?_, ?_, (HFR.out.grown hown hgrow).set 1 _⟩
  · have := Lib.BuilderAt.put (T := 73) (e := 5) hB hb2 (bs' := Lib.byteCells l ++ Lib.strCells ⟨s.toArray⟩) (by rw [List.length_append, Lib.strCells_length]; exact hown') neB_u8
    simpa [Lib.byteCells, Lib.strCells] using this
  · have := HS.out
    exact (hb1.grown hgrow (by omega) (fun k hk => (hown.lt k hk).1)).setCell (p := ⟨b, 1, none⟩) hB _

theorem bld_stringB (B b : Nat) (l s : List UInt8) (w : World) (h : Bld w B b l) (hlen : l.length + s.length ≤ 140737488355328) (hBw : B ≤ w.heap.size) (sb : ByteArray) (hs : sb = ⟨s.toArray⟩) :
    Calls Tryd.prog 42 #[.pointer (some ⟨b, 0, none⟩), .string sb] w fun e w' => e = .returned (.tuple #[.int .i64 (s.length : Int), .nilIface]) ∧ Bld w' B b (l ++ s) ∧ Below B w w' ∧ FrameB b w w' := by
  subst hs; exact bld_string B b l s w h hlen hBw

theorem bld_text (B b : Nat) (l : List UInt8) (w : World) (h : Bld w B b l) (hBw : B ≤ w.heap.size) :
    Calls Tryd.prog 45 #[.pointer (some ⟨b, 0, none⟩)] w fun e w' => e = .returned (.string ⟨l.toArray⟩) ∧ Below B w w' ∧ FrameB b w w' := by
  refine (Tryd.Builder_String_any_k B b l w (Lib.IsBuilderF.of h) hBw).mono ?_
  rintro e w' ⟨rfl, -, hB, hk⟩
  exact ⟨rfl, hB, fun j o hj hn ho => hk j o hj (fun e => hn (Option.some.inj e)) ho⟩

end Go.Proofs.YtghgnalbahneoaaDoor
