/- The document's Line (by program: wip/tools/gen_sline.py).
strings.Builder: copyCheck, WriteString, WriteByte at a builder of the call's own.
Scripts: Print, both sides (by program: wip/tools/gen_sprint.py).
Chapter 26's examples (by program: wip/tools/gen_sawake.py). -/
import Derived.Test.YtaeoghagpeihkaaDoorSI
import Derived.Test.YtaeoghagpeihkaaDoorSB
import Derived.Test.YtaeoghagpeihkaaDoorSC
import Derived.Test.YtaeoghagpeihkaaDoorSA
import Derived.Shelf.Strings.Builder1
import Derived.Lib.Builder
import Derived.Lib.AppendStr
import Derived.Lib.AppendIntMem
import Derived.Test.YtaeoghagpeihkaaDoorSO
import Derived.Test.YtaeoghagpeihkaaDoorSJ
import Derived.Test.YtaeoghagpeihkaaDoorSP
set_option linter.unusedSimpArgs false
set_option linter.unusedVariables false
namespace Go.Proofs.YtaeoghagpeihkaaDoor
open Go.RowKit

end Go.Proofs.YtaeoghagpeihkaaDoor

namespace Go.Proofs.YtaeoghagpeihkaaDoor
open Go.RowKit

theorem info_bld : (Tryd.prog.info? 69).map (fun i => i.size) = some 2 := by kernel_rfl
theorem info_u8b : (Tryd.prog.info? 5).map (fun i => (i.zero, i.size, i.bytes)) = some (some (.int .u8 0), 1, 1) := by kernel_rfl
theorem neB_u8 : 69 ≠ 5 := by decide

set_option maxRecDepth 100000 in
set_option maxHeartbeats 1000000 in
theorem bld_used (b : Nat) (w : World) (h0 : w.cell? ⟨b, 0, none⟩ = some (.pointer (some ⟨b, 0, none⟩))) :
    Calls Tryd.prog 47 #[.pointer (some ⟨b, 0, none⟩)] w fun e w' => e = .returned (.tuple #[]) ∧ w' = w := by
  obtain ⟨j, hj, -⟩ := Option.map_eq_some_iff.1 info_bld
  have hn := Lib.run_neq_ptr_same w ⟨b, 0, none⟩ Tryd.underlying67 hj
  go_enter Tryd.func47, Tryd.ntmps47
  go_wp2
  go_end0
  exact ⟨rfl, rfl⟩

set_option maxRecDepth 100000 in
set_option maxHeartbeats 1000000 in
theorem bld_fresh (b : Nat) (w : World) (h0 : w.cell? ⟨b, 0, none⟩ = some (.pointer none)) (hsh : w.shape? b = some (69, 2)) (hfz : w.frozen? ⟨b, 0, none⟩ = false) :
    Calls Tryd.prog 47 #[.pointer (some ⟨b, 0, none⟩)] w fun e w' => e = .returned (.tuple #[]) ∧ w' = w.setCell ⟨b, 0, none⟩ (.pointer (some ⟨b, 0, none⟩)) := by
  obtain ⟨j, hj, hjs⟩ := Option.map_eq_some_iff.1 info_bld
  have h1 := Lib.run_to_unsafe (P := Tryd.prog) w ⟨b, 0, none⟩ Tryd.underlying67 Tryd.underlying104 hj (by rw [hjs]; decide) hsh (Nat.zero_lt_succ 1)
  have h2 := Lib.run_from_unsafe (P := Tryd.prog) w ⟨b, 0, none⟩ Tryd.underlying104 Tryd.underlying67 hj hsh (by kernel_rfl)
  go_enter Tryd.func47, Tryd.ntmps47
  go_wp2
  rw [run_callFunc_extern Tryd.func57 (by kernel_rfl) (by kernel_rfl) (by kernel_rfl) (e := Extern.AbiNoEscape.same) (by kernel_rfl)]
  rw [Lib.run_noEscape]
  simp only [Result.andThen]
  rw [Oper.upon_value]
  go_wp2
  go_end0
  exact ⟨rfl, rfl⟩

/-- a builder of the call's own that holds these bytes -/
def Bld (w : World) (B b : Nat) (l : List UInt8) : Prop := Lib.IsBuilder 69 5 B b (Lib.byteCells l) w
theorem Bld.mono {w : World} {B B' b : Nat} {l : List UInt8} (h : Bld w B b l) (hB : B' ≤ B) : Bld w B' b l := by
  have go : ∀ p, Lib.BuilderAt 69 5 B b p (Lib.byteCells l) w → Lib.BuilderAt 69 5 B' b p (Lib.byteCells l) w := by
    rintro p ⟨h1, v, h2, h3, h4⟩
    refine ⟨Nat.le_trans hB h1, v, h2, ⟨h3.1, ?_⟩, h4⟩
    rcases h3.2 with h | ⟨g, cap, cur, hv, hg, r⟩
    · exact .inl h
    · exact .inr ⟨g, cap, cur, hv, Nat.le_trans hB hg, r⟩
  exact h.elim (fun x => .inl (go _ x)) (fun x => .inr (go _ x))
theorem Bld.below {w w' : World} {B b : Nat} {l : List UInt8} (h : Bld w B b l) (hb : Below w.heap.size w w') : Bld w' B b l := by
  have go : ∀ p, Lib.BuilderAt 69 5 B b p (Lib.byteCells l) w → Lib.BuilderAt 69 5 B b p (Lib.byteCells l) w' := by
    rintro p ⟨h1, v, h2, h3, h4⟩
    refine ⟨h1, v, (hb.block _ (Array.getElem?_eq_some_iff.1 h2).1).trans h2, ⟨h3.1, ?_⟩, h4⟩
    rcases h3.2 with h | ⟨g, cap, cur, hv, hg, hr, r⟩
    · exact .inl h
    · exact .inr ⟨g, cap, cur, hv, hg, (hb.block _ (Array.getElem?_eq_some_iff.1 hr).1).trans hr, r⟩
  exact h.elim (fun x => .inl (go _ x)) (fun x => .inr (go _ x))
theorem Bld.put {w : World} {B b : Nat} {l : List UInt8} (h : Bld w B b l) {k : Nat} {o : Obj} (o' : Obj) (hl : w.heap[k]? = some o) (hc : o.isCells = false) : Bld (w.putObj k o') B b l := by
  have row : ∀ {q : Nat} {cs : Array Value} {t : TypeId} {fr : Nat × Nat}, w.heap[q]? = some (.cells cs t fr) → (w.putObj k o').heap[q]? = some (.cells cs t fr) := by
    intro q cs t fr hq
    have : k ≠ q := by rintro rfl; rw [hl] at hq; cases hq; simp [Obj.isCells] at hc
    rw [World.putObj_heap_other (by omega)]; exact hq
  have go : ∀ p, Lib.BuilderAt 69 5 B b p (Lib.byteCells l) w → Lib.BuilderAt 69 5 B b p (Lib.byteCells l) (w.putObj k o') := by
    rintro p ⟨h1, v, h2, h3, h4⟩
    refine ⟨h1, v, row h2, ⟨h3.1, ?_⟩, h4⟩
    rcases h3.2 with h | ⟨g, cap, cur, hv, hg, hr, r⟩
    · exact .inl h
    · exact .inr ⟨g, cap, cur, hv, hg, row hr, r⟩
  exact h.elim (fun x => .inl (go _ x)) (fun x => .inr (go _ x))
theorem stayB {W W' : World} {k : Nat} {o : Obj} (h : W.heap[k]? = some o) (hb : Below W.heap.size W W') : W'.heap[k]? = some o := (hb.block _ (Array.getElem?_eq_some_iff.1 h).1).trans h
theorem bel_allocB (w : World) (o : Obj) : Below w.heap.size w (w.alloc o) := (Below.refl _ _).alloc (Nat.le_refl _) o
theorem Bld.new (w : World) (B : Nat) (hB : B ≤ w.heap.size) : Bld (w.alloc (.cells #[.pointer none, .slice none 0 0] 69)) B w.heap.size [] :=
  Bld.mono (B := w.heap.size) (Lib.fresh_isBuilder _ _ w) hB
theorem Bld.lt {w : World} {B b : Nat} {l : List UInt8} (h : Bld w B b l) : B ≤ b ∧ b < w.heap.size := by
  rcases h with h | h
  · exact ⟨h.1, h.lt⟩
  · exact ⟨h.1, h.lt⟩

/-- what a write leaves: every block but the builder's own that is no row of bytes -/
def FrameB (b : Nat) (w w' : World) : Prop := ∀ (j : Nat) (o : Obj), w.heap[j]? = some o → j ≠ b → (∀ cs fr, o ≠ .cells cs 5 fr) → w'.heap[j]? = some o
theorem FrameB.refl (b : Nat) (w : World) : FrameB b w w := fun _ _ h _ _ => h
theorem FrameB.trans {b : Nat} {w w1 w2 : World} (h : FrameB b w w1) (k : FrameB b w1 w2) : FrameB b w w2 := fun j o hj hn ho => k j o (h j o hj hn ho) hn ho
theorem FrameB.set {b : Nat} {w w1 : World} (h : FrameB b w w1) (i : Nat) (v : Value) : FrameB b w (w1.setCell ⟨b, i, none⟩ v) := fun j o hj hn ho => by
  rw [Below.heap_setCell _ _ _ _ (show j ≠ b from hn)]; exact h j o hj hn ho
theorem FrameB.below {b : Nat} {w w1 w2 : World} (h : FrameB b w w1) (k : Below w1.heap.size w1 w2) : FrameB b w w2 := fun j o hj hn ho => stayB (h j o hj hn ho) k
theorem FrameB.grown {b B : Nat} {w w1 w2 : World} {v : Value} {n : Nat} {xs : List Value} (h : FrameB b w w1) (hown : w1.ownsRow B 5 1 v n xs) (hg : w1.grownBy w2 v.ownBlock) : FrameB b w w2 := fun j o hj hn ho => by
  have h1 := h j o hj hn ho
  refine (hg.block j (Array.getElem?_eq_some_iff.1 h1).1 (fun e => ?_)).trans h1
  rcases hown.2 with ⟨rfl, -⟩ | ⟨g, cap, cur, rfl, -, hr, -⟩
  · simp [Value.ownBlock] at e
  · simp only [Value.ownBlock, Option.some.injEq] at e
    subst e
    rw [hr] at h1
    exact ho _ _ (Option.some.inj h1).symm
theorem Bld.row {w : World} {B b : Nat} {l : List UInt8} (h : Bld w B b l) : ∃ cs, w.heap[b]? = some (.cells cs 69 (0, 0)) := by
  rcases h with ⟨-, v, h, -⟩ | ⟨-, v, h, -⟩
  · exact ⟨_, h⟩
  · exact ⟨_, h⟩

theorem bld_check (B b : Nat) (l : List UInt8) (w : World) (h : Bld w B b l) :
    Calls Tryd.prog 47 #[.pointer (some ⟨b, 0, none⟩)] w fun e w' => e = .returned (.tuple #[]) ∧ Lib.BuilderAt 69 5 B b (.pointer (some ⟨b, 0, none⟩)) (Lib.byteCells l) w' ∧ Below B w w' ∧ w'.heap.size = w.heap.size ∧ FrameB b w w' := by
  rcases h with h | h
  · refine (bld_fresh b w h.cell0 h.shape h.frozen0).mono ?_
    rintro e w' ⟨rfl, rfl⟩
    exact ⟨rfl, h.used _, (Below.refl B w).setCell (p := ⟨b, 0, none⟩) h.1 _, by simp [World.setCell], (FrameB.refl b w).set 0 _⟩
  · refine (bld_used b w h.cell0).mono ?_
    rintro e w' ⟨rfl, rfl⟩
    exact ⟨rfl, h, Below.refl B _, rfl, FrameB.refl _ _⟩

set_option maxRecDepth 100000 in
set_option maxHeartbeats 1000000 in
theorem bld_byte (B b : Nat) (l : List UInt8) (c : UInt8) (w : World) (h : Bld w B b l) (hlen : l.length + 1 ≤ 140737488355328) (hBw : B ≤ w.heap.size) :
    Calls Tryd.prog 30 #[.pointer (some ⟨b, 0, none⟩), .int .u8 (c.toNat : Int)] w fun e w' => e = .returned .nilIface ∧ Bld w' B b (l ++ [c]) ∧ Below B w w' ∧ FrameB b w w' := by
  obtain ⟨i0, hi, hz0, hz1, hz2⟩ := info_parts info_u8b
  have hk := Lib.hid (bld_check B b l w h)
  have HL : Hid ((Lib.byteCells l).length = l.length) := by show _ = _; simp [Lib.byteCells]
  go_enter Tryd.func30, Tryd.ntmps30
  go_wp2_with (fail)
  refine hk.out.mono ?_
  rintro e w1 ⟨rfl, h1, hb1, hs, hf⟩
  have HFR := Lib.hid hf
  clear hf
  have HS := Lib.hid hs
  clear hs
  obtain ⟨hB, v, hbk, hown, hne⟩ := h1
  have c0 : w1.cell? ⟨b, 0, none⟩ = some (.pointer (some ⟨b, 0, none⟩)) := by rw [Lib.cell_of_heap hbk]; rfl
  have c1 : w1.cell? ⟨b, 1, none⟩ = some v := by rw [Lib.cell_of_heap hbk]; rfl
  go_wp2_with (at_builtin; refine wpList_append_own _ rfl _ _ 39 rfl B 5 i0 (.int .u8 0) 1 1 Tryd.underlying39 hi hz0 hz1 hz2 rfl (by decide) _ _ _ rfl (hown.alloc _) ⟨w1.heap.size, 0, none⟩ 1 1 [.int .u8 (c.toNat : Int)] rfl rfl ?c1 ?c2 ?c3 ?c4 ?c5 ?_)
  case c1 =>
    intro j u hj
    match j, hj with
    | 0, hj => simp at hj; subst hj; simp [Addr.add]
  case c2 => intro u hu; simp at hu; subst hu; rfl
  case c3 => have := HL.out; unfold maxLen; omega
  case c4 => have := HL.out; omega
  case c5 => have := HS.out; simp; omega
  intro v' w2 hown' hgrow _
  have hlt : b < w1.heap.size := (Array.getElem?_eq_some_iff.1 hbk).1
  have hb2 : w2.heap[b]? = some (.cells #[.pointer (some ⟨b, 0, none⟩), v] 69 (0, 0)) := by
    rw [hgrow.block b (by simp; omega) (fun e => hne e.symm), Lib.alloc_old w1 _ b hlt]
    exact hbk
  have d0 : w2.cell? ⟨b, 0, none⟩ = some (.pointer (some ⟨b, 0, none⟩)) := by rw [Lib.cell_of_heap hb2]; rfl
  have d1 : w2.cell? ⟨b, 1, none⟩ = some v := by rw [Lib.cell_of_heap hb2]; rfl
  have f1 : w2.frozen? ⟨b, 1, none⟩ = false := Lib.frozen_of_heap hb2 1
  obtain ⟨g, cap, rfl⟩ : ∃ g cap, v' = .slice (some ⟨g, 0, none⟩) ((Lib.byteCells l).length + 1) cap := by
    rcases hown'.2 with ⟨_, h0⟩ | ⟨g, cap, cur, hv, _⟩
    · omega
    · exact ⟨g, cap, hv⟩
  go_wp2
  go_ret
  refine ⟨rfl, .inr ?_, ?_, ((HFR.out.below (bel_allocB _ _)).grown (hown.alloc _) hgrow).set 1 _⟩
  · have := Lib.BuilderAt.put (T := 69) (e := 5) hB hb2 (bs' := Lib.byteCells l ++ [.int .u8 (c.toNat : Int)]) (by simpa using hown') neB_u8
    simpa [Lib.byteCells] using this
  · have := HS.out
    exact ((hb1.alloc (by omega) _).grown hgrow (by simp; omega) (fun k hk => (hown.lt k hk).1)).setCell (p := ⟨b, 1, none⟩) hB _

set_option maxRecDepth 100000 in
set_option maxHeartbeats 1000000 in
theorem bld_string (B b : Nat) (l s : List UInt8) (w : World) (h : Bld w B b l) (hlen : l.length + s.length ≤ 140737488355328) (hBw : B ≤ w.heap.size) :
    Calls Tryd.prog 29 #[.pointer (some ⟨b, 0, none⟩), .string ⟨s.toArray⟩] w fun e w' => e = .returned (.tuple #[.int .i64 (s.length : Int), .nilIface]) ∧ Bld w' B b (l ++ s) ∧ Below B w w' ∧ FrameB b w w' := by
  obtain ⟨i0, hi, hz0, hz1, hz2⟩ := info_parts info_u8b
  have hk := Lib.hid (bld_check B b l w h)
  have HL : Hid ((Lib.byteCells l).length = l.length) := by show _ = _; simp [Lib.byteCells]
  have HZ : Hid ((⟨s.toArray⟩ : ByteArray).size = s.length) := by show _ = _; simp [ByteArray.size]
  go_enter Tryd.func29, Tryd.ntmps29
  go_wp2_with (fail)
  refine hk.out.mono ?_
  rintro e w1 ⟨rfl, h1, hb1, hs, hf⟩
  have HFR := Lib.hid hf
  clear hf
  have HS := Lib.hid hs
  clear hs
  obtain ⟨hB, v, hbk, hown, hne⟩ := h1
  have c0 : w1.cell? ⟨b, 0, none⟩ = some (.pointer (some ⟨b, 0, none⟩)) := by rw [Lib.cell_of_heap hbk]; rfl
  have c1 : w1.cell? ⟨b, 1, none⟩ = some v := by rw [Lib.cell_of_heap hbk]; rfl
  go_wp2_with (at_builtin; refine Lib.wpList_append_own_string _ rfl _ _ 39 9 rfl B 5 i0 Tryd.underlying39 Tryd.underlying9 hi hz0 hz1 hz2 _ _ _ rfl hown ⟨s.toArray⟩ rfl ?c3 ?c4 ?c5 ?_)
  case c3 => have := HL.out; have := HZ.out; unfold maxLen; omega
  case c4 => have := HL.out; have := HZ.out; omega
  case c5 => have := HS.out; omega
  intro v' w2 hown' hgrow _
  have hlt : b < w1.heap.size := (Array.getElem?_eq_some_iff.1 hbk).1
  have hb2 : w2.heap[b]? = some (.cells #[.pointer (some ⟨b, 0, none⟩), v] 69 (0, 0)) := by
    rw [hgrow.block b hlt (fun e => hne e.symm)]
    exact hbk
  have d0 : w2.cell? ⟨b, 0, none⟩ = some (.pointer (some ⟨b, 0, none⟩)) := by rw [Lib.cell_of_heap hb2]; rfl
  have d1 : w2.cell? ⟨b, 1, none⟩ = some v := by rw [Lib.cell_of_heap hb2]; rfl
  have f1 : w2.frozen? ⟨b, 1, none⟩ = false := Lib.frozen_of_heap hb2 1
  obtain ⟨ao, n', cap, rfl⟩ : ∃ ao n' cap, v' = .slice ao n' cap := by
    rcases hown'.2 with ⟨hv, _⟩ | ⟨g, cap, cur, hv, _⟩
    · exact ⟨_, _, _, hv⟩
    · exact ⟨_, _, _, hv⟩
  go_wp2
  go_ret2
  refine ⟨by rw [← HZ.out]; rfl, .inr ?_, ?_, (HFR.out.grown hown hgrow).set 1 _⟩
  · have := Lib.BuilderAt.put (T := 69) (e := 5) hB hb2 (bs' := Lib.byteCells l ++ Lib.strCells ⟨s.toArray⟩) (by rw [List.length_append, Lib.strCells_length]; exact hown') neB_u8
    simpa [Lib.byteCells, Lib.strCells] using this
  · have := HS.out
    exact (hb1.grown hgrow (by omega) (fun k hk => (hown.lt k hk).1)).setCell (p := ⟨b, 1, none⟩) hB _

theorem bld_text (B b : Nat) (l : List UInt8) (w : World) (h : Bld w B b l) (hBw : B ≤ w.heap.size) :
    Calls Tryd.prog 31 #[.pointer (some ⟨b, 0, none⟩)] w fun e w' => e = .returned (.string ⟨l.toArray⟩) ∧ Below B w w' ∧ FrameB b w w' := by
  refine (Tryd.Builder_String_any_k B b l w (Lib.IsBuilderF.of h) hBw).mono ?_
  rintro e w' ⟨rfl, -, hB, hk⟩
  exact ⟨rfl, hB, fun j o hj hn ho => hk j o hj (fun e => hn (Option.some.inj e)) ho⟩

end Go.Proofs.YtaeoghagpeihkaaDoor

namespace Go.Proofs.YtaeoghagpeihkaaDoor
open Go.RowKit

def lnF (xs : List Stp) : List UInt8 := xs.flatMap (fun s => lineF s ++ [10])
theorem lnF_len {xs : List Stp} (h : ∀ s ∈ xs, Stp64 s ∧ s.name.length ≤ 1048576) : (lnF xs).length ≤ xs.length * 16800000 := by
  unfold lnF
  induction xs with
  | nil => simp
  | cons s xs ih =>
    have h1 := h s List.mem_cons_self
    have h2 := lineF_len h1.1 h1.2
    have h3 := ih fun x hx => h x (List.mem_cons_of_mem _ hx)
    simp only [List.flatMap_cons, List.length_append, List.length_cons, List.length_nil]
    omega
theorem lnF_take (xs : List Stp) (i : Nat) (h : i < xs.length) : lnF (xs.take (i + 1)) = lnF (xs.take i) ++ (lineF xs[i] ++ [10]) := by
  unfold lnF
  rw [List.take_succ_eq_append_getElem h, List.flatMap_append]
  simp

set_option maxRecDepth 100000 in
set_option maxHeartbeats 4000000 in
theorem print_any (v : Value) (xs : List Stp) (w : World) (hv : Sps w w.heap.size v xs) (hx : SmS xs) (ht : TabT w) :
    Calls Tryd.prog 13 #[v] w fun e w' => e = .returned (.string ⟨(printF xs).toArray⟩) ∧ Below w.heap.size w w' := by
  obtain ⟨ao, cp, rfl, -, -⟩ := hv.slice
  have HV := Lib.hid hv
  have HX := Lib.hid hx.2
  have HT := Lib.hid ht
  obtain ⟨R, hR⟩ : ∃ R, R = printF xs := ⟨_, rfl⟩
  rw [← hR]
  have HR := Lib.hid hR
  obtain ⟨n, hn⟩ : ∃ n, n = xs.length := ⟨_, rfl⟩
  have hnm : n ≤ 1048576 := by rw [hn]; exact hx.1
  rw [← hn] at HV ⊢
  have HN := Lib.hid hn
  have HD0 := Lib.hid (Bld.new w w.heap.size (Nat.le_refl _))
  have HB0 := Lib.hid (new_block w (.cells #[.pointer none, .slice none 0 0] 69)).1
  clear hv hx ht hR hn
  go_enter Tryd.func13, Tryd.ntmps13
  go_wp2_with (fail)
  obtain ⟨bb, hbb⟩ : ∃ b, b = w.heap.size := ⟨_, rfl⟩
  rw [← hbb]
  have HBB := Lib.hid hbb
  clear hbb
  go_loopw [9] (fun iv wr => ∃ i : Nat, i ≤ n ∧ iv = .int .i64 (i : Int) ∧ Hid (Bld wr w.heap.size bb (lnF (xs.take i))) ∧ Hid (∀ j (h : j < xs.length), j < i → fitS xs[j] = true) ∧ Hid (Below w.heap.size w wr)) (fun iv _ => n - (intOf iv).toNat)
  case atStart => exact ⟨0, Nat.zero_le _, rfl, by show Bld _ _ _ _; rw [List.take_zero, HBB.out]; exact HD0.out, (fun j _ h => by omega), HB0.out⟩
  case round =>
    obtain ⟨i, hi, rfl, HD, HF, HB⟩ := hrel
    by_cases hlt : i < n
    · have hix : i < xs.length := by rw [← HN.out]; exact hlt
      obtain ⟨b, off, hb, -, hr⟩ := (HV.out.below HB.out (Nat.le_refl _)).at i hix
      subst hb
      have hmem : xs[i] ∈ xs := List.getElem_mem _
      have hsm := HX.out _ hmem
      have hll := lineF_len hsm.1 hsm.2
      have HTK := Lib.hid (lnF_take xs i hix)
      have hcur : (lnF (xs.take (i + 1))).length ≤ 17616076800000 := by
        have h1 := lnF_len (xs := xs.take (i + 1)) fun s hs => HX.out s (List.mem_of_mem_take hs)
        have h2 : (xs.take (i + 1)).length ≤ 1048576 := Nat.le_trans (List.length_take_le _ _) (by omega)
        have h3 := Nat.mul_le_mul_right 16800000 h2
        omega
      have HBAD : Hid (lineF xs[i] = [] → R = []) := fun h => by rw [HR.out]; exact printF_bad hmem h
      have HFIT : Hid (lineF xs[i] ≠ [] → ∀ j (h : j < xs.length), j < i + 1 → fitS xs[j] = true) := fun h j hj hji => by
        by_cases e : j = i
        · subst e; exact lineF_fit h
        · exact HF.out j hj (by omega)
      obtain ⟨s, hs⟩ : ∃ s, s = xs[i] := ⟨_, rfl⟩
      obtain ⟨g1, -⟩ := new_block wr (.cells #[.int .i64 s.kind, .int .i64 s.a, .int .i64 s.b, .string ⟨s.name.toArray⟩, .int .i64 s.k, .int .i64 s.n] 35)
      have HB1 := Lib.hid (HB.out.trans (g1.mono HB.out.size))
      have HD1 := Lib.hid (HD.out.below g1)
      have HL := Lib.hid (line_any xs[i] hsm.1 (by have := hsm.2; omega) (wr.alloc (.cells #[.int .i64 s.kind, .int .i64 s.a, .int .i64 s.b, .string ⟨s.name.toArray⟩, .int .i64 s.k, .int .i64 s.n] 35)) (HT.out.below HB1.out))
      rw [← hs] at hr hll HTK HBAD HFIT
      simp only [← hs] at HL
      have c0 : wr.cell? ⟨b, off + i * 6, none⟩ = some (.int .i64 s.kind) := hr 0 _ rfl
      have c1 : wr.cell? ⟨b, off + i * 6 + 1, none⟩ = some (.int .i64 s.a) := hr 1 _ rfl
      have c2 : wr.cell? ⟨b, off + i * 6 + 2, none⟩ = some (.int .i64 s.b) := hr 2 _ rfl
      have c3 : wr.cell? ⟨b, off + i * 6 + 3, none⟩ = some (.string ⟨s.name.toArray⟩) := hr 3 _ rfl
      have c4 : wr.cell? ⟨b, off + i * 6 + 4, none⟩ = some (.int .i64 s.k) := hr 4 _ rfl
      have c5 : wr.cell? ⟨b, off + i * 6 + 5, none⟩ = some (.int .i64 s.n) := hr 5 _ rfl
      obtain ⟨ls, hls⟩ : ∃ l, l = lineF s := ⟨_, rfl⟩
      rw [← hls] at HL hll HTK HBAD HFIT
      unfold stepC at HL
      rw [HTK.out] at hcur
      simp only [List.length_append, List.length_cons, List.length_nil] at hcur
      have hkn : 0 ≤ (i : Int) ∧ (i : Int) < (n : Int) := by omega
      have HCU := Lib.hid hcur
      clear hr hsm hmem hs hls hix g1 hcur
      go_wp2_with (fail)
      with_reducible refine HL.out.mono ?_
      rintro e w2 ⟨rfl, hB2⟩
      have HB2 := Lib.hid (HB1.out.trans (hB2.mono HB1.out.size))
      have HD2 := Lib.hid (HD1.out.below hB2)
      clear HL hB2 c0 c1 c2 c3 c4 c5
      by_cases hle : ls = []
      · have hr := HBAD.out hle
        subst hr
        subst hle
        go_wp2_with (fail)
        go_ret
        exact ⟨rfl, HB2.out⟩
      · have hlf : (ls == []) = false := by simpa using hle
        have HFI := Lib.hid (HFIT.out hle)
        have HW1 := Lib.hid (bld_string w.heap.size bb (lnF (xs.take i)) ls w2 HD2.out (by have := HCU.out; omega) HB2.out.size)
        clear HBAD HFIT hle
        go_wp2_with (fail)
        with_reducible refine HW1.out.mono ?_
        rintro e w3 ⟨rfl, hD3, hB3, -⟩
        have HB3 := Lib.hid (HB2.out.trans hB3)
        have hw2 := bld_byte w.heap.size bb (lnF (xs.take i) ++ ls) 10 w3 hD3 (by have := HCU.out; simp only [List.length_append]; omega) HB3.out.size
        change Calls Tryd.prog _ #[_, .int .u8 10] _ _ at hw2
        have HW2 := Lib.hid hw2
        clear HW1 hD3 hB3 hw2
        go_wp2_with (fail)
        with_reducible refine HW2.out.mono ?_
        rintro e w4 ⟨rfl, hD4, hB4, -⟩
        have HB4 := Lib.hid (HB3.out.trans hB4)
        rw [List.append_assoc, ← HTK.out] at hD4
        have HD4 := Lib.hid hD4
        clear HW2 hD4 hB4
        go_wp2_with (fail)
        go_roundw
        case rel => exact ⟨i + 1, by omega, by go_num, HD4, HFI, HB4⟩
        case measure => simp [intOf] <;> omega
    · obtain rfl : i = n := by omega
      have hr : R = lnF (xs.take i) := by
        rw [HR.out, List.take_of_length_le (by rw [← HN.out]; omega)]
        exact printF_all fun s hs => by
          obtain ⟨j, hj, rfl⟩ := List.mem_iff_getElem.1 hs
          exact HF.out j hj (by rw [HN.out]; exact hj)
      rw [← hr] at HD
      have HW1 := Lib.hid (bld_text w.heap.size bb R wr HD.out HB.out.size)
      go_wp2_with (fail)
      with_reducible refine HW1.out.mono ?_
      rintro e w3 ⟨rfl, hB3, -⟩
      have HB3 := Lib.hid (HB.out.trans hB3)
      clear HW1 hB3
      go_wp2_with (fail)
      go_ret
      exact ⟨by rw [hr]; rfl, HB3.out⟩

end Go.Proofs.YtaeoghagpeihkaaDoor

namespace Go.Proofs.YtaeoghagpeihkaaDoor
open Go.RowKit

theorem ex1 : parseF [108, 105, 110, 107, 32, 48, 32, 49, 32, 35, 32, 120, 10, 10, 32, 32, 116, 105, 99, 107, 32, 48] = ([(⟨1, 0, 1, [], 0, 0⟩ : Stp), (⟨6, 0, 0, [], 0, 0⟩ : Stp)], 0, 0) := by kernel_rfl
theorem ex2 : parseF [10, 102, 111, 111] = ([], 2, 61) := by kernel_rfl
theorem ex3 : printF [(⟨1, 0, 1, [], 0, 0⟩ : Stp), (⟨6, 0, 0, [], 0, 0⟩ : Stp)] = [108, 105, 110, 107, 32, 48, 32, 49, 10, 116, 105, 99, 107, 32, 48, 10] := by kernel_rfl
theorem ex4 : lineF (⟨5, 3, 0, [97, 32, 98, 35], 0, -7⟩ : Stp) = [115, 101, 116, 32, 51, 32, 34, 97, 32, 98, 35, 34, 32, 45, 55] := by kernel_rfl
theorem sms2 : SmS [(⟨1, 0, 1, [], 0, 0⟩ : Stp), (⟨6, 0, 0, [], 0, 0⟩ : Stp)] := ⟨by decide, by
  intro s hs
  rcases List.mem_cons.1 hs with rfl | hs
  · exact ⟨⟨by unfold I64s; decide, by unfold I64s; decide, by unfold I64s; decide, by unfold I64s; decide⟩, by decide⟩
  · rcases List.mem_cons.1 hs with rfl | hs
    · exact ⟨⟨by unfold I64s; decide, by unfold I64s; decide, by unfold I64s; decide, by unfold I64s; decide⟩, by decide⟩
    · cases hs⟩
theorem st64_3 : Stp64 (⟨5, 3, 0, [97, 32, 98, 35], 0, -7⟩ : Stp) := ⟨by unfold I64s; decide, by unfold I64s; decide, by unfold I64s; decide, by unfold I64s; decide⟩

set_option maxRecDepth 100000 in
set_option maxHeartbeats 4000000 in
theorem awake_any (w : World) (ht : TabT w) (he : ErrT w) : Calls Tryd.prog 11 #[] w fun e w' => e = .returned (.bool true) ∧ Below w.heap.size w w' := by
  have HT := Lib.hid ht
  have HEE := Lib.hid he
  have hc1 := parse_any ⟨#[108, 105, 110, 107, 32, 48, 32, 49, 32, 35, 32, 120, 10, 10, 32, 32, 116, 105, 99, 107, 32, 48]⟩ w ht he (by decide)
  simp only [ex1] at hc1
  have HC1 := Lib.hid hc1
  clear ht he hc1
  go_enter Tryd.func11, Tryd.ntmps11
  go_wp2_with (fail)
  with_reducible refine HC1.out.mono ?_
  rintro e w1 ⟨v, rfl, ho1, hB1⟩
  obtain ⟨ab, cap, rfl⟩ := owns_form ho1
  have HB1 := Lib.hid hB1
  have HO1 := Lib.hid ho1
  obtain ⟨g2, k2⟩ := new_block w1 (.cells #[.int .i64 0, .int .i64 0] 25)
  have HB2 := Lib.hid (HB1.out.trans (g2.mono HB1.out.size))
  have HO2 : Hid (OwnS (w1.alloc (.cells #[.int .i64 0, .int .i64 0] 25)) w.heap.size (.slice ab 2 cap) [(⟨1, 0, 1, [], 0, 0⟩ : Stp), (⟨6, 0, 0, [], 0, 0⟩ : Stp)]) := owns_below ho1 g2
  have HX2 := Lib.hid k2
  have hc2 := parse_any ⟨#[10, 102, 111, 111]⟩ (w1.alloc (.cells #[.int .i64 0, .int .i64 0] 25)) (HT.out.below HB2.out) (HEE.out.below HB2.out) (by decide)
  simp only [ex2] at hc2
  have HC2 := Lib.hid hc2
  clear HC1 ho1 hB1 hc2 g2 k2
  go_wp2_with (fail)
  with_reducible refine HC2.out.mono ?_
  rintro e w3 ⟨v2, rfl, -, hB3⟩
  have HB3 := Lib.hid (HB2.out.trans (hB3.mono HB2.out.size))
  obtain ⟨g4, k4⟩ := new_block w3 (.cells #[.int .i64 2, .int .i64 61] 25)
  have HB4 := Lib.hid (HB3.out.trans (g4.mono HB3.out.size))
  have ho4 : OwnS (w3.alloc (.cells #[.int .i64 2, .int .i64 61] 25)) w.heap.size (.slice ab 2 cap) [(⟨1, 0, 1, [], 0, 0⟩ : Stp), (⟨6, 0, 0, [], 0, 0⟩ : Stp)] := owns_below (owns_below HO2.out hB3) g4
  have hx4 := stays (stays HX2.out hB3) g4
  have c0 := cell_of_row _ _ 0 _ _ _ hx4
  have c1 := cell_of_row _ _ 1 _ _ _ hx4
  have e0 := cell_of_row _ _ 0 _ _ _ k4
  have e1 := cell_of_row _ _ 1 _ _ _ k4
  have hsp := ho4.sps
  obtain ⟨b, off, hb, -, hr⟩ := hsp.at 0 (by decide)
  subst hb
  have l0 := hr 0 _ rfl
  have l1 := hr 1 _ rfl
  have l2 := hr 2 _ rfl
  have l3 := hr 3 _ rfl
  have l4 := hr 4 _ rfl
  have l5 := hr 5 _ rfl
  simp only [Nat.zero_mul, Nat.add_zero] at l0 l1 l2 l3 l4 l5
  have hp := print_any _ _ _ hsp sms2 (HT.out.below HB4.out)
  rw [ex3] at hp
  have HP := Lib.hid hp
  have HO4 := Lib.hid ho4
  have HX4 := Lib.hid hx4
  have HE4 := Lib.hid k4
  clear HC2 hB3 g4 k4 ho4 hx4 hsp hr hp HO1 HO2 HX2
  go_wp2_with (fail)
  with_reducible refine HP.out.mono ?_
  rintro e w5 ⟨rfl, hB5⟩
  have HB5 := Lib.hid (HB4.out.trans (hB5.mono HB4.out.size))
  have he5 := stays HE4.out hB5
  have e0 := cell_of_row _ _ 0 _ _ _ he5
  have e1 := cell_of_row _ _ 1 _ _ _ he5
  have hl := line_any (⟨5, 3, 0, [97, 32, 98, 35], 0, -7⟩ : Stp) st64_3 (by decide) w5 (HT.out.below HB5.out)
  rw [ex4] at hl
  simp only [stepC] at hl
  have HL := Lib.hid hl
  clear HP hB5 he5 hl c0 c1 l0 l1 l2 l3 l4 l5
  go_wp2_with (fail)
  with_reducible refine HL.out.mono ?_
  rintro e w6 ⟨rfl, hB6⟩
  have HB6 := Lib.hid (HB5.out.trans (hB6.mono HB5.out.size))
  clear HL hB6
  go_wp2_with (fail)
  go_ret
  exact ⟨rfl, HB6.out⟩

end Go.Proofs.YtaeoghagpeihkaaDoor

