/- The program's Parse: what lies in memory while it runs (by program: wip/tools/gen_sparp.py).
The program's Parse (by program: wip/tools/gen_sparp.py). -/
import Derived.Test.YtaeoghagpeihkaaDoorSK
import Derived.Test.YtaeoghagpeihkaaDoorSM
import Derived.Test.YtaeoghagpeihkaaDoorSN
import Derived.Test.YtaeoghagpeihkaaDoorSO
set_option linter.unusedSimpArgs false
set_option linter.unusedVariables false
namespace Go.Proofs.YtaeoghagpeihkaaDoor
open Go.RowKit

theorem lines_calls (s : ByteArray) (w : World) : Calls Tryd.prog 21 #[.string s] w fun e w' => e = .returned (.func (.func 34) #[] #[.pointer (some ⟨w.heap.size, 0, none⟩)]) ∧ w' = w.alloc (.cells #[.string s] 9) := by
  go_enter Tryd.func21, Tryd.ntmps21
  go_wp2
  go_ret
  exact ⟨rfl, rfl⟩
theorem words_calls (s : ByteArray) (w : World) : Calls Tryd.prog 22 #[.string s] w fun e w' => e = .returned (.func (.func 36) #[] #[.pointer (some ⟨w.heap.size, 0, none⟩)]) ∧ w' = w.alloc (.cells #[.string s] 9) := by
  go_enter Tryd.func22, Tryd.ntmps22
  go_wp2
  go_ret
  exact ⟨rfl, rfl⟩
theorem own_put {W : World} {B sz n l : Nat} {e : TypeId} {v : Value} {xs : List Value} {o : Obj} (h : W.ownsRow B e sz v n xs) (o' : Obj) (ho : W.heap[l]? = some o) (hc : o.isCells = false) : (W.putObj l o').ownsRow B e sz v n xs :=
  owns_same h fun k hk => World.putObj_heap_other fun e => by
    obtain ⟨c, hc2⟩ := owns_kind h k hk
    rw [← e, hc2] at ho
    cases ho
    cases hc
theorem own_set {W : World} {B sz n b i : Nat} {e t : TypeId} {v u : Value} {xs : List Value} {cs : Array Value} (h : W.ownsRow B e sz v n xs) (hb : W.heap[b]? = some (.cells cs t (0, 0))) (ht : e ≠ t) : (W.setCell ⟨b, i, none⟩ u).ownsRow B e sz v n xs :=
  owns_same h fun k hk => set_other _ _ _ _ _ fun e2 => by
    obtain ⟨c, hc2⟩ := owns_kind h k hk
    rw [e2, hb] at hc2
    injection hc2 with hc2
    injection hc2 with _ hc2 _
    exact ht hc2.symm
/-- the outer loop's state -/
structure PS (w : World) (o3 : Option Obj) (out : List Stp) (v : Value) (W : World) : Prop where
  low : Below w.heap.size w W
  sz : w.heap.size + 4 ≤ W.heap.size
  r : W.heap[w.heap.size]? = some (.cells #[.slice none 0 0] 22 (0, 0))
  f : W.heap[w.heap.size + 1]? = some (.cells #[.int .i64 0, .int .i64 0] 25 (0, 0))
  o : W.heap[w.heap.size + 2]? = some (.cells #[v] 22 (0, 0))
  b3 : W.heap[w.heap.size + 3]? = o3
  own : W.ownsRow (w.heap.size + 4) 35 6 v out.length (out.flatMap stepL)
theorem PS.below {w W W' : World} {o3 : Option Obj} {out : List Stp} {v : Value} (h : PS w o3 out v W) (hb : Below W.heap.size W W') : PS w o3 out v W' :=
  ⟨h.low.trans (hb.mono h.low.size), Nat.le_trans h.sz hb.size, stays h.r hb, stays h.f hb, stays h.o hb, (hb.block _ (by have := h.sz; omega)).trans h.b3, owns_below h.own hb⟩
theorem PS.turns {w W W' : World} {o3 : Option Obj} {out : List Stp} {v : Value} (h : PS w o3 out v W) (hb : Turns (w.heap.size + 3) W W') : PS w (W'.heap[w.heap.size + 3]?) out v W' := by
  have hs := h.sz
  exact ⟨h.low.trans (hb.below (by omega) (by omega)), Nat.le_trans h.sz hb.size, (hb.block _ (by omega) (by omega)).trans h.r, (hb.block _ (by omega) (by omega)).trans h.f, (hb.block _ (by omega) (by omega)).trans h.o, rfl, owns_same h.own fun k hk => by
    have := World.ownsRow.lt h.own k hk
    exact hb.block k this.2 (by omega)⟩
theorem PS.put {w W : World} {o3 : Option Obj} {out : List Stp} {v : Value} {l : Nat} {o : Obj} (h : PS w o3 out v W) (o' : Obj) (hl : w.heap.size + 4 ≤ l) (ho : W.heap[l]? = some o) (hc : o.isCells = false) : PS w o3 out v (W.putObj l o') :=
  ⟨h.low.grown (grownBy_putObj' W l o') h.low.size (fun k e => by cases e; omega), Nat.le_trans h.sz (grownBy_putObj' W l o').size, row_put o' h.r ho hc, row_put o' h.f ho hc, row_put o' h.o ho hc, (World.putObj_heap_other (by omega)).trans h.b3, own_put h.own o' ho hc⟩
theorem PS.set {w W : World} {o3 : Option Obj} {out : List Stp} {v : Value} {b i : Nat} {cs : Array Value} {t : TypeId} (h : PS w o3 out v W) (u : Value) (hb : W.heap[b]? = some (.cells cs t (0, 0))) (hb4 : w.heap.size + 4 ≤ b) (ht : 35 ≠ t) : PS w o3 out v (W.setCell ⟨b, i, none⟩ u) :=
  ⟨bel_set (by omega) h.low, by have := h.sz; simpa [World.setCell] using this, (set_other _ _ _ _ _ (by omega)).trans h.r, (set_other _ _ _ _ _ (by omega)).trans h.f, (set_other _ _ _ _ _ (by omega)).trans h.o, (set_other _ _ _ _ _ (by omega)).trans h.b3, own_set h.own hb ht⟩
theorem PS.grown {w W W' : World} {o3 : Option Obj} {out : List Stp} {v u : Value} {sz n : Nat} {e : TypeId} {xs : List Value} (h : PS w o3 out v W) (hr : W.ownsRow (w.heap.size + 4) e sz u n xs) (hne : e ≠ 35) (hg : W.grownBy W' u.ownBlock) : PS w o3 out v W' := by
  have hs := h.sz
  have hb : ∀ k, k < w.heap.size + 4 → W'.heap[k]? = W.heap[k]? := fun k hk => hg.block k (by omega) fun e => by
    have := World.ownsRow.lt hr k e.symm
    omega
  exact ⟨h.low.grown hg h.low.size (fun k e => by have := World.ownsRow.lt hr k e; omega), Nat.le_trans h.sz hg.size, (hb _ (by omega)).trans h.r, (hb _ (by omega)).trans h.f, (hb _ (by omega)).trans h.o, (hb _ (by omega)).trans h.b3, owns_kept hr h.own hne hg⟩
/-- a step more: the row has grown, the box is set -/
theorem PS.app {w W W' : World} {o3 : Option Obj} {out out' : List Stp} {v v' : Value} (h : PS w o3 out v W) (ho : W'.ownsRow (w.heap.size + 4) 35 6 v' out'.length (out'.flatMap stepL)) (hg : W.grownBy W' v.ownBlock) : PS w o3 out' v' (W'.setCell ⟨w.heap.size + 2, 0, none⟩ v') := by
  have hs := h.sz
  have hb : ∀ k, k < w.heap.size + 4 → W'.heap[k]? = W.heap[k]? := fun k hk => hg.block k (by omega) fun e => by
    have := World.ownsRow.lt h.own k e.symm
    omega
  have hl := h.low.grown hg h.low.size (fun k e => by have := World.ownsRow.lt h.own k e; omega)
  have ho2 := (hb _ (by omega)).trans h.o
  refine ⟨bel_set (by omega) hl, ?_, (set_other _ _ _ _ _ (by omega)).trans ((hb _ (by omega)).trans h.r), (set_other _ _ _ _ _ (by omega)).trans ((hb _ (by omega)).trans h.f), ?_, (set_other _ _ _ _ _ (by omega)).trans ((hb _ (by omega)).trans h.b3), own_set ho ho2 (by decide)⟩
  · have := Nat.le_trans h.sz hg.size
    simpa [World.setCell] using this
  · exact set_block _ _ 0 _ _ _ ho2
/-- a return is at hand: the results' boxes -/
structure RT (w : World) (k e : Int) (W : World) : Prop where
  low : Below w.heap.size w W
  r : W.heap[w.heap.size]? = some (.cells #[.slice none 0 0] 22 (0, 0))
  f : W.heap[w.heap.size + 1]? = some (.cells #[.int .i64 k, .int .i64 e] 25 (0, 0))
theorem RT.put {w W : World} {k e : Int} {l : Nat} {o : Obj} (h : RT w k e W) (o' : Obj) (hl : w.heap.size + 4 ≤ l) (ho : W.heap[l]? = some o) (hc : o.isCells = false) : RT w k e (W.putObj l o') :=
  ⟨h.low.grown (grownBy_putObj' W l o') h.low.size (fun k e => by cases e; omega), row_put o' h.r ho hc, row_put o' h.f ho hc⟩
theorem PS.rt {w W : World} {o3 : Option Obj} {out : List Stp} {v : Value} (h : PS w o3 out v W) (k e : Int) : RT w k e ((W.setCell ⟨w.heap.size, 0, none⟩ (.slice none 0 0)).setCells (w.heap.size + 1) 0 [.int .i64 k, .int .i64 e]) := by
  have h1 := set_block W w.heap.size 0 _ _ (.slice none 0 0) h.r
  have h2 := (set_other W w.heap.size 0 (w.heap.size + 1) (.slice none 0 0) (by omega)).trans h.f
  refine ⟨setCells_below (by omega) _ _ _ _ (bel_set (by omega) h.low), (setCells_other _ _ _ _ _ (by omega)).trans h1, ?_⟩
  exact setCells_block _ _ _ 0 _ _ h2
theorem PS.drew {w W : World} {o3 : Option Obj} {out : List Stp} {v : Value} (h : PS w o3 out v W) : PS w o3 out v W.drew := ⟨h.low.drew, h.sz, h.r, h.f, h.o, h.b3, h.own⟩
theorem RT.drew {w W : World} {k e : Int} (h : RT w k e W) : RT w k e W.drew := ⟨h.low.drew, h.r, h.f⟩
/-- the inner loop's state -/
structure WS (w : World) (o3 : Option Obj) (out : List Stp) (v : Value) (kb : Nat) (k : Int) (lbx wq : Nat) (s : ByteArray) (ts : List Tok) (u : Value) (Wb W : World) : Prop where
  ps : PS w o3 out v W
  ko : KeepsOthers Wb W
  kx : W.heap[kb]? = some (.cells #[.int .i64 k] 3 (0, 0))
  lx : W.heap[lbx]? = some (.cells #[u] 49 (0, 0))
  l4 : w.heap.size + 4 ≤ lbx
  qx : W.heap[wq]? = some (.cells #[.string s] 9 (0, 0))
  row : W.ownsRow (w.heap.size + 4) 54 3 u ts.length (ts.flatMap wordC)
theorem ko_below {A W W' : World} (h : KeepsOthers A W) (hb : Below W.heap.size W W') : KeepsOthers A W' := h.trans ⟨hb.size, fun k o hk _ => stays hk hb⟩
theorem ko_put {A W : World} {l : Nat} (h : KeepsOthers A W) (o' : Obj) (hl : A.heap.size ≤ l) : KeepsOthers A (W.putObj l o') :=
  ⟨Nat.le_trans h.size (grownBy_putObj' W l o').size, fun k o hk ho => (World.putObj_heap_other (fun e => by have := (Array.getElem?_eq_some_iff.1 hk).1; omega)).trans (h.same k o hk ho)⟩
theorem ko_grown {W W' : World} {B sz n : Nat} {e : TypeId} {u : Value} {xs : List Value} (hr : W.ownsRow B e sz u n xs) (hg : W.grownBy W' u.ownBlock) : KeepsOthers W W' :=
  KeepsOthers.of_grownBy hg fun j o hj ho => by
    obtain ⟨c, hc⟩ := owns_kind hr j hj
    rw [hc] at ho
    cases ho
    rfl
section
variable {w Wb W W' : World} {o3 : Option Obj} {out : List Stp} {v : Value} {kb : Nat} {k : Int} {lbx wq : Nat} {s : ByteArray} {ts : List Tok} {u : Value}
theorem WS.below (h : WS w o3 out v kb k lbx wq s ts u Wb W) (hb : Below W.heap.size W W') : WS w o3 out v kb k lbx wq s ts u Wb W' :=
  ⟨h.ps.below hb, ko_below h.ko hb, stays h.kx hb, stays h.lx hb, h.l4, stays h.qx hb, owns_below h.row hb⟩
theorem WS.put {l : Nat} {o : Obj} (h : WS w o3 out v kb k lbx wq s ts u Wb W) (o' : Obj) (hl : w.heap.size + 4 ≤ l) (hlb : Wb.heap.size ≤ l) (ho : W.heap[l]? = some o) (hc : o.isCells = false) : WS w o3 out v kb k lbx wq s ts u Wb (W.putObj l o') :=
  ⟨h.ps.put o' hl ho hc, ko_put h.ko o' hlb, row_put o' h.kx ho hc, row_put o' h.lx ho hc, h.l4, row_put o' h.qx ho hc, own_put h.row o' ho hc⟩
/-- a word more -/
theorem WS.app {ts' : List Tok} {u' : Value} (h : WS w o3 out v kb k lbx wq s ts u Wb W) (ho : W'.ownsRow (w.heap.size + 4) 54 3 u' ts'.length (ts'.flatMap wordC)) (hg : W.grownBy W' u.ownBlock) : WS w o3 out v kb k lbx wq s ts' u' Wb (W'.setCell ⟨lbx, 0, none⟩ u') := by
  have hlx := row_grown h.row h.lx (by decide) hg
  have hkl : kb ≠ lbx := by rintro rfl; have := h.kx.symm.trans h.lx; injection this with this; injection this with _ this _; exact absurd this (by decide)
  have hql : wq ≠ lbx := by rintro rfl; have := h.qx.symm.trans h.lx; injection this with this; injection this with _ this _; exact absurd this (by decide)
  exact ⟨(h.ps.grown h.row (by decide) hg).set _ hlx h.l4 (by decide), (h.ko.trans (ko_grown h.row hg)).trans (KeepsOthers.setCell _ _ _), (set_other _ _ _ _ _ hkl).trans (row_grown h.row h.kx (by decide) hg), set_block _ _ 0 _ _ _ hlx, h.l4, (set_other _ _ _ _ _ hql).trans (row_grown h.row h.qx (by decide) hg), own_set ho hlx (by decide)⟩
end
/-- the results' boxes are set at the end -/
theorem fin_set {w W : World} {o3 : Option Obj} {out : List Stp} {v : Value} (h : PS w o3 out v W) : Below w.heap.size w ((W.setCell ⟨w.heap.size, 0, none⟩ v).setCells (w.heap.size + 1) 0 [.int .i64 0, .int .i64 0]) ∧ ((W.setCell ⟨w.heap.size, 0, none⟩ v).setCells (w.heap.size + 1) 0 [.int .i64 0, .int .i64 0]).heap[w.heap.size]? = some (.cells #[v] 22 (0, 0)) ∧ ((W.setCell ⟨w.heap.size, 0, none⟩ v).setCells (w.heap.size + 1) 0 [.int .i64 0, .int .i64 0]).heap[w.heap.size + 1]? = some (.cells #[.int .i64 0, .int .i64 0] 25 (0, 0)) ∧ (∀ k, w.heap.size + 4 ≤ k → ((W.setCell ⟨w.heap.size, 0, none⟩ v).setCells (w.heap.size + 1) 0 [.int .i64 0, .int .i64 0]).heap[k]? = W.heap[k]?) := by
  have h1 := set_block W w.heap.size 0 _ _ v h.r
  have h2 := (set_other W w.heap.size 0 (w.heap.size + 1) v (by omega)).trans h.f
  refine ⟨setCells_below (by omega) _ _ _ _ (bel_set (by omega) h.low), (setCells_other _ _ _ _ _ (by omega)).trans h1, setCells_block _ _ _ 0 _ _ h2, fun k hk => (setCells_other _ _ _ _ _ (by omega)).trans (set_other _ _ _ _ _ (by omega))⟩
theorem word_one (t : Tok) : ∀ u ∈ wordC t, u.oneCell' = true := by simp [wordC, Value.oneCell']
theorem info_word : (Tryd.prog.info? 54).map (fun i => (i.zero, i.size, i.bytes)) = some (some (.agg #[.string ⟨#[]⟩, .bool false, .bool false]), 3, 24) := by kernel_rfl

end Go.Proofs.YtaeoghagpeihkaaDoor

namespace Go.Proofs.YtaeoghagpeihkaaDoor
open Go.RowKit

attribute [local go_sem] Oper.semAt_some

theorem parseG_none {k : Nat} {s : List UInt8} {r : List (Nat × List UInt8)} {out : List Stp} (h : cutL s = none) : parseG ((k, s) :: r) out = ([], k, 20) := by rw [parseG, h]
theorem parseG_nil {k : Nat} {s : List UInt8} {r : List (Nat × List UInt8)} {out : List Stp} (h : cutL s = some []) : parseG ((k, s) :: r) out = parseG r out := by rw [parseG, h]
theorem parseG_cons {k : Nat} {s : List UInt8} {r : List (Nat × List UInt8)} {out : List Stp} {w : Tok} {ts : List Tok} (h : cutL s = some (w :: ts)) : parseG ((k, s) :: r) out = if (stepF (w :: ts)).2 ≠ 0 then ([], k, (stepF (w :: ts)).2) else if 65536 ≤ out.length then ([], k, 30) else parseG r (out ++ [(stepF (w :: ts)).1]) := by rw [parseG, h]
theorem ko_cells (W : World) (a b : Nat) (vs : List Value) : KeepsOthers W ((W.setCell ⟨a, 0, none⟩ (.slice none 0 0)).setCells b 0 vs) := by
  have h : ∀ (vs : List Value) (o : Nat) (W : World), KeepsOthers W (W.setCells b o vs) := by
    intro vs
    induction vs with
    | nil => exact fun o W => KeepsOthers.refl _
    | cons v r ih => intro o W; rw [World.setCells]; exact (KeepsOthers.setCell _ _ _).trans (ih _ _)
  exact (KeepsOthers.setCell _ _ _).trans (h _ _ _)
def wordV : Option Tok → ByteArray × Bool × Bool
  | some t => (⟨t.t.toArray⟩, t.q, false)
  | none => (⟨#[]⟩, false, true)
theorem encW_eq (x : Option Tok) : encW x = #[.agg #[.string (wordV x).1, .bool (wordV x).2.1, .bool (wordV x).2.2]] := by cases x <;> rfl

set_option maxRecDepth 100000 in
set_option maxHeartbeats 8000000 in
theorem parse_any (s : ByteArray) (w : World) (ht : TabT w) (he : ErrT w) (hss : s.size ≤ 281474976710656) : Calls Tryd.prog 8 #[.string s] w fun e w' => ∃ v, e = .returned (.tuple #[v, .agg #[.int .i64 ((parseF s.data.toList).2.1 : Int), .int .i64 ((parseF s.data.toList).2.2 : Int)]]) ∧ w'.ownsRow w.heap.size 35 6 v (parseF s.data.toList).1.length ((parseF s.data.toList).1.flatMap stepL) ∧ Below w.heap.size w w' := by
  obtain ⟨i0, ji, jz0, jz1, jz2⟩ := info_parts info_step
  obtain ⟨i1, li, lz0, lz1, lz2⟩ := info_parts info_word
  obtain ⟨L, hL⟩ : ∃ l, l = s.data.toList := ⟨_, rfl⟩
  have hLs : L.length = s.size := by rw [hL]; simp
  have hse : s = ⟨L.toArray⟩ := by rw [hL]
  rw [← hL]
  clear hL
  obtain ⟨p, hp⟩ : ∃ p, p = parseF L := ⟨_, rfl⟩
  rw [← hp]
  obtain ⟨g1, j1⟩ := new_block w (.cells #[.slice none 0 0] 22)
  obtain ⟨g2, j2⟩ := new_block (w.alloc (.cells #[.slice none 0 0] 22)) (.cells #[.int .i64 0, .int .i64 0] 25)
  have s1 : (w.alloc (.cells #[.slice none 0 0] 22)).heap.size = w.heap.size + 1 := by show (Array.push _ _).size = _; exact Array.size_push _
  have s2 : ((w.alloc (.cells #[.slice none 0 0] 22)).alloc (.cells #[.int .i64 0, .int .i64 0] 25)).heap.size = w.heap.size + 2 := by show (Array.push _ _).size = _; rw [Array.size_push]; exact congrArg (· + 1) s1
  rw [s1] at j2
  by_cases hbig : 1048576 < s.size
  · have hbi : (1048576 : Int) < (s.size : Int) := by omega
    have HE : Hid (p = ([], 0, 60)) := hp.trans (by unfold parseF; rw [if_pos (by omega)])
    obtain ⟨W2, hW2⟩ : ∃ W, W = (w.alloc (.cells #[.slice none 0 0] 22)).alloc (.cells #[.int .i64 0, .int .i64 0] 25) := ⟨_, rfl⟩
    have HR := Lib.hid (stays j1 g2)
    have HF := Lib.hid j2
    have HL0 := Lib.hid (g1.trans (g2.mono g1.size))
    rw [← hW2] at HR HF HL0
    have HW2 := Lib.hid hW2
    clear hp g1 g2 j1 j2 s1 s2 hW2 hse ht he
    refine (callsIn_wide (n := 5)).1 ?_
    refine callsIn_of_wp_marks Tryd.func8 rfl trivial ?_ rfl
    simp only [Tryd.ntmps8, List.size_toArray, List.length_cons, List.length_nil, Nat.reduceAdd, Nat.reduceSub, Array.replicate_succ, Array.replicate_zero, List.push_toArray, List.append_toArray, List.nil_append, List.cons_append]
    gi_wp2_with (fail)
    refine wpIn_scope_wide ?_
    gi_wp2
    rw [Exit.noGoto_ret]
    obtain ⟨g1, j1⟩ := new_block w (.cells #[.slice none 0 0] 22)
    obtain ⟨g2, j2⟩ := new_block (w.alloc (.cells #[.slice none 0 0] 22)) (.cells #[.int .i64 0, .int .i64 60] 25)
    have s1 : (w.alloc (.cells #[.slice none 0 0] 22)).heap.size = w.heap.size + 1 := by show (Array.push _ _).size = _; exact Array.size_push _
    rw [s1] at j2
    have kr := stays j1 g2
    have kf := j2
    have hbl := g1.trans (g2.mono g1.size)
    clear g1 g2 j1 j2 s1 HR HF HL0 HW2
    refine marks_ret (v := .tuple #[.slice none 0 0, .agg #[.int .i64 0, .int .i64 60]]) ?_ rfl ⟨_, by rw [HE.out]; rfl, by rw [HE.out]; exact World.ownsRow_nil _ _ _ _, hbl⟩
    clear hbl
    generalize (w.alloc (.cells #[.slice none 0 0] 22)).alloc (.cells #[.int .i64 0, .int .i64 60] 25) = V at *
    have x0 := cell_of_row _ _ 0 _ _ _ kr
    have x1 := cell_of_row _ _ 0 _ _ _ kf
    have x2 := cell_of_row _ _ 1 _ _ _ kf
    simp [results, Tryd.results8, go_sem, x0, x1, x2]
  · have hbi : ¬ (1048576 : Int) < (s.size : Int) := by omega
    obtain ⟨g3, j3⟩ := new_block ((w.alloc (.cells #[.slice none 0 0] 22)).alloc (.cells #[.int .i64 0, .int .i64 0] 25)) (.cells #[.slice none 0 0] 22)
    obtain ⟨g4, j4⟩ := new_block (((w.alloc (.cells #[.slice none 0 0] 22)).alloc (.cells #[.int .i64 0, .int .i64 0] 25)).alloc (.cells #[.slice none 0 0] 22)) (.cells #[.string s] 9)
    have s3 : (((w.alloc (.cells #[.slice none 0 0] 22)).alloc (.cells #[.int .i64 0, .int .i64 0] 25)).alloc (.cells #[.slice none 0 0] 22)).heap.size = w.heap.size + 3 := by show (Array.push _ _).size = _; rw [Array.size_push]; exact congrArg (· + 1) s2
    have s4 : ((((w.alloc (.cells #[.slice none 0 0] 22)).alloc (.cells #[.int .i64 0, .int .i64 0] 25)).alloc (.cells #[.slice none 0 0] 22)).alloc (.cells #[.string s] 9)).heap.size = w.heap.size + 4 := by show (Array.push _ _).size = _; rw [Array.size_push]; exact congrArg (· + 1) s3
    rw [s2] at j3
    rw [s3] at j4
    have hb12 := g1.trans (g2.mono g1.size)
    have hb13 := hb12.trans (g3.mono hb12.size)
    have hb14 := hb13.trans (g4.mono hb13.size)
    have hp0 : PS w (some (.cells #[.string s] 9 (0, 0))) [] (.slice none 0 0) ((((w.alloc (.cells #[.slice none 0 0] 22)).alloc (.cells #[.int .i64 0, .int .i64 0] 25)).alloc (.cells #[.slice none 0 0] 22)).alloc (.cells #[.string s] 9)) :=
      ⟨hb14, by rw [s4]; exact Nat.le_refl _, stays (stays (stays j1 g2) g3) g4, stays (stays j2 g3) g4, stays j3 g4, j4, World.ownsRow_nil _ _ _ _⟩
    have HP0 := Lib.hid hp0
    have hlc := lines_calls s (((w.alloc (.cells #[.slice none 0 0] 22)).alloc (.cells #[.int .i64 0, .int .i64 0] 25)).alloc (.cells #[.slice none 0 0] 22))
    rw [s3] at hlc
    have HLC := Lib.hid hlc
    have HPP : Hid (p = parseG (linesL 1 L) []) := hp.trans (by unfold parseF; rw [if_neg (by omega)]; exact parse_G _ _ _ _ (by omega))
    have HSZ := Lib.hid s4
    have HSE := Lib.hid hse
    have HT := Lib.hid ht
    have HEE := Lib.hid he
    have hL : L.length ≤ 1048576 := by omega
    have HLL := Lib.hid (linesL_len 1048576 L 1 hL)
    clear hp g1 g2 g3 g4 j1 j2 j3 j4 s1 s2 s3 s4 hb12 hb13 hb14 hp0 hlc hse ht he
    refine (callsIn_wide (n := 5)).1 ?_
    refine callsIn_of_wp_marks Tryd.func8 rfl trivial ?_ rfl
    simp only [Tryd.ntmps8, List.size_toArray, List.length_cons, List.length_nil, Nat.reduceAdd, Nat.reduceSub, Array.replicate_succ, Array.replicate_zero, List.push_toArray, List.append_toArray, List.nil_append, List.cons_append]
    gi_wp2_with (fail)
    refine wpIn_scope_wide ?_
    gi_wp2_with (fail)
    refine wpIn_label ?_
    gi_wp2_with (fail)
    refine ⟨trivial, ?_⟩
    refine (callsIn_wide.2 HLC.out).mono ?_
    rintro e w' ⟨rfl, hw'⟩
    rw [← hw'] at HP0 HSZ
    clear HLC hw'
    gi_wp2_with (fail)
    refine wpIn_range_BX (F := Fence.wide) (n := 5) rfl (by omega) (gf := 34) (lb := #[.pointer (some ⟨w.heap.size + 3, 0, none⟩)]) ?hg trivial (enters_of Tryd.func34 (by kernel_rfl) rfl) (lines1_iter (w.heap.size + 3) L (by omega) 4) (by rw [HSZ.out]; omega) (by rw [HP0.out.b3, HSE.out]; rfl) (fun x => rfl)
      (fun pre W => ∃ o3 v out post, PS w o3 out v W ∧ out.length ≤ 65536 ∧ linesL 1 L = pre ++ post ∧ p = parseG post out) (fun c _ W => c = .ret ∧ ∃ k e : Nat, RT w k e W ∧ p = ([], k, e)) ?hI ?hIp ?hIxp ?h0
      (A := ?A) (fun (x : Nat × List UInt8) (kb : Nat) (k : Nat) (ln : List UInt8) (_ _ _ : Unit) W => x = (k, ln) ∧ W.heap[kb]? = some (.cells #[.int .i64 (k : Int)] 3 (0, 0)) ∧ w.heap.size + 4 ≤ kb) ?hAxp ?assign ?body ?done ?stop
    case hg => rfl
    case hI =>
      rintro s' A B ⟨o3, v, out, post, h1, h2⟩ hb
      exact ⟨_, v, out, post, h1.turns hb, h2⟩
    case hIp =>
      rintro s' A l o o' ⟨o3, v, out, post, h1, h2⟩ hl ho hc
      exact ⟨o3, v, out, post, h1.put o' (by rw [HSZ.out] at hl; exact hl) ho hc, h2⟩
    case hIxp =>
      rintro c s' A l o o' ⟨h0, k, e, h1, h2⟩ hl ho hc
      exact ⟨h0, k, e, h1.put o' (by rw [HSZ.out] at hl; exact hl) ho hc, h2⟩
    case h0 => exact ⟨_, _, _, _, HP0.out, by simp, rfl, HPP.out⟩
    case hAxp =>
      rintro x kb k ln d1 d2 d3 A l o o' ⟨h1, h2, h3⟩ hl ho hc
      exact ⟨h1, row_put o' h2 ho hc, h3⟩
    case assign =>
      rintro yl pre ⟨k, ln⟩ W K ⟨o3, v, out, post, h1, h2⟩ hR hK
      have HK := Lib.hid hK
      have HP := Lib.hid h1
      have HQ := Lib.hid h2
      clear hK h1 h2 hR
      simp only [encL]
      gi_wp2
      obtain ⟨g1, k1⟩ := new_block W (.cells #[.int .i64 (k : Int)] 3)
      have hp1 := HP.out.below g1
      have h4 := HP.out.sz
      have d1 : Unit := ()
      have d2 : Unit := ()
      have d3 : Unit := ()
      generalize W.heap.size = kb at *
      exact HK.out kb k ln d1 d2 d3 _ g1 ⟨o3, v, out, post, hp1, HQ.out⟩ ⟨rfl, k1, h4⟩
    case body =>
      rintro yl pre x kb k ln d1 d2 d3 W hyl ⟨rl, hrl⟩ ⟨o3, v, out, post0, h1, h2, h3, h4⟩ ⟨post, hR⟩ ⟨rfl, hkb, hkb4⟩
      have hpo : post0 = (k, ln) :: post := by
        have h := h3.symm.trans hR
        exact List.append_cancel_left h
      subst hpo
      have hlnl : ln.length ≤ 1048576 := by
        have h := HLL.out.2 (k, ln) (by rw [hR]; exact List.mem_append_right _ List.mem_cons_self)
        exact h
      have HPG := Lib.hid h4
      have HOL := Lib.hid h2
      have HB3 := Lib.hid h1.b3
      have HLN := Lib.hid hR
      obtain ⟨g1, k1⟩ := new_block W (.cells #[.slice none 0 0] 49)
      obtain ⟨g2, k2⟩ := new_block (W.alloc (.cells #[.slice none 0 0] 49)) (.cells #[.string ⟨ln.toArray⟩] 9)
      have s1 : (W.alloc (.cells #[.slice none 0 0] 49)).heap.size = W.heap.size + 1 := by show (Array.push _ _).size = _; exact Array.size_push _
      have hsW := h1.sz
      have hw0 : WS w o3 out v kb k W.heap.size (W.alloc (.cells #[.slice none 0 0] 49)).heap.size ⟨ln.toArray⟩ [] (.slice none 0 0) W ((W.alloc (.cells #[.slice none 0 0] 49)).alloc (.cells #[.string ⟨ln.toArray⟩] 9)) :=
        ⟨(h1.below g1).below g2, ko_below (ko_below (KeepsOthers.refl W) g1) g2, stays (stays hkb g1) g2, stays k1 g2, hsW, k2, World.ownsRow_nil _ _ _ _⟩
      have hrl2 := stays (stays hrl g1) g2
      have hwc := words_calls ⟨ln.toArray⟩ (W.alloc (.cells #[.slice none 0 0] 49))
      have hsz2 := Nat.le_trans g1.size g2.size
      rw [s1] at hw0 hwc
      have HW0 := Lib.hid hw0
      have HWC := Lib.hid hwc
      have HRL := Lib.hid hrl2
      have HSW := Lib.hid hsW
      have HSZ2 := Lib.hid hsz2
      obtain ⟨lbx, hlbx⟩ : ∃ b, b = W.heap.size := ⟨_, rfl⟩
      obtain ⟨wq, hwq⟩ : ∃ b, b = W.heap.size + 1 := ⟨_, rfl⟩
      rw [← hwq, ← hlbx] at HW0
      rw [← hwq] at HWC
      have HLBX := Lib.hid hlbx
      clear h1 h2 h3 h4 hR g1 g2 k1 k2 s1 hw0 hrl hrl2 hwc hkb hsW hsz2 hwq
      gi_wp2_with (fail)
      refine ⟨trivial, ?_⟩
      refine (CallsIn.inRound yl (callsIn_wide.2 HWC.out)).mono ?_
      rintro e w' ⟨rfl, hw'⟩
      rw [← hw'] at HW0 HRL HSZ2
      rw [← hlbx]
      clear HWC hw' hlbx
      gi_wp2_with (fail)
      refine wpIn_range_N (F := Fence.wide.inRound yl) (n := 3) (l₀ := yl) rfl HRL.out (by omega) (gf := 36) (lb := #[.pointer (some ⟨wq, 0, none⟩)]) ?hg2 trivial (enters_of Tryd.func36 (by kernel_rfl) rfl) (encs := encW) (Inv := InvW wq ⟨ln.toArray⟩) (words1_iter wq ⟨ln.toArray⟩ (by show ln.length ≤ _; omega) 2) (fun x => by cases x <;> rfl) ?hRput2
        (fun pre W' => ∃ ts u, pre = ts.map some ∧ WS w o3 out v kb k lbx wq ⟨ln.toArray⟩ ts u W W' ∧ ts.length ≤ 1048577 ∧ ∀ t ∈ ts, t.t.length ≤ 1048576) (fun c pre W' => c = .ret ∧ KeepsOthers W W' ∧ none ∈ pre ∧ RT w k 20 W') ?hI2 ?hIp2 ?hIxp2 ?hInv2 ?h02
        (A := ?A2) (fun (x : Option Tok) (wb : Nat) (tx : ByteArray) (q : Bool) (bd : Bool) (_ _ : Unit) W' => wordV x = (tx, q, bd) ∧ W'.heap[wb]? = some (.cells #[.string tx, .bool q, .bool bd] 54 (0, 0))) ?hAxp2 ?assign2 ?body2 ?done2 ?stop2
      case hg2 => rfl
      case hRput2 => exact fun pre x W l o o' h _ _ => h
      case hI2 =>
        rintro s' A B ⟨ts, u, h1, h2, h3⟩ hb
        exact ⟨ts, u, h1, h2.below hb, h3⟩
      case hIp2 =>
        rintro s' A l o o' ⟨ts, u, h1, h2, h3⟩ hl ho hc
        exact ⟨ts, u, h1, h2.put o' (by have := HSZ2.out; have := HSW.out; omega) (by have := HSZ2.out; omega) ho hc, h3⟩
      case hIxp2 =>
        rintro c s' A l o o' ⟨h0, h1, h2, h3⟩ hl ho hc
        exact ⟨h0, ko_put h1 o' (by have := HSZ2.out; omega), h2, h3.put o' (by have := HSZ2.out; have := HSW.out; omega) ho hc⟩
      case hInv2 =>
        rintro s' A ⟨ts, u, h1, h2, h3⟩
        exact h2.qx
      case h02 => exact ⟨[], _, rfl, HW0.out, by simp, by simp⟩
      case hAxp2 =>
        rintro x wb tx q bd e1 e2 A l o o' ⟨h1, h2⟩ hl ho hc
        exact ⟨h1, row_put o' h2 ho hc⟩
      case assign2 =>
        rintro yl2 pre2 x W2 K ⟨ts, u, h1, h2, h3⟩ hR2 hK
        rw [encW_eq]
        obtain ⟨⟨tx, q, bd⟩, hx⟩ : ∃ y, y = wordV x := ⟨_, rfl⟩
        rw [← hx]
        have HK := Lib.hid hK
        have HP := Lib.hid h2
        have HQ := Lib.hid h3
        have HX := Lib.hid hx
        have HR2 := Lib.hid hR2
        have HH := Lib.hid h1
        clear hK h2 h3 hR2 hx h1
        gi_wp2
        obtain ⟨g1, k1⟩ := new_block W2 (.cells #[.string tx, .bool q, .bool bd] 54)
        have hp1 := HP.out.below g1
        have hko := KeepsOthers.alloc W2 (.cells #[.string tx, .bool q, .bool bd] 54)
        have e1 : Unit := ()
        have e2 : Unit := ()
        clear g1
        generalize W2.heap.size = wb at *
        exact HK.out wb tx q bd e1 e2 _ hko ⟨ts, u, HH.out, hp1, HQ.out⟩ HR2.out ⟨HX.out.symm, k1⟩
      case body2 =>
        rintro yl2 pre2 x wb tx q bd e1 e2 W2 hyl2 - ⟨ts, u, h1, hws, hn, hlen⟩ ⟨hR1, hR2⟩ ⟨hx, hwb⟩
        have b0 := cell_of_row _ _ 2 _ _ _ hwb
        cases x with
        | none =>
          injection hx with hx1 hx
          injection hx with hx2 hx3
          subst hx1
          subst hx2
          subst hx3
          have HP := Lib.hid hws.ps
          have HKO := Lib.hid hws.ko
          have k0 := cell_of_row _ _ 0 _ _ _ hws.kx
          have r0 := frozen_of_row _ _ 0 _ _ hws.ps.r
          have r1 := cell_of_row _ _ 0 _ _ _ hws.ps.r
          have f0 := frozen_of_row _ _ 0 _ _ hws.ps.f
          have f1 := frozen_of_row _ _ 1 _ _ hws.ps.f
          have f2 := cell_of_row _ _ 0 _ _ _ hws.ps.f
          have f3 := cell_of_row _ _ 1 _ _ _ hws.ps.f
          clear hws hwb hR1 hR2 hn hlen h1
          gi_wp2_with (fail)
          gi_region
          all_goals gi_wp2
          all_goals first
            | exact ⟨(ko_cells _ w.heap.size (w.heap.size + 1) [.int .i64 (k : Int), .int .i64 20]).trans (KeepsOthers.drew _), rfl, HKO.out.trans ((ko_cells _ w.heap.size (w.heap.size + 1) [.int .i64 (k : Int), .int .i64 20]).trans (KeepsOthers.drew _)), List.mem_append_right _ List.mem_cons_self, (HP.out.rt (k : Int) 20).drew⟩
        | some t =>
          injection hx with hx1 hx
          injection hx with hx2 hx3
          subst hx1
          subst hx2
          subst hx3
          have htl : t.t.length ≤ 1048576 := by have h : t.t.length ≤ ln.length := hR2 t rfl; omega
          have htsl : ts.length ≤ 1048576 := by
            have h := hR1
            rw [h1, List.length_map] at h
            have h : ts.length ≤ ln.length := h
            omega
          obtain ⟨au, cu, huf⟩ := owns_form hws.row
          obtain ⟨nu, hnu⟩ : ∃ n, n = ts.length := ⟨_, rfl⟩
          rw [← hnu] at huf
          subst huf
          have HNU := Lib.hid hnu
          have b1 := cell_of_row _ _ 0 _ _ _ hwb
          have b2 := cell_of_row _ _ 1 _ _ _ hwb
          have lx := cell_of_row _ _ 0 _ _ _ hws.lx
          obtain ⟨g5, k5⟩ := new_block W2 (.cells #[.string ⟨t.t.toArray⟩, .bool t.q, .bool false] 54)
          have HW5 := Lib.hid (hws.below g5)
          obtain ⟨g6, cap6, w5, hrun, ho5, hg5, -⟩ := op_append_row 49 54 i1 _ 3 24 Tryd.underlying49 li lz0 lz1 lz2 rfl (by decide) (W2.alloc (.cells #[.string ⟨t.t.toArray⟩, .bool t.q, .bool false] 54)) (w.heap.size + 4) (.slice au nu cu) nu (ts.flatMap wordC) W2.heap.size 1 [.string ⟨t.t.toArray⟩, .bool t.q, .bool false] (by have h := HW5.out.row; rw [← HNU.out] at h; exact h) k5 rfl (word_one t) (by decide) (by omega) (by omega) HW5.out.ps.sz
          have hfs : ts.flatMap wordC ++ [.string ⟨t.t.toArray⟩, .bool t.q, .bool false] = (ts ++ [t]).flatMap wordC := by simp [wordC]
          have hol : nu + 1 = (ts ++ [t]).length := by rw [List.length_append, ← HNU.out]; rfl
          rw [hfs] at ho5
          have HO5 : Hid (w5.ownsRow (w.heap.size + 4) 54 3 (.slice (some ⟨g6, 0, none⟩) (nu + 1) cap6) (ts ++ [t]).length ((ts ++ [t]).flatMap wordC)) := by rw [← hol]; exact ho5
          have HWA := Lib.hid (HW5.out.app HO5.out hg5)
          have HRUN := Lib.hid hrun
          have hlx5 := row_grown HW5.out.row HW5.out.lx (by decide) hg5
          have hf2 := frozen_of_row _ _ 0 _ _ hlx5
          have hc5 := cell_of_row _ _ 0 _ _ _ hlx5
          have HKF := Lib.hid (((KeepsOthers.alloc W2 (.cells #[.string ⟨t.t.toArray⟩, .bool t.q, .bool false] 54)).trans (ko_grown HW5.out.row hg5)).trans (KeepsOthers.setCell _ ⟨lbx, 0, none⟩ (.slice (some ⟨g6, 0, none⟩) (nu + 1) cap6)))
          have HLE : Hid (∀ t' ∈ ts ++ [t], t'.t.length ≤ 1048576) := by
            show ∀ t' ∈ ts ++ [t], _
            intro t' h
            rw [List.mem_append] at h
            rcases h with h | h
            · exact hlen t' h
            · rw [List.mem_singleton] at h; subst h; exact htl
          have HPRE : Hid (pre2 ++ [some t] = (ts ++ [t]).map some) := by show _ = _; rw [h1, List.map_append]; rfl
          have HTL2 : Hid ((ts ++ [t]).length ≤ 1048577) := by show _ ≤ _; rw [← hol]; omega
          clear hws hwb hR1 hR2 hn hlen h1 hrun ho5 hg5 hfs g5 k5 hlx5 hnu hol
          gi_wp2_with (gi_at_builtin; (refine wpListIn_run (fun _ => trivial) rfl (by intro c hc; cases hc) (HRUN.out _ _ 26 28 rfl rfl rfl rfl) ?_))
          exact ⟨HKF.out, _, _, HPRE.out, HWA.out, HTL2.out, HLE.out⟩
      case done2 =>
        rintro xs W2 hS ⟨ts, u, h1, hws, hn, hlen⟩
        have hcut : cutL ln = some ts := by
          rcases hS with ⟨ts', e1, e2⟩ | ⟨e1, e2⟩
          · have h := e2.symm.trans h1
            rw [(List.map_inj_right (fun _ _ e => Option.some.inj e)).1 h] at e1
            exact e1
          · rw [h1] at e2
            simp at e2
        clear hS h1
        obtain ⟨au, cu, huf⟩ := owns_form hws.row
        obtain ⟨nu, hnu⟩ : ∃ n, n = ts.length := ⟨_, rfl⟩
        rw [← hnu] at huf
        subst huf
        have lx := cell_of_row _ _ 0 _ _ _ hws.lx
        have HWS := Lib.hid hws
        have HNU := Lib.hid hnu
        have HCUT := Lib.hid hcut
        have HLEN := Lib.hid hlen
        cases ts with
        | nil =>
          have hn0 : nu = 0 := hnu
          subst hn0
          have HPN : Hid (p = parseG post out) := HPG.out.trans (parseG_nil HCUT.out)
          clear hws hnu hcut hlen hn
          gi_wp2
          exact ⟨HWS.out.ko, HWS.out.ps.b3.trans HB3.out.symm, o3, v, out, post, HWS.out.ps, HOL.out, by rw [HLN.out]; simp, HPN.out⟩
        | cons t0 tr =>
          have hn1 : nu = tr.length + 1 := hnu
          subst hn1
          obtain ⟨lb, lcap, hvb, hcap, hwa⟩ := word_at hws.row (by simp)
          simp only [List.length_cons] at hvb hcap
          injection hvb with hau _ hcu
          subst hau
          subst hcu
          have hn2 : tr.length ≤ 100000000 := by simp only [List.length_cons] at hn; omega
          have HCON := Lib.hid (step_any t0 tr lb cu W2 ⟨hcap, hn2⟩ hwa (fun t h => by have := hlen t h; omega) (HT.out.below hws.ps.low) (HEE.out.below hws.ps.low))
          have HPC := Lib.hid (HPG.out.trans (parseG_cons HCUT.out))
          obtain ⟨sp, hsp⟩ : ∃ x, x = stepF (t0 :: tr) := ⟨_, rfl⟩
          rw [← hsp] at HCON HPC
          obtain ⟨st, en⟩ := sp
          have hnz : ((tr.length : Int) + 1 == 0) = false := by rw [beq_eq_false_iff_ne]; omega
          clear hws hnu hcut hlen hn hwa hsp hcap
          gi_wp2_with (fail)
          refine ⟨trivial, ?_⟩
          refine (CallsIn.inRound yl (callsIn_wide.2 HCON.out)).mono ?_
          rintro e w3 ⟨cs, er, rfl, ⟨hre, s', rfl, hs'⟩, hB3⟩
          simp only at hre hs'
          subst hre
          simp only [stepC]
          obtain ⟨g4, k4⟩ := new_block w3 (.cells #[.int .i64 s'.kind, .int .i64 s'.a, .int .i64 s'.b, .string ⟨s'.name.toArray⟩, .int .i64 s'.k, .int .i64 s'.n] 35)
          have hp4 := (HWS.out.ps.below hB3).below g4
          have HP := Lib.hid hp4
          have HKO := Lib.hid (ko_below (ko_below HWS.out.ko hB3) g4)
          have HK := Lib.hid (stays (stays HWS.out.kx hB3) g4)
          have HX4 := Lib.hid k4
          have HSS := Lib.hid hs'
          gi_wp2_with (with_reducible show wpListIn _ _ _ _ _ ({ dst := some 39, op := _, type := _, pos := _, after := _, guard := _ } :: _) _ _; refine Hid.out ?_)
          refine Lib.hid ?_
          obtain ⟨W4, hW4⟩ : ∃ W, W = w3.alloc (.cells #[.int .i64 s'.kind, .int .i64 s'.a, .int .i64 s'.b, .string ⟨s'.name.toArray⟩, .int .i64 s'.k, .int .i64 s'.n] 35) := ⟨_, rfl⟩
          obtain ⟨xb, hxb⟩ : ∃ b, b = w3.heap.size := ⟨_, rfl⟩
          rw [← hW4] at HP HKO HK HX4 ⊢
          rw [← hxb] at HX4 ⊢
          replace hp4 := HP.out
          obtain ⟨ao, cap, hvf⟩ := owns_form hp4.own
          obtain ⟨n, hno⟩ : ∃ n, n = out.length := ⟨_, rfl⟩
          rw [← hno] at hvf
          subst hvf
          have HNO := Lib.hid hno
          have c2 : W4.cell? ⟨w.heap.size + 1 + 1, 0, none⟩ = some (.slice ao n cap) := cell_of_row _ _ 0 _ _ _ hp4.o
          clear HCON hB3 g4 k4 hp4 hs' lx hno hnz hW4 hxb
          by_cases he0 : en = 0
          · subst he0
            by_cases hfull : 65536 ≤ n
            · have hfi : (65536 : Int) ≤ (n : Int) := by omega
              have HFIN : Hid (p = ([], k, 30)) := by
                have h := HPC.out
                simp only [ne_eq, not_true_eq_false, if_false] at h
                rw [if_pos (by rw [← HNO.out]; exact hfull)] at h
                exact h
              have k0 := cell_of_row _ _ 0 _ _ _ HK.out
              have r0 := frozen_of_row _ _ 0 _ _ HP.out.r
              have r1 := cell_of_row _ _ 0 _ _ _ HP.out.r
              have f0 := frozen_of_row _ _ 0 _ _ HP.out.f
              have f1 := frozen_of_row _ _ 1 _ _ HP.out.f
              have f2 := cell_of_row _ _ 0 _ _ _ HP.out.f
              have f3 := cell_of_row _ _ 1 _ _ _ HP.out.f
              gi_wp2_with (fail)
              gi_region
              all_goals gi_wp2
              all_goals first
                | exact ⟨HKO.out.trans ((ko_cells _ w.heap.size (w.heap.size + 1) [.int .i64 (k : Int), .int .i64 ((30 : Nat) : Int)]).trans (KeepsOthers.drew _)), rfl, k, 30, (HP.out.rt (k : Int) ((30 : Nat) : Int)).drew, HFIN.out⟩
            · have hfi : ¬ (65536 : Int) ≤ (n : Int) := by omega
              have hst : s' = st := HSS.out rfl
              have HPN : Hid (p = parseG post (out ++ [s'])) := by
                have h := HPC.out
                simp only [ne_eq, not_true_eq_false, if_false] at h
                rw [if_neg (by rw [← HNO.out]; exact hfull)] at h
                rw [hst]
                exact h
              have x0 := (cell_of_row _ _ 0 _ _ _ HX4.out).trans (show _ = some (.int .i64 s'.kind) from rfl)
              have x1 := (cell_of_row _ _ 1 _ _ _ HX4.out).trans (show _ = some (.int .i64 s'.a) from rfl)
              have x2 := (cell_of_row _ _ 2 _ _ _ HX4.out).trans (show _ = some (.int .i64 s'.b) from rfl)
              have x3 := (cell_of_row _ _ 3 _ _ _ HX4.out).trans (show _ = some (.string ⟨s'.name.toArray⟩) from rfl)
              have x4 := (cell_of_row _ _ 4 _ _ _ HX4.out).trans (show _ = some (.int .i64 s'.k) from rfl)
              have x5 := (cell_of_row _ _ 5 _ _ _ HX4.out).trans (show _ = some (.int .i64 s'.n) from rfl)
              obtain ⟨g5, k5⟩ := new_block W4 (.cells #[.int .i64 s'.kind, .int .i64 s'.a, .int .i64 s'.b, .string ⟨s'.name.toArray⟩, .int .i64 s'.k, .int .i64 s'.n] 35)
              have HP5 := Lib.hid (HP.out.below g5)
              have HKO5 := Lib.hid (ko_below HKO.out g5)
              obtain ⟨g6, cap6, w5, hrun, ho5, hg5, -⟩ := op_append_row 22 35 i0 _ 6 56 Tryd.underlying22 ji jz0 jz1 jz2 rfl (by decide) (W4.alloc (.cells #[.int .i64 s'.kind, .int .i64 s'.a, .int .i64 s'.b, .string ⟨s'.name.toArray⟩, .int .i64 s'.k, .int .i64 s'.n] 35)) (w.heap.size + 4) (.slice ao n cap) n (out.flatMap stepL) W4.heap.size 1 [.int .i64 s'.kind, .int .i64 s'.a, .int .i64 s'.b, .string ⟨s'.name.toArray⟩, .int .i64 s'.k, .int .i64 s'.n] (by have h := HP5.out.own; rw [← HNO.out] at h; exact h) k5 rfl (stepL_one s') (by decide) (by have := HOL.out; have := HNO.out; omega) (by have := HOL.out; have := HNO.out; omega) HP5.out.sz
              have hfs : out.flatMap stepL ++ [.int .i64 s'.kind, .int .i64 s'.a, .int .i64 s'.b, .string ⟨s'.name.toArray⟩, .int .i64 s'.k, .int .i64 s'.n] = (out ++ [s']).flatMap stepL := by simp [stepL]
              have hol : n + 1 = (out ++ [s']).length := by rw [List.length_append, ← HNO.out]; rfl
              rw [hfs] at ho5
              have HO5 : Hid (w5.ownsRow (w.heap.size + 4) 35 6 (.slice (some ⟨g6, 0, none⟩) (n + 1) cap6) (out ++ [s']).length ((out ++ [s']).flatMap stepL)) := by rw [← hol]; exact ho5
              have hpa := HP5.out.app HO5.out hg5
              have HPA := Lib.hid hpa
              have HRUN := Lib.hid hrun
              have hf2 : w5.frozen? ⟨w.heap.size + 1 + 1, 0, none⟩ = false := by
                have h := hg5.block (w.heap.size + 2) (by have := HP5.out.sz; omega) (fun e => by have := World.ownsRow.lt HP5.out.own _ e.symm; omega)
                exact frozen_of_row _ _ 0 _ _ (h.trans HP5.out.o)
              have hc5 : w5.cell? ⟨w.heap.size + 1 + 1, 0, none⟩ = some (.slice ao n cap) := by
                have h := hg5.block (w.heap.size + 2) (by have := HP5.out.sz; omega) (fun e => by have := World.ownsRow.lt HP5.out.own _ e.symm; omega)
                exact cell_of_row _ _ 0 _ _ _ (h.trans HP5.out.o)
              have HKO6 := Lib.hid ((HKO5.out.trans (ko_grown HP5.out.own hg5)).trans (KeepsOthers.setCell _ ⟨w.heap.size + 2, 0, none⟩ (.slice (some ⟨g6, 0, none⟩) (n + 1) cap6)))
              have HOL2 : Hid ((out ++ [s']).length ≤ 65536) := by show _ ≤ _; rw [← hol]; omega
              clear hrun ho5 hg5 hfs g5 k5 hpa hst hol
              gi_wp2_with (gi_at_builtin; (refine wpListIn_run (fun _ => trivial) rfl (by intro c hc; cases hc) (HRUN.out _ _ 50 52 rfl rfl rfl rfl) ?_))
              exact ⟨HKO6.out, HPA.out.b3.trans HB3.out.symm, o3, _, _, HPA.out, HOL2.out, post, by rw [HLN.out]; simp, HPN.out⟩
          · have hei : ((en : Int) == 0) = false := by rw [beq_eq_false_iff_ne]; omega
            have hen : ((en : Int) != 0) = true := by unfold bne; rw [hei]; rfl
            have HFIN : Hid (p = ([], k, en)) := by
              have h := HPC.out
              rw [if_pos he0] at h
              exact h
            have k0 := cell_of_row _ _ 0 _ _ _ HK.out
            have r0 := frozen_of_row _ _ 0 _ _ HP.out.r
            have r1 := cell_of_row _ _ 0 _ _ _ HP.out.r
            have f0 := frozen_of_row _ _ 0 _ _ HP.out.f
            have f1 := frozen_of_row _ _ 1 _ _ HP.out.f
            have f2 := cell_of_row _ _ 0 _ _ _ HP.out.f
            have f3 := cell_of_row _ _ 1 _ _ _ HP.out.f
            gi_wp2_with (fail)
            gi_region
            all_goals gi_wp2
            all_goals first
              | exact ⟨HKO.out.trans ((ko_cells _ w.heap.size (w.heap.size + 1) [.int .i64 (k : Int), .int .i64 ((en : Nat) : Int)]).trans (KeepsOthers.drew _)), rfl, k, en, (HP.out.rt (k : Int) ((en : Nat) : Int)).drew, HFIN.out⟩
      case stop2 =>
        rintro c pre2 W2 hS ⟨rfl, h1, h2, h3⟩
        have hcut : cutL ln = none := hS h2
        have HPN : Hid (p = ([], k, 20)) := HPG.out.trans (parseG_none hcut)
        have HKO := Lib.hid h1
        have HRT := Lib.hid h3
        clear hS h1 h2 h3 hcut
        gi_wp2
        exact ⟨HKO.out, rfl, k, 20, HRT.out, HPN.out⟩
    case done =>
      rintro D xs W hS ⟨o3, v, out, post, h1, h2, h3, h4⟩ hD hDn
      have hpo : post = [] := by
        have h := hS.symm.trans h3
        have := congrArg List.length h
        rw [List.length_append] at this
        exact List.eq_nil_of_length_eq_zero (by omega)
      subst hpo
      have HE : Hid (p = (out, 0, 0)) := h4.trans rfl
      obtain ⟨ao, cap, hvf⟩ := owns_form h1.own
      obtain ⟨n, hn⟩ : ∃ n, n = out.length := ⟨_, rfl⟩
      rw [← hn] at hvf
      subst hvf
      clear hn
      have HP := Lib.hid h1
      have HD := Lib.hid hD
      have HDN : Hid (w.heap.size + 4 ≤ D) := by rw [HSZ.out] at hDn; exact hDn
      have c2 : W.cell? ⟨w.heap.size + 1 + 1, 0, none⟩ = some (.slice ao n cap) := cell_of_row _ _ 0 _ _ _ h1.o
      have r0 := frozen_of_row _ _ 0 _ _ h1.r
      have r1 := cell_of_row _ _ 0 _ _ _ h1.r
      have f0 := frozen_of_row _ _ 0 _ _ h1.f
      have f1 := frozen_of_row _ _ 1 _ _ h1.f
      have f2 := cell_of_row _ _ 0 _ _ _ h1.f
      have f3 := cell_of_row _ _ 1 _ _ _ h1.f
      clear hS h1 h2 h3 h4 hD hDn
      gi_wp2
      rw [Exit.noGoto_ret]
      obtain ⟨k1, k2, k3, k4⟩ := fin_set HP.out
      obtain ⟨Wf, hWf⟩ : ∃ W', W' = (W.setCell ⟨w.heap.size, 0, none⟩ (.slice ao n cap)).setCells (w.heap.size + 1) 0 [.int .i64 0, .int .i64 0] := ⟨_, rfl⟩
      rw [← hWf] at k1 k2 k3 k4
      show bodyPostM _ _ _ _ _ _ _ ((W.setCell ⟨w.heap.size, 0, none⟩ (.slice ao n cap)).setCells (w.heap.size + 1) 0 [.int .i64 0, .int .i64 0])
      rw [← hWf]
      have hDf : Wf.heap[D]? = some (.deferred (some [])) := (k4 D HDN.out).trans HD.out
      have kr := row_put (.deferred none) k2 hDf rfl
      have kf := row_put (.deferred none) k3 hDf rfl
      have hown : Wf.ownsRow (w.heap.size + 4) 35 6 (.slice ao n cap) out.length (out.flatMap stepL) := owns_same HP.out.own fun k hk => k4 k (World.ownsRow.lt HP.out.own k hk).1
      have ho2 := own_put hown (.deferred none) hDf rfl
      have hbl : Below w.heap.size w (Wf.putObj D (.deferred none)) := k1.grown (grownBy_putObj' Wf D _) k1.size (fun k e => by cases e; have := HDN.out; omega)
      refine marks_ret1 rfl hDf (v := .tuple #[.slice ao n cap, .agg #[.int .i64 0, .int .i64 0]]) ?_ ⟨_, by rw [HE.out]; rfl, by rw [HE.out]; exact owns_mono ho2 (by omega), hbl⟩
      clear hbl ho2 hown
      generalize Wf.putObj D (.deferred none) = V at *
      have x0 := cell_of_row _ _ 0 _ _ _ kr
      have x1 := cell_of_row _ _ 0 _ _ _ kf
      have x2 := cell_of_row _ _ 1 _ _ _ kf
      simp [results, Tryd.results8, go_sem, x0, x1, x2]
    case stop =>
      rintro D c pre W - ⟨rfl, k, e, h1, h2⟩ hD hDn
      have HE := Lib.hid h2
      have HP := Lib.hid h1
      have HD := Lib.hid hD
      have HDN : Hid (w.heap.size + 4 ≤ D) := by rw [HSZ.out] at hDn; exact hDn
      clear h1 h2 hD hDn
      gi_wp2
      rw [Exit.noGoto_ret]
      have kr := row_put (.deferred none) HP.out.r HD.out rfl
      have kf := row_put (.deferred none) HP.out.f HD.out rfl
      have hbl : Below w.heap.size w (W.putObj D (.deferred none)) := HP.out.low.grown (grownBy_putObj' W D _) HP.out.low.size (fun k e => by cases e; have := HDN.out; omega)
      refine marks_ret1 rfl HD.out (v := .tuple #[.slice none 0 0, .agg #[.int .i64 (k : Int), .int .i64 (e : Int)]]) ?_ ⟨_, by rw [HE.out], by rw [HE.out]; exact World.ownsRow_nil _ _ _ _, hbl⟩
      clear hbl
      generalize W.putObj D (.deferred none) = V at *
      have x0 := cell_of_row _ _ 0 _ _ _ kr
      have x1 := cell_of_row _ _ 0 _ _ _ kf
      have x2 := cell_of_row _ _ 1 _ _ _ kf
      simp [results, Tryd.results8, go_sem, x0, x1, x2]

end Go.Proofs.YtaeoghagpeihkaaDoor

