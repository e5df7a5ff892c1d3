/- A region that draws, in which the one call panics: whatever stands ahead of it, the panic goes out with the frame's other slots as they were. -/
import Derived.Test.YtgnpjenpehfjbaaDoorCodeCatch
import Derived.Test.YtgnpjenpehfjbaaDoorRange
namespace Go.Proofs.YtgnpjenpehfjbaaDoor
open Go.RowKit

theorem getD_put (a : Act) (s t : Nat) (v : Value) (h : t ≠ s) : (a.put (some s) v).tmps.getD t undef = a.tmps.getD t undef := by
  simp only [Act.put, Array.getD_eq_getD_getElem?]
  rw [Array.getElem?_setIfInBounds_ne (Ne.symm h)]
theorem getD_put_same (a : Act) (s : Nat) (v : Value) (h : s < a.tmps.size) : (a.put (some s) v).tmps.getD s undef = v := by
  simp [Act.put, Array.getD, h]

theorem panic_region {ops : Array Oper} {Q : Exit → Act → World → Prop} {id : Nat} {a0 : Act} {w : World} {chain : List PanicEntry} {p k : Value} {g fl lcap : Nat} {lo : Option Addr} {S : World → Prop}
    (hline : lineUp ops = true)
    (e0 : (ops[0]?).map (fun o => (o.op, o.dst, o.guard)) = some (.load 63 (.tmp 4), some 21, none))
    (e1 : (ops[1]?).map (fun o => (o.op, o.dst, o.guard)) = some (.move (.tmp 7), some 22, none))
    (e2 : (ops[2]?).map (fun o => (o.op, o.dst, o.guard)) = some (.move (.tmp 9), some 23, none))
    (e3 : (ops[3]?).map (fun o => (o.op, o.dst, o.guard)) = some (.call { callee := .value (.func 88), args := #[.tmp 22, .tmp 23], argTypes := #[143, 3] }, some 24, none))
    (e3a : (ops[3]?).map (fun o => o.after.any (fun e => Region.binds .any e && e.on == 1) && o.after.any (fun e => Region.binds .any e && e.on == 2)) = some true)
    (elast : (List.range ops.size).all (fun i => decide (i < 4) || ((ops[i]?).map (fun o => o.after.any fun e => Region.binds .any e && decide (3 ≤ e.on))).getD false) = true)
    (hsz : 24 < a0.tmps.size) (h4 : a0.tmps.getD 4 undef = .pointer (some ⟨g, 0, none⟩)) (hcell : w.cell? ⟨g, 0, none⟩ = some (.slice lo fl lcap))
    (h7 : a0.tmps.getD 7 undef = p) (h9 : a0.tmps.getD 9 undef = k)
    (hc : Calls Tryd.prog 88 #[p, k] w.drew fun e w' => e = .panicked chain ∧ S w')
    (hQ : ∀ a' w', (∀ s, s < 21 → a'.tmps.getD s undef = a0.tmps.getD s undef) → a'.defers = a0.defers → S w' → Q (.panic chain) a' w') : (Code.region id ops true).wp Tryd.prog Q a0 w := by
  refine wpIn_wide (n := 5).1 (wpIn_region_inv (by kernel_rfl) hline (fun d a W => W = w.drew ∧ (∀ j, 3 ≤ j → d j = false) ∧ (∀ s, s < 21 → a.tmps.getD s undef = a0.tmps.getD s undef) ∧ a.tmps.size = a0.tmps.size ∧ a.defers = a0.defers ∧ (d 1 = true → a.tmps.getD 22 undef = p) ∧ (d 2 = true → a.tmps.getD 23 undef = k)) ?_ ?_ ?_)
  · exact ⟨rfl, fun _ _ => rfl, fun _ _ => rfl, rfl, rfl, fun h => (by cases h), fun h => (by cases h)⟩
  · intro d d' i o a W hdep hI ho hdi hd'i hdne hready
    obtain ⟨rfl, hd3, hfr, hsz', hdf, hd1, hd2⟩ := hI
    have hi : i = 0 ∨ i = 1 ∨ i = 2 ∨ i = 3 ∨ 4 ≤ i := by omega
    rcases hi with rfl | rfl | rfl | rfl | hi
    · rw [ho] at e0
      obtain ⟨dst, op, type, pos, after, guard⟩ := o
      simp at e0
      obtain ⟨rfl, rfl, rfl⟩ := e0
      unfold wpOpIn
      rw [ho]
      simp only
      rw [if_pos (by simp [Region.wanted])]
      refine ⟨fun f _ => trivial, ?_⟩
      have hrun : (execOp a.eval { dst := some 21, op := .load 63 (.tmp 4), type := type, pos := pos, after := after, guard := none }).run Tryd.prog w.drew = .ok (.value (.slice lo fl lcap)) w.drew := by
        simp [go_sem, Act.eval, hfr 4 (by omega), h4, hcell]
      rw [show Fence.wide.round = none from rfl, Oper.semAt_none]
      rw [hrun]
      exact ⟨rfl, fun j hj => by rw [hdne j (by omega)]; exact hd3 j hj, fun s hs => by rw [getD_put _ _ _ _ (by omega)]; exact hfr s hs, by simp [Act.put, hsz'], hdf, fun h => by rw [getD_put _ _ _ _ (by decide)]; exact hd1 (by rw [← hdne 1 (by decide)]; exact h), fun h => by rw [getD_put _ _ _ _ (by decide)]; exact hd2 (by rw [← hdne 2 (by decide)]; exact h)⟩
    · rw [ho] at e1
      obtain ⟨dst, op, type, pos, after, guard⟩ := o
      simp at e1
      obtain ⟨rfl, rfl, rfl⟩ := e1
      unfold wpOpIn
      rw [ho]
      simp only
      rw [if_pos (by simp [Region.wanted])]
      refine ⟨fun f _ => trivial, ?_⟩
      have hrun : (execOp a.eval { dst := some 22, op := .move (.tmp 7), type := type, pos := pos, after := after, guard := none }).run Tryd.prog w.drew = .ok (.value p) w.drew := by
        simp [go_sem, Act.eval, hfr 7 (by omega), h7]
      rw [show Fence.wide.round = none from rfl, Oper.semAt_none]
      rw [hrun]
      exact ⟨rfl, fun j hj => by rw [hdne j (by omega)]; exact hd3 j hj, fun s hs => by rw [getD_put _ _ _ _ (by omega)]; exact hfr s hs, by simp [Act.put, hsz'], hdf, fun _ => getD_put_same _ _ _ (by omega), fun h => by rw [getD_put _ _ _ _ (by decide)]; exact hd2 (by rw [← hdne 2 (by decide)]; exact h)⟩
    · rw [ho] at e2
      obtain ⟨dst, op, type, pos, after, guard⟩ := o
      simp at e2
      obtain ⟨rfl, rfl, rfl⟩ := e2
      unfold wpOpIn
      rw [ho]
      simp only
      rw [if_pos (by simp [Region.wanted])]
      refine ⟨fun f _ => trivial, ?_⟩
      have hrun : (execOp a.eval { dst := some 23, op := .move (.tmp 9), type := type, pos := pos, after := after, guard := none }).run Tryd.prog w.drew = .ok (.value k) w.drew := by
        simp [go_sem, Act.eval, hfr 9 (by omega), h9]
      rw [show Fence.wide.round = none from rfl, Oper.semAt_none]
      rw [hrun]
      exact ⟨rfl, fun j hj => by rw [hdne j (by omega)]; exact hd3 j hj, fun s hs => by rw [getD_put _ _ _ _ (by omega)]; exact hfr s hs, by simp [Act.put, hsz'], hdf, fun h => by rw [getD_put _ _ _ _ (by decide)]; exact hd1 (by rw [← hdne 1 (by decide)]; exact h), fun _ => getD_put_same _ _ _ (by omega)⟩
    · rw [ho] at e3 e3a
      obtain ⟨dst, op, type, pos, after, guard⟩ := o
      simp at e3 e3a
      obtain ⟨rfl, rfl, rfl⟩ := e3
      obtain ⟨⟨x1, hx1, hb1, ho1⟩, ⟨x2, hx2, hb2, ho2⟩⟩ := e3a
      have t1 := hd1 (by have := hready _ (Array.getElem_mem hx1) hb1; rwa [ho1] at this)
      have t2 := hd2 (by have := hready _ (Array.getElem_mem hx2) hb2; rwa [ho2] at this)
      unfold wpOpIn
      rw [ho]
      simp only
      rw [if_pos (by simp [Region.wanted])]
      refine ⟨fun f _ => trivial, ?_⟩
      have hrun : (execOp a.eval { dst := some 24, op := .call { callee := .value (.func 88), args := #[.tmp 22, .tmp 23], argTypes := #[143, 3] }, type := type, pos := pos, after := after, guard := none }).run Tryd.prog w.drew = .ok (.enter 88 #[p, k]) w.drew := by
        simp [go_sem, Act.eval, t1, t2]
      rw [show Fence.wide.round = none from rfl, Oper.semAt_none]
      rw [hrun]
      refine ⟨fun h => (by cases h), (callsIn_wide.2 hc).mono ?_⟩
      rintro e w' ⟨rfl, hS⟩
      exact hQ a w' hfr hdf hS
    · exfalso
      have hlt : i < ops.size := (Array.getElem?_eq_some_iff.1 ho).1
      have h1 := List.all_eq_true.1 elast i (List.mem_range.2 hlt)
      rw [ho] at h1
      simp [show ¬ i < 4 by omega] at h1
      obtain ⟨x, hx, hb, h3⟩ := h1
      have := hready _ (Array.getElem_mem hx) hb
      rw [hd3 _ h3] at this
      cases this
  · rintro d a W ⟨_, hd3, _⟩ hall
    have hlt : 3 < ops.size := by
      have : ops[3]?.isSome := by
        cases h : ops[3]? with
        | none => rw [h] at e3; simp at e3
        | some o => rfl
      simpa using this
    have := hall 3 hlt
    rw [hd3 3 (Nat.le_refl _)] at this
    cases this

end Go.Proofs.YtgnpjenpehfjbaaDoor
