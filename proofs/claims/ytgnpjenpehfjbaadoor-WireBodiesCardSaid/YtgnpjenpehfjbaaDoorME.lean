/- Wire: the document's Item; Item on both sides (by program: wip/tools/gen_wire6.py).
Wire: packets, rows of items (by program: wip/tools/gen_wire7.py). -/
import Derived.Test.YtgnpjenpehfjbaaDoorMD
import Derived.Test.YtgnpjenpehfjbaaDoorMC
set_option linter.unusedSimpArgs false
set_option linter.unusedVariables false
namespace Go.Proofs.YtgnpjenpehfjbaaDoor
open Go.RowKit

def zx (a : Bool) (b c d : Int) : Bool := !a && (b == 0 && (c == 0 && d == 0))
theorem eq_E (m1 : Bool) (m2 m3 m4 : Int) (W : World) : (binOp .eql 36 (.agg #[.bool m1, .int .i64 m2, .int .i64 m3, .int .i64 m4]) (.agg #[.bool false, .int .i64 0, .int .i64 0, .int .i64 0])).run Tryd.prog W = .ok (.bool (zx m1 m2 m3 m4)) W := by
  rw [run_eql_struct]
  simp [go_sem]
  unfold zx
  by_cases h1 : m1 = false <;> by_cases h2 : m2 = 0 <;> by_cases h3 : m3 = 0 <;> by_cases h4 : m4 = 0 <;> simp_all
theorem eqBb_split (ver writer flow : Int) (hasRest : Bool) (rest : Int) (m1 : Bool) (m2 m3 m4 : Int) (x1 : Bool) (x2 x3 x4 : Int) : eqBb ver writer flow hasRest rest m1 m2 m3 m4 x1 x2 x3 x4 = ((ver == 0 && writer == 0 && flow == 0) && (!hasRest && (rest == 0 && (zx m1 m2 m3 m4 && zx x1 x2 x3 x4)))) := by unfold eqBb zx; simp [Bool.and_assoc]
theorem eqCb_split (ver writer flow : Int) (hasRest : Bool) (rest : Int) : eqCb ver writer flow hasRest rest = ((ver == 0 && writer == 0 && flow == 0) && (!hasRest && rest == 0)) := by unfold eqCb; simp [Bool.and_assoc]
theorem eqDb_split (m1 : Bool) (m2 m3 m4 : Int) (x1 : Bool) (x2 x3 x4 : Int) : eqDb m1 m2 m3 m4 x1 x2 x3 x4 = (zx m1 m2 m3 m4 && zx x1 x2 x3 x4) := by unfold eqDb zx; simp [Bool.and_assoc]

set_option maxRecDepth 100000 in
set_option maxHeartbeats 4000000 in
theorem ritem_main (name : List UInt8) (nm : ByteArray) (epoch maker : Int) (alive : Bool) (kind scale ver writer flow : Int) (hasRest : Bool) (rest : Int) (m1 : Bool) (m2 m3 m4 : Int) (x1 : Bool) (x2 x3 x4 : Int) (w : World)
    (hn : ∀ W, Calls Tryd.prog 20 #[.string nm] W fun e w' => e = .returned (.bool true) ∧ W = w')
    (hw1 : ∀ W, Calls Tryd.prog 31 #[.int .i64 epoch, .int .i64 1, .int .i64 1099511627776] W fun e w' => e = .returned (.bool true) ∧ W = w')
    (hd : ∀ W, Calls Tryd.prog 30 #[.int .i64 maker] W fun e w' => e = .returned (.bool true) ∧ W = w')
    (hw2 : ∀ W, Calls Tryd.prog 31 #[.int .i64 scale, .int .i64 1, .int .i64 1048576] W fun e w' => e = .returned (.bool true) ∧ W = w')
    (k1 : decide (kind < 1) = false) (k4 : decide (4 < kind) = false) :
    Calls Tryd.prog 18 #[.agg #[.string nm, .int .i64 epoch, .int .i64 maker, .bool alive, .int .i64 kind, .int .i64 scale, .int .i64 ver, .int .i64 writer, .int .i64 flow, .bool hasRest, .int .i64 rest, .bool m1, .int .i64 m2, .int .i64 m3, .int .i64 m4, .bool x1, .int .i64 x2, .int .i64 x3, .int .i64 x4]] w fun e w' => e = .returned (.bool (restB ⟨name, epoch, maker, alive, kind, scale, ver, writer, flow, hasRest, rest, ⟨m1, m2, m3, m4⟩, ⟨x1, x2, x3, x4⟩⟩)) ∧ Below w.heap.size w w' := by
  obtain ⟨R, hR⟩ : ∃ R, R = restB ⟨name, epoch, maker, alive, kind, scale, ver, writer, flow, hasRest, rest, ⟨m1, m2, m3, m4⟩, ⟨x1, x2, x3, x4⟩⟩ := ⟨_, rfl⟩
  rw [← hR]
  have HR := Lib.hid hR
  clear hR
  by_cases hA : kind = 4 ∧ scale ≠ 1
  · obtain ⟨rfl, hs⟩ := hA
    have hs' : (scale != 1) = true := by simpa using hs
    have HRB : Hid (R = false) := by show _ = _; rw [HR.out]; exact restB_bad _ rfl hs
    clear hs
    as_aux_lemma =>
    go_enter Tryd.func18, Tryd.ntmps18
    go_wp2_with (first | (with_reducible refine (hn _).mono ?_; rintro e w' ⟨rfl, rfl⟩) | (with_reducible refine (hd _).mono ?_; rintro e w' ⟨rfl, rfl⟩) | (with_reducible refine (hw1 _).mono ?_; rintro e w' ⟨rfl, rfl⟩) | (with_reducible refine (hw2 _).mono ?_; rintro e w' ⟨rfl, rfl⟩))
    go_ret
    have hr := HRB.out
    try simp at hr
    subst hr
    exact ⟨rfl, ((Below.refl _ _).alloc (Nat.le_refl _) _).alloc (by simp) _⟩
  by_cases hk : kind = 4
  · subst hk
    have hs : scale = 1 := by
      rcases Classical.em (scale = 1) with h | h
      · exact h
      · exact absurd ⟨rfl, h⟩ hA
    subst hs
    have HA := Lib.hid hA
    clear hA
    go_enter Tryd.func18, Tryd.ntmps18
    go_upto_region 4 with (first | (with_reducible refine (hn _).mono ?_; rintro e w' ⟨rfl, rfl⟩) | (with_reducible refine (hd _).mono ?_; rintro e w' ⟨rfl, rfl⟩) | (with_reducible refine (hw1 _).mono ?_; rintro e w' ⟨rfl, rfl⟩) | (with_reducible refine (hw2 _).mono ?_; rintro e w' ⟨rfl, rfl⟩))
    clear hn hw1 hd hw2 k1 k4
    cases alive
    · as_aux_lemma =>
      have HRB : Hid (R = ((ver == 0 && writer == 0 && flow == 0) && (!hasRest && (rest == 0 && (zx m1 m2 m3 m4 && zx x1 x2 x3 x4))))) := by show _ = _; rw [HR.out, ← eqBb_split]; exact restB_dead ⟨name, epoch, maker, false, 4, 1, ver, writer, flow, hasRest, rest, ⟨m1, m2, m3, m4⟩, ⟨x1, x2, x3, x4⟩⟩ rfl (by simp)
      have hne := fun W => ne_R ver writer flow W
      have hm := fun W => eq_E m1 m2 m3 m4 W
      have hx := fun W => eq_E x1 x2 x3 x4 W
      generalize (ver == 0 && writer == 0 && flow == 0) = rz at *
      obtain ⟨r0, hr0⟩ : ∃ r, r = (rest == 0) := ⟨_, rfl⟩
      have hr1 : (rest != 0) = !r0 := by rw [hr0]; rfl
      rw [← hr0] at HRB
      replace hr0 := hr0.symm
      generalize zx m1 m2 m3 m4 = mz at *
      generalize zx x1 x2 x3 x4 = xz at *
      cases rz
      · as_aux_lemma =>
        go_wp2
        go_ret
        have hr := HRB.out
        try simp at hr
        subst hr
        exact ⟨rfl, ((Below.refl _ _).alloc (Nat.le_refl _) _).alloc (by simp) _⟩
      cases hasRest
      · cases r0
        · as_aux_lemma =>
          go_wp2
          go_ret
          have hr := HRB.out
          try simp at hr
          subst hr
          exact ⟨rfl, ((Below.refl _ _).alloc (Nat.le_refl _) _).alloc (by simp) _⟩
        cases mz
        · as_aux_lemma =>
          go_wp2
          go_ret
          have hr := HRB.out
          try simp at hr
          subst hr
          exact ⟨rfl, ((Below.refl _ _).alloc (Nat.le_refl _) _).alloc (by simp) _⟩
        · as_aux_lemma =>
          go_wp2
          go_ret
          have hr := HRB.out
          try simp at hr
          subst hr
          exact ⟨rfl, ((Below.refl _ _).alloc (Nat.le_refl _) _).alloc (by simp) _⟩
      · as_aux_lemma =>
        go_wp2
        go_ret
        have hr := HRB.out
        try simp at hr
        subst hr
        exact ⟨rfl, ((Below.refl _ _).alloc (Nat.le_refl _) _).alloc (by simp) _⟩
    · as_aux_lemma =>
      have HRB : Hid (R = (((ver == 0 && writer == 0 && flow == 0) && (!hasRest && rest == 0)) && (extB ⟨m1, m2, m3, m4⟩ && extB ⟨x1, x2, x3, x4⟩))) := by show _ = _; rw [HR.out, ← eqCb_split]; exact restB_ext ⟨name, epoch, maker, true, 4, 1, ver, writer, flow, hasRest, rest, ⟨m1, m2, m3, m4⟩, ⟨x1, x2, x3, x4⟩⟩ rfl rfl rfl
      have hne := fun W => ne_R ver writer flow W
      have hm := fun W => eq_E m1 m2 m3 m4 W
      have hx := fun W => eq_E x1 x2 x3 x4 W
      generalize (ver == 0 && writer == 0 && flow == 0) = rz at *
      obtain ⟨r0, hr0⟩ : ∃ r, r = (rest == 0) := ⟨_, rfl⟩
      have hr1 : (rest != 0) = !r0 := by rw [hr0]; rfl
      rw [← hr0] at HRB
      replace hr0 := hr0.symm
      generalize zx m1 m2 m3 m4 = mz at *
      generalize zx x1 x2 x3 x4 = xz at *
      have hem : ∀ W, Calls Tryd.prog 42 #[.agg #[.bool m1, .int .i64 m2, .int .i64 m3, .int .i64 m4]] W fun e w' => e = .returned (.bool (extB ⟨m1, m2, m3, m4⟩)) ∧ Below W.heap.size W w' := fun W => rext_any ⟨m1, m2, m3, m4⟩ W
      have hex : ∀ W, Calls Tryd.prog 42 #[.agg #[.bool x1, .int .i64 x2, .int .i64 x3, .int .i64 x4]] W fun e w' => e = .returned (.bool (extB ⟨x1, x2, x3, x4⟩)) ∧ Below W.heap.size W w' := fun W => rext_any ⟨x1, x2, x3, x4⟩ W
      generalize extB ⟨m1, m2, m3, m4⟩ = em at *
      generalize extB ⟨x1, x2, x3, x4⟩ = ex at *
      cases rz
      · as_aux_lemma =>
        go_wp2
        go_ret
        have hr := HRB.out
        try simp at hr
        subst hr
        exact ⟨rfl, ((Below.refl _ _).alloc (Nat.le_refl _) _).alloc (by simp) _⟩
      cases hasRest
      · cases r0
        · as_aux_lemma =>
          go_wp2
          go_ret
          have hr := HRB.out
          try simp at hr
          subst hr
          exact ⟨rfl, ((Below.refl _ _).alloc (Nat.le_refl _) _).alloc (by simp) _⟩
        as_aux_lemma =>
        go_wp2_with (fail)
        with_reducible refine (hem _).mono ?_
        rintro e w5 ⟨rfl, hB⟩
        obtain ⟨g0, k0⟩ := new_block w (.cells #[.string nm, .int .i64 epoch, .int .i64 maker, .bool true, .int .i64 4, .int .i64 1, .int .i64 ver, .int .i64 writer, .int .i64 flow, .bool false, .int .i64 rest, .bool m1, .int .i64 m2, .int .i64 m3, .int .i64 m4, .bool x1, .int .i64 x2, .int .i64 x3, .int .i64 x4] 38)
        obtain ⟨g1, -⟩ := new_block (w.alloc (.cells #[.string nm, .int .i64 epoch, .int .i64 maker, .bool true, .int .i64 4, .int .i64 1, .int .i64 ver, .int .i64 writer, .int .i64 flow, .bool false, .int .i64 rest, .bool m1, .int .i64 m2, .int .i64 m3, .int .i64 m4, .bool x1, .int .i64 x2, .int .i64 x3, .int .i64 x4] 38)) (.cells #[.string nm, .int .i64 epoch, .int .i64 maker, .bool true, .int .i64 4, .int .i64 1] 32)
        have KX5 := stays (stays k0 g1) hB
        have L4 := g0.trans (g1.mono g0.size)
        have L5 := Lib.hid (L4.trans (hB.mono L4.size))
        have e15 := cell_of_row _ _ 15 _ _ _ KX5
        have e16 := cell_of_row _ _ 16 _ _ _ KX5
        have e17 := cell_of_row _ _ 17 _ _ _ KX5
        have e18 := cell_of_row _ _ 18 _ _ _ KX5
        clear KX5 g0 g1 k0 hB L4
        cases em
        · go_wp2
          go_ret
          have hr := HRB.out
          try simp at hr
          subst hr
          exact ⟨rfl, L5.out⟩
        go_wp2_with (fail)
        with_reducible refine (hex _).mono ?_
        rintro e w6 ⟨rfl, hB⟩
        have L6 := Lib.hid (L5.out.trans (hB.mono L5.out.size))
        clear hB
        go_wp2
        go_ret
        have hr := HRB.out
        try simp at hr
        subst hr
        exact ⟨rfl, L6.out⟩
      · as_aux_lemma =>
        go_wp2
        go_ret
        have hr := HRB.out
        try simp at hr
        subst hr
        exact ⟨rfl, ((Below.refl _ _).alloc (Nat.le_refl _) _).alloc (by simp) _⟩
  · have hk' : (kind == 4) = false := by simpa using hk
    have hk2 : (kind != 4) = true := by simpa using hk
    have HK := Lib.hid hk
    have HA := Lib.hid hA
    clear hk hA
    go_enter Tryd.func18, Tryd.ntmps18
    go_upto_region 4 with (first | (with_reducible refine (hn _).mono ?_; rintro e w' ⟨rfl, rfl⟩) | (with_reducible refine (hd _).mono ?_; rintro e w' ⟨rfl, rfl⟩) | (with_reducible refine (hw1 _).mono ?_; rintro e w' ⟨rfl, rfl⟩) | (with_reducible refine (hw2 _).mono ?_; rintro e w' ⟨rfl, rfl⟩))
    clear hn hw1 hd hw2 k1 k4
    cases alive
    · as_aux_lemma =>
      have HRB : Hid (R = ((ver == 0 && writer == 0 && flow == 0) && (!hasRest && (rest == 0 && (zx m1 m2 m3 m4 && zx x1 x2 x3 x4))))) := by show _ = _; rw [HR.out, ← eqBb_split]; exact restB_dead ⟨name, epoch, maker, false, kind, scale, ver, writer, flow, hasRest, rest, ⟨m1, m2, m3, m4⟩, ⟨x1, x2, x3, x4⟩⟩ rfl HA.out
      have hne := fun W => ne_R ver writer flow W
      have hm := fun W => eq_E m1 m2 m3 m4 W
      have hx := fun W => eq_E x1 x2 x3 x4 W
      generalize (ver == 0 && writer == 0 && flow == 0) = rz at *
      obtain ⟨r0, hr0⟩ : ∃ r, r = (rest == 0) := ⟨_, rfl⟩
      have hr1 : (rest != 0) = !r0 := by rw [hr0]; rfl
      rw [← hr0] at HRB
      replace hr0 := hr0.symm
      generalize zx m1 m2 m3 m4 = mz at *
      generalize zx x1 x2 x3 x4 = xz at *
      cases rz
      · as_aux_lemma =>
        go_wp2
        go_ret
        have hr := HRB.out
        try simp at hr
        subst hr
        exact ⟨rfl, ((Below.refl _ _).alloc (Nat.le_refl _) _).alloc (by simp) _⟩
      cases hasRest
      · cases r0
        · as_aux_lemma =>
          go_wp2
          go_ret
          have hr := HRB.out
          try simp at hr
          subst hr
          exact ⟨rfl, ((Below.refl _ _).alloc (Nat.le_refl _) _).alloc (by simp) _⟩
        cases mz
        · as_aux_lemma =>
          go_wp2
          go_ret
          have hr := HRB.out
          try simp at hr
          subst hr
          exact ⟨rfl, ((Below.refl _ _).alloc (Nat.le_refl _) _).alloc (by simp) _⟩
        · as_aux_lemma =>
          go_wp2
          go_ret
          have hr := HRB.out
          try simp at hr
          subst hr
          exact ⟨rfl, ((Below.refl _ _).alloc (Nat.le_refl _) _).alloc (by simp) _⟩
      · as_aux_lemma =>
        go_wp2
        go_ret
        have hr := HRB.out
        try simp at hr
        subst hr
        exact ⟨rfl, ((Below.refl _ _).alloc (Nat.le_refl _) _).alloc (by simp) _⟩
    · as_aux_lemma =>
      have HRB : Hid (R = (((ver == 0 && writer == 0 && flow == 0) || (inB ver 1 1099511627776 && (nodeB writer && flowB flow))) && (flowB rest && ((hasRest || rest == 0) && (zx m1 m2 m3 m4 && zx x1 x2 x3 x4))))) := by show _ = _; rw [HR.out, ← eqDb_split]; exact restB_flow ⟨name, epoch, maker, true, kind, scale, ver, writer, flow, hasRest, rest, ⟨m1, m2, m3, m4⟩, ⟨x1, x2, x3, x4⟩⟩ rfl HK.out
      have hne := fun W => ne_R ver writer flow W
      have hm := fun W => eq_E m1 m2 m3 m4 W
      have hx := fun W => eq_E x1 x2 x3 x4 W
      generalize (ver == 0 && writer == 0 && flow == 0) = rz at *
      obtain ⟨r0, hr0⟩ : ∃ r, r = (rest == 0) := ⟨_, rfl⟩
      have hr1 : (rest != 0) = !r0 := by rw [hr0]; rfl
      rw [← hr0] at HRB
      replace hr0 := hr0.symm
      generalize zx m1 m2 m3 m4 = mz at *
      generalize zx x1 x2 x3 x4 = xz at *
      have hfr := fun W => rflow_any rest W
      generalize flowB rest = fr at *
      cases rz
      · have hv := fun W => rwithin_any ver 1 1099511627776 W
        have hnw := fun W => rnode_any writer W
        have hfl := fun W => rflow_any flow W
        generalize inB ver 1 1099511627776 = bv at *
        generalize nodeB writer = bw at *
        generalize flowB flow = bf at *
        cases bv
        · as_aux_lemma =>
          go_wp2_with (first | (with_reducible refine (hv _).mono ?_; rintro e w' ⟨rfl, rfl⟩))
          go_ret
          have hr := HRB.out
          try simp at hr
          subst hr
          exact ⟨rfl, (((Below.refl _ _).alloc (Nat.le_refl _) _).alloc (by simp) _).alloc (by simp; omega) _⟩
        cases bw
        · as_aux_lemma =>
          go_wp2_with (first | (with_reducible refine (hv _).mono ?_; rintro e w' ⟨rfl, rfl⟩) | (with_reducible refine (hnw _).mono ?_; rintro e w' ⟨rfl, rfl⟩))
          go_ret
          have hr := HRB.out
          try simp at hr
          subst hr
          exact ⟨rfl, (((Below.refl _ _).alloc (Nat.le_refl _) _).alloc (by simp) _).alloc (by simp; omega) _⟩
        cases bf
        · as_aux_lemma =>
          go_wp2_with (first | (with_reducible refine (hv _).mono ?_; rintro e w' ⟨rfl, rfl⟩) | (with_reducible refine (hnw _).mono ?_; rintro e w' ⟨rfl, rfl⟩) | (with_reducible refine (hfl _).mono ?_; rintro e w' ⟨rfl, rfl⟩))
          go_ret
          have hr := HRB.out
          try simp at hr
          subst hr
          exact ⟨rfl, (((Below.refl _ _).alloc (Nat.le_refl _) _).alloc (by simp) _).alloc (by simp; omega) _⟩
        cases fr
        · as_aux_lemma =>
          go_wp2_with (first | (with_reducible refine (hv _).mono ?_; rintro e w' ⟨rfl, rfl⟩) | (with_reducible refine (hnw _).mono ?_; rintro e w' ⟨rfl, rfl⟩) | (with_reducible refine (hfl _).mono ?_; rintro e w' ⟨rfl, rfl⟩) | (with_reducible refine (hfr _).mono ?_; rintro e w' ⟨rfl, rfl⟩))
          go_ret
          have hr := HRB.out
          try simp at hr
          subst hr
          exact ⟨rfl, (((Below.refl _ _).alloc (Nat.le_refl _) _).alloc (by simp) _).alloc (by simp; omega) _⟩
        cases hasRest
        · cases r0
          · as_aux_lemma =>
            go_wp2_with (first | (with_reducible refine (hv _).mono ?_; rintro e w' ⟨rfl, rfl⟩) | (with_reducible refine (hnw _).mono ?_; rintro e w' ⟨rfl, rfl⟩) | (with_reducible refine (hfl _).mono ?_; rintro e w' ⟨rfl, rfl⟩) | (with_reducible refine (hfr _).mono ?_; rintro e w' ⟨rfl, rfl⟩))
            go_ret
            have hr := HRB.out
            try simp at hr
            subst hr
            exact ⟨rfl, (((Below.refl _ _).alloc (Nat.le_refl _) _).alloc (by simp) _).alloc (by simp; omega) _⟩
          cases mz
          · as_aux_lemma =>
            go_wp2_with (first | (with_reducible refine (hv _).mono ?_; rintro e w' ⟨rfl, rfl⟩) | (with_reducible refine (hnw _).mono ?_; rintro e w' ⟨rfl, rfl⟩) | (with_reducible refine (hfl _).mono ?_; rintro e w' ⟨rfl, rfl⟩) | (with_reducible refine (hfr _).mono ?_; rintro e w' ⟨rfl, rfl⟩))
            go_ret
            have hr := HRB.out
            try simp at hr
            subst hr
            exact ⟨rfl, (((Below.refl _ _).alloc (Nat.le_refl _) _).alloc (by simp) _).alloc (by simp; omega) _⟩
          · as_aux_lemma =>
            go_wp2_with (first | (with_reducible refine (hv _).mono ?_; rintro e w' ⟨rfl, rfl⟩) | (with_reducible refine (hnw _).mono ?_; rintro e w' ⟨rfl, rfl⟩) | (with_reducible refine (hfl _).mono ?_; rintro e w' ⟨rfl, rfl⟩) | (with_reducible refine (hfr _).mono ?_; rintro e w' ⟨rfl, rfl⟩))
            go_ret
            have hr := HRB.out
            try simp at hr
            subst hr
            exact ⟨rfl, (((Below.refl _ _).alloc (Nat.le_refl _) _).alloc (by simp) _).alloc (by simp; omega) _⟩
        · cases mz
          · as_aux_lemma =>
            go_wp2_with (first | (with_reducible refine (hv _).mono ?_; rintro e w' ⟨rfl, rfl⟩) | (with_reducible refine (hnw _).mono ?_; rintro e w' ⟨rfl, rfl⟩) | (with_reducible refine (hfl _).mono ?_; rintro e w' ⟨rfl, rfl⟩) | (with_reducible refine (hfr _).mono ?_; rintro e w' ⟨rfl, rfl⟩))
            go_ret
            have hr := HRB.out
            try simp at hr
            subst hr
            exact ⟨rfl, (((Below.refl _ _).alloc (Nat.le_refl _) _).alloc (by simp) _).alloc (by simp; omega) _⟩
          · as_aux_lemma =>
            go_wp2_with (first | (with_reducible refine (hv _).mono ?_; rintro e w' ⟨rfl, rfl⟩) | (with_reducible refine (hnw _).mono ?_; rintro e w' ⟨rfl, rfl⟩) | (with_reducible refine (hfl _).mono ?_; rintro e w' ⟨rfl, rfl⟩) | (with_reducible refine (hfr _).mono ?_; rintro e w' ⟨rfl, rfl⟩))
            go_ret
            have hr := HRB.out
            try simp at hr
            subst hr
            exact ⟨rfl, (((Below.refl _ _).alloc (Nat.le_refl _) _).alloc (by simp) _).alloc (by simp; omega) _⟩
      · cases fr
        · as_aux_lemma =>
          go_wp2_with (first | (with_reducible refine (hfr _).mono ?_; rintro e w' ⟨rfl, rfl⟩))
          go_ret
          have hr := HRB.out
          try simp at hr
          subst hr
          exact ⟨rfl, (((Below.refl _ _).alloc (Nat.le_refl _) _).alloc (by simp) _).alloc (by simp; omega) _⟩
        cases hasRest
        · cases r0
          · as_aux_lemma =>
            go_wp2_with (first | (with_reducible refine (hfr _).mono ?_; rintro e w' ⟨rfl, rfl⟩))
            go_ret
            have hr := HRB.out
            try simp at hr
            subst hr
            exact ⟨rfl, (((Below.refl _ _).alloc (Nat.le_refl _) _).alloc (by simp) _).alloc (by simp; omega) _⟩
          cases mz
          · as_aux_lemma =>
            go_wp2_with (first | (with_reducible refine (hfr _).mono ?_; rintro e w' ⟨rfl, rfl⟩))
            go_ret
            have hr := HRB.out
            try simp at hr
            subst hr
            exact ⟨rfl, (((Below.refl _ _).alloc (Nat.le_refl _) _).alloc (by simp) _).alloc (by simp; omega) _⟩
          · as_aux_lemma =>
            go_wp2_with (first | (with_reducible refine (hfr _).mono ?_; rintro e w' ⟨rfl, rfl⟩))
            go_ret
            have hr := HRB.out
            try simp at hr
            subst hr
            exact ⟨rfl, (((Below.refl _ _).alloc (Nat.le_refl _) _).alloc (by simp) _).alloc (by simp; omega) _⟩
        · cases mz
          · as_aux_lemma =>
            go_wp2_with (first | (with_reducible refine (hfr _).mono ?_; rintro e w' ⟨rfl, rfl⟩))
            go_ret
            have hr := HRB.out
            try simp at hr
            subst hr
            exact ⟨rfl, (((Below.refl _ _).alloc (Nat.le_refl _) _).alloc (by simp) _).alloc (by simp; omega) _⟩
          · as_aux_lemma =>
            go_wp2_with (first | (with_reducible refine (hfr _).mono ?_; rintro e w' ⟨rfl, rfl⟩))
            go_ret
            have hr := HRB.out
            try simp at hr
            subst hr
            exact ⟨rfl, (((Below.refl _ _).alloc (Nat.le_refl _) _).alloc (by simp) _).alloc (by simp; omega) _⟩

theorem item_any (x : Itm) (w : World) (hl : x.name.length ≤ 9223372036854775807) : Calls Tryd.prog 17 #[.agg x.cells.toArray] w fun e w' => e = .returned (.bool (fitI x)) ∧ Below w.heap.size w w' := by
  cases hp : preB x with
  | false =>
    have : fitI x = false := by unfold fitI; rw [hp]; rfl
    rw [this]
    exact item_pre x w hl hp
  | true =>
    have : fitI x = restB x := by unfold fitI; rw [hp]; rfl
    rw [this]
    obtain ⟨name, epoch, maker, alive, kind, scale, ver, writer, flow, hasRest, rest, ⟨m1, m2, m3, m4⟩, ⟨x1, x2, x3, x4⟩⟩ := x
    unfold preB at hp
    simp only [Bool.and_eq_true] at hp
    obtain ⟨h1, h2, h3, h4, h5, h6⟩ := hp
    refine item_main name ⟨name.toArray⟩ epoch maker alive kind scale ver writer flow hasRest rest m1 m2 m3 m4 x1 x2 x3 x4 w (fun W => ?_) (fun W => ?_) (fun W => ?_) (fun W => ?_) (by have : 1 ≤ kind := of_decide_eq_true h4; simp; omega) (by have : kind ≤ 4 := of_decide_eq_true h5; simp; omega)
    · have := name_any name W hl; rw [h1] at this; exact this
    · have := within_any epoch 1 1099511627776 W; rw [h2] at this; exact this
    · have := node_any maker W; rw [h3] at this; exact this
    · have := within_any scale 1 1048576 W; rw [h6] at this; exact this

theorem ritem_any (x : Itm) (w : World) (hl : x.name.length ≤ 9223372036854775807) : Calls Tryd.prog 18 #[.agg x.cells.toArray] w fun e w' => e = .returned (.bool (fitI x)) ∧ Below w.heap.size w w' := by
  cases hp : preB x with
  | false =>
    have : fitI x = false := by unfold fitI; rw [hp]; rfl
    rw [this]
    exact ritem_pre x w hl hp
  | true =>
    have : fitI x = restB x := by unfold fitI; rw [hp]; rfl
    rw [this]
    obtain ⟨name, epoch, maker, alive, kind, scale, ver, writer, flow, hasRest, rest, ⟨m1, m2, m3, m4⟩, ⟨x1, x2, x3, x4⟩⟩ := x
    unfold preB at hp
    simp only [Bool.and_eq_true] at hp
    obtain ⟨h1, h2, h3, h4, h5, h6⟩ := hp
    refine ritem_main name ⟨name.toArray⟩ epoch maker alive kind scale ver writer flow hasRest rest m1 m2 m3 m4 x1 x2 x3 x4 w (fun W => ?_) (fun W => ?_) (fun W => ?_) (fun W => ?_) (by have : 1 ≤ kind := of_decide_eq_true h4; simp; omega) (by have : kind ≤ 4 := of_decide_eq_true h5; simp; omega)
    · have := rname_any name W hl; rw [h1] at this; exact this
    · have := rwithin_any epoch 1 1099511627776 W; rw [h2] at this; exact this
    · have := rnode_any maker W; rw [h3] at this; exact this
    · have := rwithin_any scale 1 1048576 W; rw [h6] at this; exact this

end Go.Proofs.YtgnpjenpehfjbaaDoor

namespace Go.Proofs.YtgnpjenpehfjbaaDoor
open Go.RowKit

structure Pkt where
  kind : Int
  frm : Int
  to : Int
  boot : Int
  life : Int
  echo : Int
  elife : Int
  items : List Itm
abbrev Pkt.cells (p : Pkt) (v : Value) : List Value := [.int .i64 p.kind, .int .i64 p.frm, .int .i64 p.to, .int .i64 p.boot, .int .i64 p.life, .int .i64 p.echo, .int .i64 p.elife, v]
/-- a slice that reads as items, all of it below block B -/
def Ims (w : World) (B : Nat) (v : Value) (xs : List Itm) : Prop :=
  ∃ ao cap, v = .slice ao xs.length cap ∧ xs.length ≤ cap ∧ xs.length ≤ maxLen ∧ (xs ≠ [] → ∃ b off, ao = some ⟨b, off, none⟩ ∧ b < B ∧ ∀ i x, xs[i]? = some x → w.rangeAt b (off + i * 19) x.cells)
theorem Ims.below {w w' : World} {B B' : Nat} {v : Value} {xs : List Itm} (h : Ims w B v xs) (hb : Below B w w') (hB : B ≤ B') : Ims w' B' v xs := by
  obtain ⟨ao, cap, h1, h2, h3, h4⟩ := h
  refine ⟨ao, cap, h1, h2, h3, fun hne => ?_⟩
  obtain ⟨b, off, h5, h6, h7⟩ := h4 hne
  refine ⟨b, off, h5, by omega, fun i x hx j u hu => ?_⟩
  rw [hb.cell (p := ⟨b, off + i * 19 + j, none⟩) h6]
  exact h7 i x hx j u hu
theorem Ims.kept {w w' : World} {v : Value} {xs : List Itm} (h : Ims w w.heap.size v xs) (hb : Below w.heap.size w w') : Ims w' w'.heap.size v xs := h.below hb hb.size
theorem Ims.nil (w : World) (B : Nat) : Ims w B (.slice none 0 0) [] := ⟨none, 0, rfl, by simp, by simp, fun h => absurd rfl h⟩
theorem Ims.slice {w : World} {B : Nat} {v : Value} {xs : List Itm} (h : Ims w B v xs) : ∃ ao cap, v = .slice ao xs.length cap ∧ xs.length ≤ cap ∧ xs.length ≤ maxLen := by
  obtain ⟨ao, cap, h1, h2, h3, -⟩ := h
  exact ⟨ao, cap, h1, h2, h3⟩
/-- the k-th item's cells -/
theorem Ims.at {w : World} {B n cap : Nat} {ao : Option Addr} {xs : List Itm} (h : Ims w B (.slice ao n cap) xs) (k : Nat) (hk : k < xs.length) : ∃ b off, ao = some ⟨b, off, none⟩ ∧ b < B ∧ ∀ i x, xs[i]? = some x → w.rangeAt b (off + i * 19) x.cells := by
  obtain ⟨ao', cap', h1, -, -, h4⟩ := h
  cases h1
  exact h4 (by intro e; subst e; simp at hk)
def nilI : Itm := ⟨[], 0, 0, false, 0, 0, 0, 0, 0, false, 0, zeroX, zeroX⟩
def ltN (a b : List UInt8) : Bool := Op.bytesLess (⟨a.toArray⟩ : ByteArray).toList (⟨b.toArray⟩ : ByteArray).toList
def goodAt (xs : List Itm) (k : Nat) : Bool := fitI (xs.getD k nilI) && (k == 0 || ltN (xs.getD (k - 1) nilI).name (xs.getD k nilI).name)
def itemsB (xs : List Itm) : Bool := (List.range xs.length).all (goodAt xs)
theorem itemsB_t {xs : List Itm} (h : ∀ j, j < xs.length → goodAt xs j = true) : itemsB xs = true := by
  unfold itemsB
  rw [List.all_eq_true]
  intro j hj
  exact h j (List.mem_range.1 hj)
theorem itemsB_f {xs : List Itm} (k : Nat) (hk : k < xs.length) (h : goodAt xs k = false) : itemsB xs = false := by
  unfold itemsB
  rw [List.all_eq_false]
  exact ⟨k, List.mem_range.2 hk, by rw [h]; simp⟩
def hdrB (p : Pkt) : Bool := decide (1 ≤ p.kind) && (decide (p.kind ≤ 5) && (nodeB p.frm && (nodeB p.to && (!(p.frm == p.to) && (inB p.boot 1 1099511627776 && inB p.life 0 1099511627776)))))
def echoB (p : Pkt) : Bool := if p.kind = 1 then p.echo == 0 && p.elife == 0 else inB p.echo 1 1099511627776 && inB p.elife 0 1099511627776
def tailP (p : Pkt) : Bool := if p.kind = 3 ∨ p.kind = 4 then itemsB p.items && decide (p.items.length ≤ 8) else p.items.length == 0
def fitP (p : Pkt) : Bool := hdrB p && (echoB p && tailP p)
theorem getD_some {xs : List Itm} {k : Nat} (h : k < xs.length) : xs[k]? = some (xs.getD k nilI) := by
  rw [List.getD_eq_getElem?_getD, List.getElem?_eq_getElem h]; rfl
/-- a struct out of the midst of a block, as an operation's run -/
theorem exec_load_mid {P : Program} {o : Oper} {a : Act} {W : World} (ty : TypeId) (x : Operand) (ho : o.op = .load ty x) (b off : Nat) (cs : List Value) (d : TypeDesc) (hx : a.eval x = .pointer (some ⟨b, off, none⟩)) (hr : W.rangeAt b off cs) (hu : P.underlying ty = some d) (hd : d.isRow = true) (hi : (P.info? ty).map (·.size) = some cs.length) :
    (execOp a.eval o).run P W = .ok (.value (.agg cs.toArray)) W := by
  unfold execOp
  simp only [ho, hx, Instr.loadAt, Instr.sureAddr, Sem.run_bind, Sem.run_pure, Result.andThen_ok, run_loadVar_mid W b off ty cs d hr hu hd hi]
theorem exec_geq_str {P : Program} {o : Oper} {a : Act} {W : World} (ty : TypeId) (x y : Operand) (ty' : TypeId) (ho : o.op = .binOp .geq ty x y ty') (s t : ByteArray) (hx : a.eval x = .string s) (hy : a.eval y = .string t) (b : Bool) (hb : Op.bytesLess s.toList t.toList = b) :
    (execOp a.eval o).run P W = .ok (.value (.bool (!b))) W := by
  subst hb
  unfold execOp
  simp only [ho, hx, hy, binOp_string_geq]
  simp [eqGuard]

end Go.Proofs.YtgnpjenpehfjbaaDoor

