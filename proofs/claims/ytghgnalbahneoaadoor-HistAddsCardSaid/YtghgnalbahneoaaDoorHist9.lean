/- Histograms: the iterator of buckets. -/
import Derived.Test.YtghgnalbahneoaaDoorHist8
import Derived.Test.YtghgnalbahneoaaDoorRange
import Derived.RangeFuncBox
namespace Go.Proofs.YtghgnalbahneoaaDoor
open Go.RowKit

attribute [local go_sem] Oper.semAt_some

theorem buckets_calls (vb vc : Value) (w : World) : Calls Tryd.prog 38 #[hiV vb vc] w fun e w' => e = .returned (.func (.func 62) #[] #[.pointer (some ⟨w.heap.size, 0, none⟩)]) ∧ w.alloc (.cells #[vb, vc] 24) = w' := by
  go_enter Tryd.func38, Tryd.ntmps38
  go_wp2
  go_ret
  exact ⟨rfl, by trivial⟩

/-- the range of bucket k -/
def rgV (hl : Bool) (l : Int) (hh : Bool) (h : Int) : Value := .agg #[.bool hl, .int .i64 l, .bool hh, .int .i64 h]
def rgK (bs : List Int) (k : Nat) : Value := rgV (decide (0 < k)) (if 0 < k then bs.getD (k - 1) 0 else 0) (decide (k < bs.length)) (if k < bs.length then bs.getD k 0 else 0)
def encB (bs cs : List Int) (k : Nat) : Array Value := #[rgK bs k, .int .i64 (cs.getD k 0)]
def InvB (bx : Nat) (vb vc : Value) (bs cs : List Int) (W : World) : Prop := W.heap[bx]? = some (hiO vb vc) ∧ Its W W.heap.size vb bs ∧ Its W W.heap.size vc cs

set_option maxRecDepth 100000 in
set_option maxHeartbeats 4000000 in
theorem buckets1_iter (bx : Nat) (vb vc : Value) (bs cs : List Int) (hlen : cs.length = bs.length + 1) (hb1 : bs.length ≤ 1000) (m : Nat) :
    Iterates Fence.wide m Tryd.prog 62 #[.pointer (some ⟨bx, 0, none⟩)] (encB bs cs) (InvB bx vb vc bs cs) (fun pre k _ => pre = List.range k ∧ k < cs.length) (fun xs => xs = List.range cs.length) (fun pre => ∃ k, k < cs.length ∧ pre = List.range (k + 1)) := by
  intro yl J Jx W hJ hInv hY h0
  have HJ := Lib.hid hJ
  have HY := Lib.hid hY
  have HV := Lib.hid hInv
  obtain ⟨hbx, hIb, hIc⟩ := hInv _ _ h0
  clear hJ hY hInv
  obtain ⟨ab, capb, rfl, -⟩ := hIb.slice
  obtain ⟨ac, capc, rfl, -⟩ := hIc.slice
  obtain ⟨nb, hnb⟩ : ∃ n, n = bs.length := ⟨_, rfl⟩
  obtain ⟨nc, hnc⟩ : ∃ n, n = cs.length := ⟨_, rfl⟩
  rw [← hnb, ← hnc] at hbx HV hlen
  rw [← hnb] at hb1
  have NB := Lib.hid hnb
  have NC := Lib.hid hnc
  clear hIb hIc hnb hnc
  subst hlen
  have c1 := hiO_1 hbx
  refine callsIn_of_wp Tryd.func62 rfl trivial ?_ rfl
  simp only [Tryd.ntmps62, List.size_toArray, List.length_cons, List.length_nil, Nat.reduceAdd, Nat.reduceSub, Array.replicate_succ, Array.replicate_zero, List.push_toArray, List.append_toArray, List.nil_append, List.cons_append]
  gi_wp2
  clear c1 hbx
  gi_loopw [9] (fun i wr => ∃ k : Nat, k ≤ nb + 1 ∧ i = .int .i64 (k : Int) ∧ Hid (J (List.range k) wr)) (fun i _ => nb + 1 - (intOf i).toNat)
  case atStart => exact ⟨0, Nat.zero_le _, rfl, h0⟩
  case round =>
    obtain ⟨k, hk, rfl, HI⟩ := hrel
    have hV := HV.out _ _ HI.out
    have HB := Lib.hid hV.1
    have HIb := Lib.hid hV.2.1
    have HIc := Lib.hid hV.2.2
    clear hV
    have a0 := hiO_0 HB.out
    have a1 := hiO_1 HB.out
    by_cases hlt : k < nb + 1
    · obtain ⟨c, hc⟩ : ∃ c, c = cs.getD k 0 := ⟨_, rfl⟩
      obtain ⟨bc, oc, hac, e1⟩ : ∃ b off, ac = some ⟨b, off, none⟩ ∧ wr.cell? ⟨b, off + k, none⟩ = some (.int .i64 c) := by
        rcases HIc.out.form with ⟨h0, -⟩ | ⟨hpos, b, off, cap', he, -, -, hb, hcc⟩
        · exfalso; rw [h0] at NC; have := NC.out; simp at this
        · exact ⟨b, off, (Value.slice.inj he).1, by rw [hc]; exact hcc k (by have := NC.out; omega)⟩
      subst hac
      have HC := Lib.hid hc
      clear hc
      obtain ⟨lo, hlo⟩ : ∃ c, c = (if 0 < k then bs.getD (k - 1) 0 else 0) := ⟨_, rfl⟩
      obtain ⟨hi, hhi⟩ : ∃ c, c = (if k < nb then bs.getD k 0 else 0) := ⟨_, rfl⟩
      have HE : Hid (encB bs cs k = #[rgV (decide (0 < k)) lo (decide (k < nb)) hi, .int .i64 c]) := by
        show _ = _
        unfold encB rgK
        rw [hlo, hhi, HC.out, NB.out]
      have hin : 0 < nb → ∃ b off, ab = some ⟨b, off, none⟩ ∧ b < wr.heap.size ∧ ∀ i, i < nb → wr.cell? ⟨b, off + i, none⟩ = some (.int .i64 (bs.getD i 0)) := by
        intro hp
        rcases HIb.out.form with ⟨h0, -⟩ | ⟨hpos, b, off, cap', he, -, -, hb, hcc⟩
        · exfalso; rw [h0] at NB; have := NB.out; simp at this; omega
        · exact ⟨b, off, (Value.slice.inj he).1, hb, fun i hi => hcc i (by have := NB.out; omega)⟩
      have HIN := Lib.hid hin
      have hkn : 0 ≤ (k : Int) ∧ (k : Int) < ((nb + 1 : Nat) : Int) := by omega
      clear hin
      by_cases h0k : 0 < k
      · by_cases h1k : k < nb
        · have hd0 : decide (0 < k) = true := decide_eq_true h0k
          have hd1 : decide (k < nb) = true := decide_eq_true h1k
          rw [hd0, hd1] at HE
          rw [if_pos h0k] at hlo
          rw [if_pos h1k] at hhi
          obtain ⟨bb, ob, hab, hbb, hcell⟩ := HIN.out (by omega)
          subst hab
          obtain ⟨j, rfl⟩ : ∃ j, k = j + 1 := ⟨k - 1, by omega⟩
          rw [Nat.add_sub_cancel] at hlo
          have el := hcell j (by omega)
          rw [← hlo] at el
          have eh := hcell (j + 1) (by omega)
          rw [← hhi] at eh
          have HBB := Lib.hid hbb
          clear hcell
          clear hd0 hd1 hlo hhi
          have q0 : ∀ o, (wr.alloc o).cell? ⟨bx, 0, none⟩ = some (.slice (some ⟨bb, ob, none⟩) nb capb) := fun o => hiO_0 (stays HB.out (bel_alloc (Below.refl _ _) (Nat.le_refl _)))
          have el1 : ∀ o, (wr.alloc o).cell? ⟨bb, ob + j, none⟩ = some (.int .i64 lo) := fun o => ((bel_alloc (Below.refl _ _) (Nat.le_refl _)).cell (p := ⟨bb, ob + j, none⟩) HBB.out).trans el
          have EH := Lib.hid eh
          clear eh el
          gi_wp2
          gi_region
          obtain ⟨W1, hW1⟩ : ∃ W1, W1 = (wr.alloc (.cells #[.bool true, .int .i64 lo, .bool false, .int .i64 0] 28)).drew := ⟨_, rfl⟩
          rw [← hW1]
          have G1 : Hid (Below wr.heap.size wr W1) := by rw [hW1]; exact (bel_alloc (Below.refl _ _) (Nat.le_refl _)).drew
          have R1 : Hid (W1.heap[wr.heap.size]? = some (.cells #[.bool true, .int .i64 lo, .bool false, .int .i64 0] 28 (0, 0))) := by rw [hW1]; exact heap_alloc_new wr _
          clear hW1 q0 el1
          have r0 : W1.cell? ⟨wr.heap.size, 0, none⟩ = some (.bool true) := cell_of_row _ _ 0 _ _ _ R1.out
          have r1 : W1.cell? ⟨wr.heap.size, 1, none⟩ = some (.int .i64 lo) := cell_of_row _ _ 1 _ _ _ R1.out
          have r2 : W1.cell? ⟨wr.heap.size, 2, none⟩ = some (.bool false) := cell_of_row _ _ 2 _ _ _ R1.out
          have r3 : W1.cell? ⟨wr.heap.size, 3, none⟩ = some (.int .i64 0) := cell_of_row _ _ 3 _ _ _ R1.out
          have z0 : W1.frozen? ⟨wr.heap.size, 0, none⟩ = false := frozen_of_row _ _ 0 _ _ R1.out
          have z1 : W1.frozen? ⟨wr.heap.size, 1, none⟩ = false := frozen_of_row _ _ 1 _ _ R1.out
          have z2 : W1.frozen? ⟨wr.heap.size, 2, none⟩ = false := frozen_of_row _ _ 2 _ _ R1.out
          have z3 : W1.frozen? ⟨wr.heap.size, 3, none⟩ = false := frozen_of_row _ _ 3 _ _ R1.out
          have q0 : W1.cell? ⟨bx, 0, none⟩ = some (.slice (some ⟨bb, ob, none⟩) nb capb) := hiO_0 (stays HB.out G1.out)
          have eh1 : W1.cell? ⟨bb, ob + (j + 1), none⟩ = some (.int .i64 hi) := (G1.out.cell (p := ⟨bb, ob + (j + 1), none⟩) HBB.out).trans EH.out
          have hbx := (Array.getElem?_eq_some_iff.1 HB.out).1
          have hn1 : bx ≠ wr.heap.size := by omega
          have hn2 : bb ≠ wr.heap.size := by omega
          gi_wp2
          gi_region
          obtain ⟨W2, hW2⟩ : ∃ W2, W2 = ((W1.setCell ⟨wr.heap.size, 2, none⟩ (.bool true)).setCell ⟨wr.heap.size, 3, none⟩ (.int .i64 hi)).drew := ⟨_, rfl⟩
          rw [← hW2]
          have G2 : Hid (Below wr.heap.size wr W2) := by rw [hW2]; exact (bel_set (Nat.le_refl _) (bel_set (Nat.le_refl _) G1.out)).drew
          have h1 := heap_setCell_same W1 wr.heap.size 2 _ _ (.bool true) R1.out
          have h2 := heap_setCell_same _ wr.heap.size 3 _ _ (.int .i64 hi) h1
          have R2 : Hid (W2.heap[wr.heap.size]? = some (.cells #[.bool true, .int .i64 lo, .bool true, .int .i64 hi] 28 (0, 0))) := by rw [hW2]; exact h2
          clear hW2 h1 h2 eh1 q0 r0 r1 r2 r3 z0 z1 z2 z3
          have r0 : W2.cell? ⟨wr.heap.size, 0, none⟩ = some (.bool true) := cell_of_row _ _ 0 _ _ _ R2.out
          have r1 : W2.cell? ⟨wr.heap.size, 1, none⟩ = some (.int .i64 lo) := cell_of_row _ _ 1 _ _ _ R2.out
          have r2 : W2.cell? ⟨wr.heap.size, 2, none⟩ = some (.bool true) := cell_of_row _ _ 2 _ _ _ R2.out
          have r3 : W2.cell? ⟨wr.heap.size, 3, none⟩ = some (.int .i64 hi) := cell_of_row _ _ 3 _ _ _ R2.out
          have z0 : W2.frozen? ⟨wr.heap.size, 0, none⟩ = false := frozen_of_row _ _ 0 _ _ R2.out
          have z1 : W2.frozen? ⟨wr.heap.size, 1, none⟩ = false := frozen_of_row _ _ 1 _ _ R2.out
          have z2 : W2.frozen? ⟨wr.heap.size, 2, none⟩ = false := frozen_of_row _ _ 2 _ _ R2.out
          have z3 : W2.frozen? ⟨wr.heap.size, 3, none⟩ = false := frozen_of_row _ _ 3 _ _ R2.out
          have hJ1 := HJ.out _ _ _ HI.out G2.out
          obtain ⟨fn, tmps, assign, body, hy, hR⟩ := HY.out (List.range (j + 1)) (j + 1) _ hJ1 ⟨rfl, by have := NC.out; omega⟩
          rw [HE.out] at hy
          simp only [rgV] at hy
          gi_wp2
          refine ⟨wide_room _, ?_⟩
          refine hR.mono ?_
          rintro e w2 (⟨rfl, hJ2⟩ | ⟨rfl, hJ2⟩)
          · have HJ2 := Lib.hid hJ2
            clear hJ2 hR hy
            gi_wp2
            go_roundw
            case rel => exact ⟨j + 1 + 1, by omega, by go_num, by show J _ _; rw [List.range_succ]; exact HJ2.out⟩
            case measure => simp [intOf] <;> omega
          · have HJ2 := Lib.hid hJ2
            clear hJ2 hR hy
            gi_wp2
            refine bodyPost_ret (results_none rfl _ _ _) rfl ⟨⟨.tuple #[], rfl⟩, .inr ⟨_, ⟨(j + 1), by have := NC.out; omega, rfl⟩, ?_⟩⟩
            rw [List.range_succ]; exact HJ2.out
        · have hd0 : decide (0 < k) = true := decide_eq_true h0k
          have hd1 : decide (k < nb) = false := decide_eq_false h1k
          rw [hd0, hd1] at HE
          rw [if_pos h0k] at hlo
          rw [if_neg h1k] at hhi
          obtain ⟨bb, ob, hab, hbb, hcell⟩ := HIN.out (by omega)
          subst hab
          obtain ⟨j, rfl⟩ : ∃ j, k = j + 1 := ⟨k - 1, by omega⟩
          rw [Nat.add_sub_cancel] at hlo
          have el := hcell j (by omega)
          rw [← hlo] at el
          subst hhi
          have HBB := Lib.hid hbb
          clear hcell
          clear hd0 hd1 hlo
          have q0 : ∀ o, (wr.alloc o).cell? ⟨bx, 0, none⟩ = some (.slice (some ⟨bb, ob, none⟩) nb capb) := fun o => hiO_0 (stays HB.out (bel_alloc (Below.refl _ _) (Nat.le_refl _)))
          have el1 : ∀ o, (wr.alloc o).cell? ⟨bb, ob + j, none⟩ = some (.int .i64 lo) := fun o => ((bel_alloc (Below.refl _ _) (Nat.le_refl _)).cell (p := ⟨bb, ob + j, none⟩) HBB.out).trans el
          gi_wp2
          gi_region
          obtain ⟨W1, hW1⟩ : ∃ W1, W1 = (wr.alloc (.cells #[.bool true, .int .i64 lo, .bool false, .int .i64 0] 28)).drew := ⟨_, rfl⟩
          rw [← hW1]
          have G1 : Hid (Below wr.heap.size wr W1) := by rw [hW1]; exact (bel_alloc (Below.refl _ _) (Nat.le_refl _)).drew
          have R1 : Hid (W1.heap[wr.heap.size]? = some (.cells #[.bool true, .int .i64 lo, .bool false, .int .i64 0] 28 (0, 0))) := by rw [hW1]; exact heap_alloc_new wr _
          clear hW1 q0 el1
          have r0 : W1.cell? ⟨wr.heap.size, 0, none⟩ = some (.bool true) := cell_of_row _ _ 0 _ _ _ R1.out
          have r1 : W1.cell? ⟨wr.heap.size, 1, none⟩ = some (.int .i64 lo) := cell_of_row _ _ 1 _ _ _ R1.out
          have r2 : W1.cell? ⟨wr.heap.size, 2, none⟩ = some (.bool false) := cell_of_row _ _ 2 _ _ _ R1.out
          have r3 : W1.cell? ⟨wr.heap.size, 3, none⟩ = some (.int .i64 0) := cell_of_row _ _ 3 _ _ _ R1.out
          have z0 : W1.frozen? ⟨wr.heap.size, 0, none⟩ = false := frozen_of_row _ _ 0 _ _ R1.out
          have z1 : W1.frozen? ⟨wr.heap.size, 1, none⟩ = false := frozen_of_row _ _ 1 _ _ R1.out
          have z2 : W1.frozen? ⟨wr.heap.size, 2, none⟩ = false := frozen_of_row _ _ 2 _ _ R1.out
          have z3 : W1.frozen? ⟨wr.heap.size, 3, none⟩ = false := frozen_of_row _ _ 3 _ _ R1.out
          have q0 : W1.cell? ⟨bx, 0, none⟩ = some (.slice (some ⟨bb, ob, none⟩) nb capb) := hiO_0 (stays HB.out G1.out)
          have hJ1 := HJ.out _ _ _ HI.out G1.out
          obtain ⟨fn, tmps, assign, body, hy, hR⟩ := HY.out (List.range (j + 1)) (j + 1) _ hJ1 ⟨rfl, by have := NC.out; omega⟩
          rw [HE.out] at hy
          simp only [rgV] at hy
          gi_wp2
          refine ⟨wide_room _, ?_⟩
          refine hR.mono ?_
          rintro e w2 (⟨rfl, hJ2⟩ | ⟨rfl, hJ2⟩)
          · have HJ2 := Lib.hid hJ2
            clear hJ2 hR hy
            gi_wp2
            go_roundw
            case rel => exact ⟨j + 1 + 1, by omega, by go_num, by show J _ _; rw [List.range_succ]; exact HJ2.out⟩
            case measure => simp [intOf] <;> omega
          · have HJ2 := Lib.hid hJ2
            clear hJ2 hR hy
            gi_wp2
            refine bodyPost_ret (results_none rfl _ _ _) rfl ⟨⟨.tuple #[], rfl⟩, .inr ⟨_, ⟨(j + 1), by have := NC.out; omega, rfl⟩, ?_⟩⟩
            rw [List.range_succ]; exact HJ2.out
      · by_cases h1k : k < nb
        · have hd0 : decide (0 < k) = false := decide_eq_false h0k
          have hd1 : decide (k < nb) = true := decide_eq_true h1k
          rw [hd0, hd1] at HE
          rw [if_neg h0k] at hlo
          rw [if_pos h1k] at hhi
          obtain ⟨bb, ob, hab, hbb, hcell⟩ := HIN.out (by omega)
          subst hab
          obtain rfl : k = 0 := by omega
          subst hlo
          rw [Nat.add_zero] at e1
          have eh := hcell 0 (by omega)
          rw [← hhi] at eh; rw [Nat.add_zero] at eh
          have HBB := Lib.hid hbb
          clear hcell
          clear hd0 hd1 hhi
          have q0 : ∀ o, (wr.alloc o).cell? ⟨bx, 0, none⟩ = some (.slice (some ⟨bb, ob, none⟩) nb capb) := fun o => hiO_0 (stays HB.out (bel_alloc (Below.refl _ _) (Nat.le_refl _)))
          have EH := Lib.hid eh
          clear eh
          gi_wp2
          generalize hW1 : (wr.alloc (.cells #[.bool false, .int .i64 0, .bool false, .int .i64 0] 28)) = W1
          have G1 : Hid (Below wr.heap.size wr W1) := by rw [← hW1]; exact (bel_alloc (Below.refl _ _) (Nat.le_refl _))
          have R1 : Hid (W1.heap[wr.heap.size]? = some (.cells #[.bool false, .int .i64 0, .bool false, .int .i64 0] 28 (0, 0))) := by rw [← hW1]; exact heap_alloc_new wr _
          clear hW1 q0
          have r0 : W1.cell? ⟨wr.heap.size, 0, none⟩ = some (.bool false) := cell_of_row _ _ 0 _ _ _ R1.out
          have r1 : W1.cell? ⟨wr.heap.size, 1, none⟩ = some (.int .i64 0) := cell_of_row _ _ 1 _ _ _ R1.out
          have r2 : W1.cell? ⟨wr.heap.size, 2, none⟩ = some (.bool false) := cell_of_row _ _ 2 _ _ _ R1.out
          have r3 : W1.cell? ⟨wr.heap.size, 3, none⟩ = some (.int .i64 0) := cell_of_row _ _ 3 _ _ _ R1.out
          have z0 : W1.frozen? ⟨wr.heap.size, 0, none⟩ = false := frozen_of_row _ _ 0 _ _ R1.out
          have z1 : W1.frozen? ⟨wr.heap.size, 1, none⟩ = false := frozen_of_row _ _ 1 _ _ R1.out
          have z2 : W1.frozen? ⟨wr.heap.size, 2, none⟩ = false := frozen_of_row _ _ 2 _ _ R1.out
          have z3 : W1.frozen? ⟨wr.heap.size, 3, none⟩ = false := frozen_of_row _ _ 3 _ _ R1.out
          have q0 : W1.cell? ⟨bx, 0, none⟩ = some (.slice (some ⟨bb, ob, none⟩) nb capb) := hiO_0 (stays HB.out G1.out)
          have eh1 : W1.cell? ⟨bb, ob, none⟩ = some (.int .i64 hi) := (G1.out.cell (p := ⟨bb, ob, none⟩) HBB.out).trans EH.out
          have hbx := (Array.getElem?_eq_some_iff.1 HB.out).1
          have hn1 : bx ≠ wr.heap.size := by omega
          have hn2 : bb ≠ wr.heap.size := by omega
          skip
          gi_region
          obtain ⟨W2, hW2⟩ : ∃ W2, W2 = ((W1.setCell ⟨wr.heap.size, 2, none⟩ (.bool true)).setCell ⟨wr.heap.size, 3, none⟩ (.int .i64 hi)).drew := ⟨_, rfl⟩
          rw [← hW2]
          have G2 : Hid (Below wr.heap.size wr W2) := by rw [hW2]; exact (bel_set (Nat.le_refl _) (bel_set (Nat.le_refl _) G1.out)).drew
          have h1 := heap_setCell_same W1 wr.heap.size 2 _ _ (.bool true) R1.out
          have h2 := heap_setCell_same _ wr.heap.size 3 _ _ (.int .i64 hi) h1
          have R2 : Hid (W2.heap[wr.heap.size]? = some (.cells #[.bool false, .int .i64 0, .bool true, .int .i64 hi] 28 (0, 0))) := by rw [hW2]; exact h2
          clear hW2 h1 h2 eh1 q0 r0 r1 r2 r3 z0 z1 z2 z3
          have r0 : W2.cell? ⟨wr.heap.size, 0, none⟩ = some (.bool false) := cell_of_row _ _ 0 _ _ _ R2.out
          have r1 : W2.cell? ⟨wr.heap.size, 1, none⟩ = some (.int .i64 0) := cell_of_row _ _ 1 _ _ _ R2.out
          have r2 : W2.cell? ⟨wr.heap.size, 2, none⟩ = some (.bool true) := cell_of_row _ _ 2 _ _ _ R2.out
          have r3 : W2.cell? ⟨wr.heap.size, 3, none⟩ = some (.int .i64 hi) := cell_of_row _ _ 3 _ _ _ R2.out
          have z0 : W2.frozen? ⟨wr.heap.size, 0, none⟩ = false := frozen_of_row _ _ 0 _ _ R2.out
          have z1 : W2.frozen? ⟨wr.heap.size, 1, none⟩ = false := frozen_of_row _ _ 1 _ _ R2.out
          have z2 : W2.frozen? ⟨wr.heap.size, 2, none⟩ = false := frozen_of_row _ _ 2 _ _ R2.out
          have z3 : W2.frozen? ⟨wr.heap.size, 3, none⟩ = false := frozen_of_row _ _ 3 _ _ R2.out
          have hJ1 := HJ.out _ _ _ HI.out G2.out
          obtain ⟨fn, tmps, assign, body, hy, hR⟩ := HY.out (List.range 0) 0 _ hJ1 ⟨rfl, by have := NC.out; omega⟩
          rw [HE.out] at hy
          simp only [rgV] at hy
          gi_wp2
          refine ⟨wide_room _, ?_⟩
          refine hR.mono ?_
          rintro e w2 (⟨rfl, hJ2⟩ | ⟨rfl, hJ2⟩)
          · have HJ2 := Lib.hid hJ2
            clear hJ2 hR hy
            gi_wp2
            go_roundw
            case rel => exact ⟨0 + 1, by omega, by go_num, by show J _ _; rw [List.range_succ]; exact HJ2.out⟩
            case measure => simp [intOf] <;> omega
          · have HJ2 := Lib.hid hJ2
            clear hJ2 hR hy
            gi_wp2
            refine bodyPost_ret (results_none rfl _ _ _) rfl ⟨⟨.tuple #[], rfl⟩, .inr ⟨_, ⟨0, by have := NC.out; omega, rfl⟩, ?_⟩⟩
            rw [List.range_succ]; exact HJ2.out
        · have hd0 : decide (0 < k) = false := decide_eq_false h0k
          have hd1 : decide (k < nb) = false := decide_eq_false h1k
          rw [hd0, hd1] at HE
          rw [if_neg h0k] at hlo
          rw [if_neg h1k] at hhi
          obtain rfl : k = 0 := by omega
          subst hlo
          rw [Nat.add_zero] at e1
          subst hhi
          clear hd0 hd1
          have q0 : ∀ o, (wr.alloc o).cell? ⟨bx, 0, none⟩ = some (.slice ab nb capb) := fun o => hiO_0 (stays HB.out (bel_alloc (Below.refl _ _) (Nat.le_refl _)))
          have G1 : Hid (Below wr.heap.size wr (wr.alloc (.cells #[.bool false, .int .i64 0, .bool false, .int .i64 0] 28))) := bel_alloc (Below.refl _ _) (Nat.le_refl _)
          have hJ1 := HJ.out _ _ _ HI.out G1.out
          obtain ⟨fn, tmps, assign, body, hy, hR⟩ := HY.out (List.range 0) 0 _ hJ1 ⟨rfl, by have := NC.out; omega⟩
          rw [HE.out] at hy
          simp only [rgV] at hy
          gi_wp2
          refine ⟨wide_room _, ?_⟩
          refine hR.mono ?_
          rintro e w2 (⟨rfl, hJ2⟩ | ⟨rfl, hJ2⟩)
          · have HJ2 := Lib.hid hJ2
            clear hJ2 hR hy
            gi_wp2
            go_roundw
            case rel => exact ⟨0 + 1, by omega, by go_num, by show J _ _; rw [List.range_succ]; exact HJ2.out⟩
            case measure => simp [intOf] <;> omega
          · have HJ2 := Lib.hid hJ2
            clear hJ2 hR hy
            gi_wp2
            refine bodyPost_ret (results_none rfl _ _ _) rfl ⟨⟨.tuple #[], rfl⟩, .inr ⟨_, ⟨0, by have := NC.out; omega, rfl⟩, ?_⟩⟩
            rw [List.range_succ]; exact HJ2.out
    · have hkn : k = nb + 1 := by omega
      gi_wp2
      refine bodyPost_end (results_none rfl _ _ _) rfl ⟨⟨.tuple #[], rfl⟩, .inl ⟨_, rfl, ?_⟩⟩
      rw [← NC.out, ← hkn]
      exact HI.out

end Go.Proofs.YtghgnalbahneoaaDoor
