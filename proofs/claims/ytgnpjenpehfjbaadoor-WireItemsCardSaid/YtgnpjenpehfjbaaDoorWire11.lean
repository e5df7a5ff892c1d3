/- Wire: the iterators over places (by program: wip/tools/gen_wire11.py). -/
import Derived.Test.YtgnpjenpehfjbaaDoorWire10
import Derived.Test.YtgnpjenpehfjbaaDoorRange
import Derived.RangeFuncBox
namespace Go.Proofs.YtgnpjenpehfjbaaDoor
open Go.RowKit

attribute [local go_sem] Oper.semAt_some

def nilP : Plc := ⟨0, 0, 0, 0⟩
def encP (ps : List Plc) (k : Nat) : Array Value := #[(ps.getD k nilP).val]
/-- a row of places from the head of block g on -/
def RowP (W : World) (g : Nat) (ps : List Plc) : Prop := ∀ i p, ps[i]? = some p → W.rangeAt g (i * 5) p.cells
theorem RowP.below {W W' : World} {g : Nat} {ps : List Plc} (h : RowP W g ps) (hg : g < W.heap.size) (hb : Below W.heap.size W W') : RowP W' g ps := fun i p hp j u hu => (hb.cell (p := ⟨g, i * 5 + j, none⟩) hg).trans (h i p hp j u hu)
theorem getP {ps : List Plc} {k : Nat} (h : k < ps.length) : ps[k]? = some (ps.getD k nilP) := by
  rw [List.getD_eq_getElem?_getD, List.getElem?_eq_getElem h]; rfl
def InvV (q g cap : Nat) (ps : List Plc) (W : World) : Prop := W.heap[q]? = some (.cells #[.slice (some ⟨g, 0, none⟩) ps.length cap] 109 (0, 0)) ∧ g < W.heap.size ∧ RowP W g ps

set_option maxRecDepth 100000 in
set_option maxHeartbeats 2000000 in
theorem values1_iter (q g cap : Nat) (ps : List Plc) (hn : ps.length ≤ 1000000) (m : Nat) :
    Iterates Fence.wide m Tryd.prog 76 #[.pointer (some ⟨q, 0, none⟩)] (encP ps) (InvV q g cap ps) (fun pre k _ => pre = List.range k ∧ k < ps.length) (fun xs => xs = List.range ps.length) (fun pre => ∃ k, k < ps.length ∧ pre = List.range (k + 1)) := by
  intro yl J Jx W hJ hInv hY h0
  have HJ := Lib.hid hJ
  have HY := Lib.hid hY
  have HV := Lib.hid hInv
  obtain ⟨hq, -, -⟩ := hInv _ _ h0
  clear hJ hY hInv
  obtain ⟨n, hnn⟩ : ∃ n, n = ps.length := ⟨_, rfl⟩
  rw [← hnn] at hq hn
  have NN := Lib.hid hnn
  clear hnn
  have c1 := cell_of_row _ _ 0 _ _ _ hq
  refine callsIn_of_wp Tryd.func76 rfl trivial ?_ rfl
  simp only [Tryd.ntmps76, List.size_toArray, List.length_cons, List.length_nil, Nat.reduceAdd, Nat.reduceSub, Array.replicate_succ, Array.replicate_zero, List.push_toArray, List.append_toArray, List.nil_append, List.cons_append]
  gi_wp2
  clear c1 hq
  gi_loopw [7] (fun i wr => ∃ k : Nat, k ≤ n ∧ i = .int .i64 (k : Int) ∧ Hid (J (List.range k) wr)) (fun i _ => n - (intOf i).toNat)
  case atStart => exact ⟨0, Nat.zero_le _, rfl, h0⟩
  case round =>
    obtain ⟨k, hk, rfl, HI⟩ := hrel
    have hV := HV.out _ _ HI.out
    by_cases hlt : k < n
    · have hkx : k < ps.length := by have := NN.out; omega
      obtain ⟨⟨kd, st, pb, po⟩, hp⟩ : ∃ p, p = ps.getD k nilP := ⟨_, rfl⟩
      have hr := hV.2.2 k _ (getP hkx)
      rw [← hp] at hr
      have HE : Hid (encP ps k = #[(⟨kd, st, pb, po⟩ : Plc).val]) := by show _ = _; unfold encP; rw [← hp]
      obtain ⟨x0, h0x⟩ : ∃ x, x = (if st = 0 then some (⟨pb, po, none⟩ : Addr) else none) := ⟨_, rfl⟩
      obtain ⟨x1, h1x⟩ : ∃ x, x = (if st = 1 then some (⟨pb, po, none⟩ : Addr) else none) := ⟨_, rfl⟩
      obtain ⟨x2, h2x⟩ : ∃ x, x = (if st = 2 then some (⟨pb, po, none⟩ : Addr) else none) := ⟨_, rfl⟩
      obtain ⟨x3, h3x⟩ : ∃ x, x = (if st = 3 then some (⟨pb, po, none⟩ : Addr) else none) := ⟨_, rfl⟩
      have hcs : (⟨kd, st, pb, po⟩ : Plc).cells = [.int .i64 kd, .pointer x0, .pointer x1, .pointer x2, .pointer x3] := by unfold Plc.cells Plc.ptr; rw [h0x, h1x, h2x, h3x]
      have HE2 : Hid (encP ps k = #[.agg #[.int .i64 kd, .pointer x0, .pointer x1, .pointer x2, .pointer x3]]) := by show _ = _; rw [HE.out]; unfold Plc.val; rw [hcs]
      rw [hcs] at hr
      clear hcs h0x h1x h2x h3x hp
      have c0 := hr 0 _ rfl
      have c1 := hr 1 _ rfl
      have c2 := hr 2 _ rfl
      have c3 := hr 3 _ rfl
      have c4 := hr 4 _ rfl
      rw [Nat.add_zero] at c0
      have hkn : 0 ≤ (k : Int) ∧ (k : Int) < (n : Int) := by omega
      clear hr hV hkx
      have G1 : Hid (Below wr.heap.size wr (wr.alloc (.cells #[.int .i64 kd, .pointer x0, .pointer x1, .pointer x2, .pointer x3] 106))) := bel_alloc (Below.refl _ _) (Nat.le_refl _)
      have hJ1 := HJ.out _ _ _ HI.out G1.out
      obtain ⟨fn, tmps, assign, body, hy, hR⟩ := HY.out (List.range k) k _ hJ1 ⟨rfl, by have := NN.out; omega⟩
      rw [HE2.out] at hy
      gi_wp2
      refine ⟨wide_room _, ?_⟩
      refine hR.mono ?_
      rintro e w2 (⟨rfl, hJ2⟩ | ⟨rfl, hJ2⟩)
      · have HJ2 := Lib.hid hJ2
        clear hJ2 hR hy
        gi_wp2
        go_roundw
        case rel => exact ⟨k + 1, by omega, by go_num, by show J _ _; rw [List.range_succ]; exact HJ2.out⟩
        case measure => simp [intOf] <;> omega
      · have HJ2 := Lib.hid hJ2
        clear hJ2 hR hy
        gi_wp2
        refine bodyPost_ret (results_none rfl _ _ _) rfl ⟨⟨.tuple #[], rfl⟩, .inr ⟨_, ⟨k, by have := NN.out; omega, rfl⟩, ?_⟩⟩
        rw [List.range_succ]; exact HJ2.out
    · have hkn : k = n := by omega
      clear hV
      gi_wp2
      refine bodyPost_end (results_none rfl _ _ _) rfl ⟨⟨.tuple #[], rfl⟩, .inl ⟨_, rfl, ?_⟩⟩
      rw [← NN.out, ← hkn]
      exact HI.out

end Go.Proofs.YtgnpjenpehfjbaaDoor
