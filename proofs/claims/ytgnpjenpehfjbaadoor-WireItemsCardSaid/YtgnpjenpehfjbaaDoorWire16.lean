/- Wire: Encode of a packet without items (by program: wip/tools/gen_wire15.py). -/
import Derived.Test.YtgnpjenpehfjbaaDoorWire15
namespace Go.Proofs.YtgnpjenpehfjbaaDoor
open Go.RowKit

set_option maxRecDepth 100000 in
set_option maxHeartbeats 4000000 in
theorem encode_none (kind frm to boot life echo elife : Int) (w : World) (ht : TabOK w) : Calls Tryd.prog 13 #[.agg #[.int .i64 kind, .int .i64 frm, .int .i64 to, .int .i64 boot, .int .i64 life, .int .i64 echo, .int .i64 elife, .slice none 0 0]] w fun e w' => ∃ u, e = .returned u ∧ Own w' w.heap.size u (encB ⟨kind, frm, to, boot, life, echo, elife, []⟩) ∧ Below w.heap.size w w' := by
  obtain ⟨p, hp⟩ : ∃ p : Pkt, p = ⟨kind, frm, to, boot, life, echo, elife, []⟩ := ⟨_, rfl⟩
  have HT := Lib.hid ht
  obtain ⟨g0, kb⟩ := new_block w (.cells #[.int .i64 kind, .int .i64 frm, .int .i64 to, .int .i64 boot, .int .i64 life, .int .i64 echo, .int .i64 elife, .slice none 0 0] 24)
  have hfit := fit_any p (.slice none 0 0) (w.alloc (.cells #[.int .i64 kind, .int .i64 frm, .int .i64 to, .int .i64 boot, .int .i64 life, .int .i64 echo, .int .i64 elife, .slice none 0 0] 24)) (by rw [hp]; exact Ims.nil _ _) (by rw [hp]; intro x hx; cases hx)
  have hpc : (p.cells (.slice none 0 0)).toArray = #[.int .i64 kind, .int .i64 frm, .int .i64 to, .int .i64 boot, .int .i64 life, .int .i64 echo, .int .i64 elife, .slice none 0 0] := by rw [hp]
  rw [hpc] at hfit
  have HPC : Hid ((p.cells (.slice none 0 0)).toArray = #[.int .i64 kind, .int .i64 frm, .int .i64 to, .int .i64 boot, .int .i64 life, .int .i64 echo, .int .i64 elife, .slice none 0 0]) := hpc
  have HIT : Hid (p.items = []) := by show _ = _; rw [hp]
  rw [← hp]
  have LB := Lib.hid g0
  have KB := Lib.hid kb
  clear g0 kb ht hp hpc
  have a0 := cell_of_row _ _ 0 _ _ _ KB.out
  cases hf : fitP p with
  | false =>
    rw [hf] at hfit
    have HE : Hid (encB p = []) := by show _ = _; unfold encB; rw [hf]; rfl
    have HF := Lib.hid hfit
    clear hfit hf a0
    go_enter Tryd.func13, Tryd.ntmps13
    go_wp2_with (fail)
    with_reducible refine HF.out.mono ?_
    rintro e w1 ⟨rfl, hB⟩
    have L1 := LB.out.trans (hB.mono LB.out.size)
    clear HF hB
    go_wp2
    go_ret
    exact ⟨.slice none 0 0, rfl, by rw [HE.out]; exact Own.nil _ _, L1⟩
  | true =>
    rw [hf] at hfit
    have HE : Hid (encB p = frameOf ((headF p).flatMap fbytes)) := by show _ = _; unfold encB bodyB; rw [hf, HIT.out]; simp
    have HF := Lib.hid hfit
    have HFT := Lib.hid hf
    clear hfit hf a0
    go_enter Tryd.func13, Tryd.ntmps13
    go_wp2_with (fail)
    with_reducible refine HF.out.mono ?_
    rintro e w1 ⟨rfl, hB⟩
    have L1 := Lib.hid (LB.out.trans (hB.mono LB.out.size))
    have KB1 := Lib.hid (stays KB.out hB)
    clear HF hB
    have c7 := cell_of_row _ _ 7 _ _ _ KB1.out
    obtain ⟨g2, k2⟩ := new_block w1 (.cells #[.int .i64 0] 3)
    have L2 := Lib.hid (L1.out.trans (g2.mono L1.out.size))
    have KB2 := Lib.hid (stays KB1.out g2)
    have KC2 := Lib.hid k2
    clear g2 k2
    have hcon := Lib.hid (head_any w.heap.size w1.heap.size (w1.alloc (.cells #[.int .i64 0] 3)))
    go_wp2_with (fail)
    with_reducible refine hcon.out.mono ?_
    rintro e w2 ⟨⟨q, g, rfl, hi⟩, hB⟩
    have L3 := Lib.hid (L2.out.trans (hB.mono L2.out.size))
    have hcon2 := Lib.hid (head_fields p (.slice none 0 0) w.heap.size w1.heap.size q g w2 (by rw [HPC.out]; exact stays KB2.out hB) (by rw [HIT.out]; exact stays KC2.out hB) hi)
    have KB3 := Lib.hid (stays KB2.out hB)
    clear hcon hi hB c7
    go_wp2_with (fail)
    with_reducible refine hcon2.out.mono ?_
    rintro e w3 ⟨vf, rfl, ho, hB⟩
    have L4 := Lib.hid (L3.out.trans (hB.mono L3.out.size))
    have KB4 := Lib.hid (stays KB3.out hB)
    have hcon3 := Lib.hid (code_Fields vf (headF p) w3 ho.flds (headF_ok HFT.out).2 (by have := headF_len HFT.out; omega) (by simp [headF]))
    obtain ⟨ao, cap, rfl⟩ := owns_form ho
    clear hcon2 ho hB
    go_wp2_with (fail)
    with_reducible refine hcon3.out.mono ?_
    rintro e w4 ⟨vb, rfl, ho, hB⟩
    rw [headF_bytes HFT.out] at ho
    have L5 := Lib.hid (L4.out.trans (hB.mono L4.out.size))
    have KB5 := Lib.hid (stays KB4.out hB)
    have hcon4 := Lib.hid (seal_Seal vb _ w4 w4.heap.size ho.bts (HT.out.below L5.out (by have := HT.out.lt; omega)) (Nat.le_refl _) (by have := headF_len HFT.out; omega))
    obtain ⟨ab, capb, hvb, -⟩ := ho.bts
    obtain ⟨nb, hnb⟩ : ∃ n, n = ((headF p).flatMap fbytes).length := ⟨_, rfl⟩
    rw [← hnb] at hvb
    subst hvb
    clear hnb
    have c7 := cell_of_row _ _ 7 _ _ _ KB5.out
    clear hcon3 ho hB
    go_wp2
    go_loop [4, 21] (fun b i => b = .slice ab nb capb ∧ i = .int .i64 0) (fun _ _ => 0)
    case atStart => exact ⟨rfl, rfl⟩
    case round =>
      obtain ⟨rfl, rfl⟩ := hrel
      go_wp2_with (fail)
      with_reducible refine hcon4.out.mono ?_
      rintro e w5 ⟨vs, rfl, ho, hB⟩
      have L6 := L5.out.trans (hB.mono L5.out.size)
      rw [← HE.out] at ho
      have HO := Lib.hid (ho.mono L5.out.size)
      clear hcon4 ho hB c7
      go_wp2
      go_ret
      exact ⟨vs, rfl, HO.out, L6⟩

end Go.Proofs.YtgnpjenpehfjbaaDoor
