/- Wire: forged (by program: wip/tools/gen_wirebodies.py). -/
import Derived.Test.YtgnpjenpehfjbaaDoorML
set_option linter.unusedSimpArgs false
set_option linter.unusedVariables false
namespace Go.Proofs.YtgnpjenpehfjbaaDoor
open Go.RowKit

/-- a packet's bytes, sealed, whether it is fit or not -/
def forgeF (p : Pkt) : List UInt8 := if (bodyR p).length ≤ 65535 then frameOf (bodyR p) else []
set_option maxRecDepth 100000 in
set_option maxHeartbeats 4000000 in
theorem forged_any (p : Pkt) (v : Value) (w : World) (hv : Ims w w.heap.size v p.items) (hok : ∀ x ∈ p.items, Itm64 x) (hlen : (bodyR p).length ≤ 999990000) : Calls Tryd.prog 21 #[.agg (p.cells v).toArray] w fun e w' => ∃ u, e = .returned u ∧ Own w' w.heap.size u (forgeF p) ∧ Below w.heap.size w w' := by
  obtain ⟨g0, kb⟩ := new_block w (.cells (p.cells v).toArray 24)
  have hcon := Lib.hid (body_any p v (w.alloc (.cells (p.cells v).toArray 24)) (hv.below g0 g0.size) hok hlen)
  have LB := Lib.hid g0
  have KB := Lib.hid kb
  clear g0 kb hv hok hlen
  go_enter Tryd.func21, Tryd.ntmps21
  go_upto_region 1 with (fail)
  refine wp_region_lit ?_
  refine wpList_run rfl (exec_load_row 24 _ rfl w.heap.size _ _ (.struct (Tryd.prog.fieldsOf 24)) rfl KB.out (by kernel_rfl) rfl (by kernel_rfl)) ?_
  go_wp2_with (fail)
  with_reducible refine hcon.out.mono ?_
  rintro e w2 ⟨vb, rfl, ho, hB⟩
  have L2 := Lib.hid (LB.out.trans (hB.mono LB.out.size))
  by_cases h : (bodyR p).length ≤ 65535
  · have hcon2 := Lib.hid (ref_Seal vb _ w2 w2.heap.size ho.bts (Nat.le_refl _) h)
    have HE : Hid (forgeF p = frameOf (bodyR p)) := by show _ = _; unfold forgeF; rw [if_pos h]
    clear hcon ho hB h
    go_wp2_with (fail)
    with_reducible refine hcon2.out.mono ?_
    rintro e w3 ⟨vs, rfl, ho, hB⟩
    have L3 := L2.out.trans (hB.mono L2.out.size)
    rw [← HE.out] at ho
    have HO := Lib.hid (ho.mono L2.out.size)
    clear hcon2 ho hB
    go_wp2
    go_ret
    exact ⟨vs, rfl, HO.out, L3⟩
  · have hcon2 := Lib.hid (ref_Seal_long vb _ w2 w2.heap.size ho.bts (by omega))
    have HE : Hid (forgeF p = []) := by show _ = _; unfold forgeF; rw [if_neg h]
    clear hcon ho hB h
    go_wp2_with (fail)
    with_reducible refine hcon2.out.mono ?_
    rintro e w3 ⟨rfl, rfl⟩
    clear hcon2
    go_wp2
    go_ret
    exact ⟨.slice none 0 0, rfl, by rw [HE.out]; exact Own.nil _ _, L2.out⟩

end Go.Proofs.YtgnpjenpehfjbaaDoor

