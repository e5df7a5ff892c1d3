/- Wire: open (by program: wip/tools/gen_wire33.py). -/
import Derived.Test.YtgnpjenpehfjbaaDoorMP
import Derived.Test.YtgnpjenpehfjbaaDoorML
import Derived.Laws.ResultCell
import Derived.WalkMore
set_option linter.unusedSimpArgs false
set_option linter.unusedVariables false
namespace Go.Proofs.YtgnpjenpehfjbaaDoor
open Go.RowKit

theorem sets_low {B : Nat} {w : World} : ∀ (l : List (Plc × Fld)) (W : World), (∀ pf ∈ l, B ≤ pf.1.b) → Below B w W → Below B w (setsW W l)
  | [], _, _, h => h
  | (p, f) :: r, W, hl, h => sets_low r (W.setCell ⟨p.b, p.o, none⟩ (p.cellOf f)) (fun pf hp => hl pf (List.mem_cons_of_mem _ hp)) (bel_set (hl (p, f) List.mem_cons_self) h)
theorem zip_fst {ps : List Plc} {fs : List Fld} {Q : Plc → Prop} (h : ∀ p ∈ ps, Q p) : ∀ pf ∈ ps.zip fs, Q pf.1 := fun pf hp => h _ (List.of_mem_zip hp).1
set_option maxRecDepth 100000 in
theorem results_pkt {rb : Nat} {c : Value} {cs : Array Value} {W : World} {tmps : Array Value} (h2 : tmps.getD 2 undef = .pointer (some ⟨rb, 0, none⟩)) (h3 : tmps.getD 3 undef = c) (hs : cs.size = 8 := by rfl) (h : W.heap[rb]? = some (.cells cs 24 (0, 0))) : (results Tryd.f44 tmps).run Tryd.prog W = .ok (.tuple #[.agg cs, c]) W := by
  rw [results_cell_tmp (p := 2) (u := 3) (ty := 24) Tryd.results44, h2, h3]
  have hl := run_loadVar_row (P := Tryd.prog) W rb 24 24 cs (0, 0) (.struct (Tryd.prog.fieldsOf 24)) h (by kernel_rfl) rfl (by rw [hs]; kernel_rfl)
  show ((loadVar 24 ⟨rb, 0, none⟩).run Tryd.prog W).andThen _ = _
  rw [hl]
  rfl

theorem splice8 (p : Pkt) (v : Value) : splice #[.int .i64 0, .int .i64 0, .int .i64 0, .int .i64 0, .int .i64 0, .int .i64 0, .int .i64 0, .slice none 0 0] 0 (p.cells v) = (p.cells v).toArray := by kernel_rfl
theorem build_itm (x : Itm) (W : World) : (Instr.buildSlice 22 1 #[(0, .agg x.cells.toArray)]).run Tryd.prog W = .ok (.slice (some ⟨W.heap.size, 0, none⟩) 1 1) (W.alloc (.cells x.cells.toArray 38)) := by kernel_rfl
/-- read over an item's places -/
theorem item_read (xb q : Nat) (vc : Value) (m : List UInt8) (W : World) (hb : Bts W W.heap.size vc m) (hm : m.length ≤ 1000000000) (hx : W.heap[xb]? = some (.cells #[.string ⟨#[]⟩, .int .i64 0, .int .i64 0, .bool false, .int .i64 0, .int .i64 0, .int .i64 0, .int .i64 0, .int .i64 0, .bool false, .int .i64 0, .bool false, .int .i64 0, .int .i64 0, .int .i64 0, .bool false, .int .i64 0, .int .i64 0, .int .i64 0] 38)) (hq : InvI q xb W) :
    Calls Tryd.prog 69 #[vc, (.func (.func 61) #[] #[.pointer (some ⟨q, 0, none⟩)])] W fun e w' =>
      ((readF m itemK [] 0).2.2 ≠ 0 ∧ e = .returned (.tuple #[.int .i64 0, .bool false]) ∧ Below W.heap.size W w') ∨
      ((readF m itemK [] 0).2.2 = 0 ∧ e = .returned (.tuple #[.int .i64 ((readF m itemK [] 0).2.1 : Nat), .bool true]) ∧ Below W.heap.size (setsW W ((itemP xb).zip (readF m itemK [] 0).1)) w') := by
  have h := read_any 61 #[.pointer (some ⟨q, 0, none⟩)] (itemP xb) (InvI q xb) _ (enters_of Tryd.func61 (by kernel_rfl) rfl) (fun m => item_iter q xb m) vc m W hb hm (by show 19 ≤ 1000; omega) (fun W hb => stays hq hb) (fun k hk => by
    have hk19 : k < 19 := hk
    rcases (show k = 0 ∨ k = 1 ∨ k = 2 ∨ k = 3 ∨ k = 4 ∨ k = 5 ∨ k = 6 ∨ k = 7 ∨ k = 8 ∨ k = 9 ∨ k = 10 ∨ k = 11 ∨ k = 12 ∨ k = 13 ∨ k = 14 ∨ k = 15 ∨ k = 16 ∨ k = 17 ∨ k = 18 by omega) with rfl | rfl | rfl | rfl | rfl | rfl | rfl | rfl | rfl | rfl | rfl | rfl | rfl | rfl | rfl | rfl | rfl | rfl | rfl <;> exact ⟨by simp [itemP, item1P, extP], _, _, hx, by simp [itemP, item1P, extP]⟩)
  rw [itemP_kinds] at h
  exact h
structure LI (w : World) (fs : List Fld) (xs : List Itm) (u : Value) (c : Int) (W : World) : Prop where
  low : Below w.heap.size w W
  kr : W.heap[w.heap.size]? = some (.cells #[.int .i64 0, .int .i64 0, .int .i64 0, .int .i64 0, .int .i64 0, .int .i64 0, .int .i64 0, .slice none 0 0] 24)
  kp : W.heap[(w.heap.size + 1)]? = some (.cells ((hdOf fs xs).cells u).toArray 24 (0, 0))
  kc : W.heap[(w.heap.size + 1 + 1)]? = some (.cells #[.int .i64 c] 3 (0, 0))
  own : OwnX W (w.heap.size + 3) u xs
  sz : w.heap.size + 3 ≤ W.heap.size
theorem itemP_b {xb : Nat} : ∀ p ∈ itemP xb, p.b = xb := by
  intro p hp
  simp only [itemP, item1P, extP, List.cons_append, List.nil_append, List.mem_cons, List.not_mem_nil, or_false] at hp
  rcases hp with rfl | rfl | rfl | rfl | rfl | rfl | rfl | rfl | rfl | rfl | rfl | rfl | rfl | rfl | rfl | rfl | rfl | rfl | rfl <;> rfl
theorem LI.reads {w : World} {fs : List Fld} {xs : List Itm} {u : Value} {c : Int} {W : World} (h : LI w fs xs u c W) {gs : List Fld} {W' : World} (hg : gs.length = 19)
    (hT : Below (W.alloc (.cells #[.string ⟨#[]⟩, .int .i64 0, .int .i64 0, .bool false, .int .i64 0, .int .i64 0, .int .i64 0, .int .i64 0, .int .i64 0, .bool false, .int .i64 0, .bool false, .int .i64 0, .int .i64 0, .int .i64 0, .bool false, .int .i64 0, .int .i64 0, .int .i64 0] 38)).heap.size (setsW (W.alloc (.cells #[.string ⟨#[]⟩, .int .i64 0, .int .i64 0, .bool false, .int .i64 0, .int .i64 0, .int .i64 0, .int .i64 0, .int .i64 0, .bool false, .int .i64 0, .bool false, .int .i64 0, .int .i64 0, .int .i64 0, .bool false, .int .i64 0, .int .i64 0, .int .i64 0] 38)) ((itemP W.heap.size).zip gs)) W') : LI w fs xs u c W' ∧ W'.heap[W.heap.size]? = some (.cells (itmOf gs).cells.toArray 38 (0, 0)) := by
  obtain ⟨b1, k1⟩ := new_block W (.cells #[.string ⟨#[]⟩, .int .i64 0, .int .i64 0, .bool false, .int .i64 0, .int .i64 0, .int .i64 0, .int .i64 0, .int .i64 0, .bool false, .int .i64 0, .bool false, .int .i64 0, .int .i64 0, .int .i64 0, .bool false, .int .i64 0, .int .i64 0, .int .i64 0] 38)
  have hz := h.sz
  have key : ∀ k, k < W.heap.size → W'.heap[k]? = W.heap[k]? := fun k hk => by
    rw [hT.block k (by simp; omega), sets_other k _ _ (zip_fst (Q := fun p => p.b ≠ k) (fun p hp => by rw [itemP_b p hp]; omega)), b1.block k hk]
  have hlow : Below w.heap.size w (setsW (W.alloc (.cells #[.string ⟨#[]⟩, .int .i64 0, .int .i64 0, .bool false, .int .i64 0, .int .i64 0, .int .i64 0, .int .i64 0, .int .i64 0, .bool false, .int .i64 0, .bool false, .int .i64 0, .int .i64 0, .int .i64 0, .bool false, .int .i64 0, .int .i64 0, .int .i64 0] 38)) ((itemP W.heap.size).zip gs)) := sets_low _ _ (zip_fst (Q := fun p => w.heap.size ≤ p.b) (fun p hp => by rw [itemP_b p hp]; omega)) (h.low.trans (b1.mono h.low.size))
  refine ⟨⟨hlow.trans (hT.mono (by simp; omega)), (key _ (by omega)).trans h.kr, (key _ (by omega)).trans h.kp, (key _ (by omega)).trans h.kc, owns_same h.own fun k hk => key k (World.ownsRow.lt h.own k hk).2, by have := hT.size; rw [setsW_size] at this; simp only [World.size_alloc] at this; omega⟩, (hT.block _ (by simp)).trans (sets_item W.heap.size gs _ hg k1)⟩
theorem LI.fails {w : World} {fs : List Fld} {xs : List Itm} {u : Value} {c : Int} {W W' : World} (h : LI w fs xs u c W) (hT : Below (W.alloc (.cells #[.string ⟨#[]⟩, .int .i64 0, .int .i64 0, .bool false, .int .i64 0, .int .i64 0, .int .i64 0, .int .i64 0, .int .i64 0, .bool false, .int .i64 0, .bool false, .int .i64 0, .int .i64 0, .int .i64 0, .bool false, .int .i64 0, .int .i64 0, .int .i64 0] 38)).heap.size (W.alloc (.cells #[.string ⟨#[]⟩, .int .i64 0, .int .i64 0, .bool false, .int .i64 0, .int .i64 0, .int .i64 0, .int .i64 0, .int .i64 0, .bool false, .int .i64 0, .bool false, .int .i64 0, .int .i64 0, .int .i64 0, .bool false, .int .i64 0, .int .i64 0, .int .i64 0] 38)) W') : LI w fs xs u c W' := by
  obtain ⟨b1, k1⟩ := new_block W (.cells #[.string ⟨#[]⟩, .int .i64 0, .int .i64 0, .bool false, .int .i64 0, .int .i64 0, .int .i64 0, .int .i64 0, .int .i64 0, .bool false, .int .i64 0, .bool false, .int .i64 0, .int .i64 0, .int .i64 0, .bool false, .int .i64 0, .int .i64 0, .int .i64 0] 38)
  have hb := b1.trans (hT.mono b1.size)
  exact ⟨h.low.trans (hb.mono h.low.size), stays h.kr hb, stays h.kp hb, stays h.kc hb, World.ownsRow.kept h.own (row := none) ⟨hb.os, hb.tape, hb.output, hb.size, fun k hk _ => hb.block k hk⟩ (by
    cases hv : u.ownBlock with
    | none => exact .inl rfl
    | some k => exact .inr (by simp)), Nat.le_trans h.sz hb.size⟩
theorem LI.appends {w : World} {fs : List Fld} {xs : List Itm} {u : Value} {c : Int} {W W1 W' : World} (h : LI w fs xs u c W) (hb : Below W.heap.size W W1) (x : Itm) (v' : Value) (hg : W1.grownBy W' u.ownBlock) (ho : OwnX W' (w.heap.size + 3) v' (xs ++ [x])) : LI w fs (xs ++ [x]) v' c (W'.setCell ⟨(w.heap.size + 1), 7, none⟩ v') := by
  have ge : ∀ k, u.ownBlock = some k → w.heap.size + 3 ≤ k := fun k e => (World.ownsRow.lt h.own k e).1
  have hz := h.sz
  have z1 := hb.size
  have z2 := hg.size
  have key : ∀ k, k < w.heap.size + 3 → W'.heap[k]? = W.heap[k]? := fun k hk => (hg.block k (by omega) (fun e => by have := ge k e.symm; omega)).trans (hb.block k (by omega))
  have hl : Below w.heap.size w W' := (h.low.trans (hb.mono h.low.size)).grown hg (by omega) (fun k e => by have := ge k e; omega)
  refine ⟨bel_set (by omega) hl, (set_other _ _ _ _ _ (by omega)).trans ((key _ (by omega)).trans h.kr), set_block W' _ 7 _ _ v' ((key _ (by omega)).trans h.kp), (set_other _ _ _ _ _ (by omega)).trans ((key _ (by omega)).trans h.kc), ownsRow_setCell_below (a := ⟨(w.heap.size + 1), 7, none⟩) ho (show w.heap.size + 1 < w.heap.size + 3 by omega) v', by simp [World.setCell]; omega⟩

set_option maxRecDepth 100000 in
set_option maxHeartbeats 2000000 in
theorem open_any (v : Value) (l : List UInt8) (w : World) (hb : Bts w w.heap.size v l) (hl : l.length ≤ 100000000) :
    Calls Tryd.prog 44 #[v] w fun e w' => ∃ (p : Pkt) (u : Value), e = .returned (.tuple #[.agg (p.cells u).toArray, .int .i64 ((openP l).2 : Nat)]) ∧ OwnX w' w.heap.size u p.items ∧ p = (openP l).1 ∧ Below w.heap.size w w' := by
  have HB := Lib.hid hb
  have HL := Lib.hid hl
  obtain ⟨ba, bc, hv, -⟩ := id hb
  obtain ⟨nb, hnb⟩ : ∃ n, n = l.length := ⟨_, rfl⟩
  rw [← hnb] at hv
  subst hv
  have HNB := Lib.hid hnb
  obtain ⟨OP, hOP⟩ : ∃ R, R = openP l := ⟨_, rfl⟩
  rw [← hOP]
  obtain ⟨op, oc⟩ := OP
  dsimp only
  have HOP := Lib.hid hOP
  clear hb hl hnb hOP
  obtain ⟨g1, k1⟩ := new_block w (.cells #[.int .i64 0, .int .i64 0, .int .i64 0, .int .i64 0, .int .i64 0, .int .i64 0, .int .i64 0, .slice none 0 0] 24)
  obtain ⟨g2, k2⟩ := new_block (w.alloc (.cells #[.int .i64 0, .int .i64 0, .int .i64 0, .int .i64 0, .int .i64 0, .int .i64 0, .int .i64 0, .slice none 0 0] 24)) (.cells #[.int .i64 0, .int .i64 0, .int .i64 0, .int .i64 0, .int .i64 0, .int .i64 0, .int .i64 0, .slice none 0 0] 24)
  obtain ⟨g3, k3⟩ := new_block ((w.alloc (.cells #[.int .i64 0, .int .i64 0, .int .i64 0, .int .i64 0, .int .i64 0, .int .i64 0, .int .i64 0, .slice none 0 0] 24)).alloc (.cells #[.int .i64 0, .int .i64 0, .int .i64 0, .int .i64 0, .int .i64 0, .int .i64 0, .int .i64 0, .slice none 0 0] 24)) (.cells #[.int .i64 0] 3)
  simp only [World.size_alloc] at k2 k3
  have G12 := g2.trans (g3.mono g2.size)
  have LB := Lib.hid (g1.trans (G12.mono g1.size))
  have KR := Lib.hid (stays k1 G12)
  have KP := Lib.hid (stays k2 g3)
  have KC := Lib.hid k3
  clear g1 g2 g3 k1 k2 k3 G12
  go_enter Tryd.func44, Tryd.ntmps44
  go_wp2_with (fail)
  go_step3
  go_wp2_with (fail)
  obtain ⟨W0, hW0⟩ : ∃ W, W = ((w.alloc (.cells #[.int .i64 0, .int .i64 0, .int .i64 0, .int .i64 0, .int .i64 0, .int .i64 0, .int .i64 0, .slice none 0 0] 24)).alloc (.cells #[.int .i64 0, .int .i64 0, .int .i64 0, .int .i64 0, .int .i64 0, .int .i64 0, .int .i64 0, .slice none 0 0] 24)).alloc (.cells #[.int .i64 0] 3) := ⟨_, rfl⟩
  rw [← hW0] at LB KR KP KC ⊢
  have SZ0 : Hid (W0.heap.size = w.heap.size + 3) := by show _ = _; rw [hW0]; simp
  clear hW0
  have hcon := Lib.hid (head_any (w.heap.size + 1) (w.heap.size + 1 + 1) W0)
  with_reducible refine hcon.out.mono ?_
  rintro e W1 ⟨⟨q, g, rfl, hi⟩, hB⟩
  have L1 := Lib.hid (LB.out.trans (hB.mono LB.out.size))
  have KR1 := Lib.hid (stays KR.out hB)
  have KP1 := Lib.hid (stays KP.out hB)
  have KC1 := Lib.hid (stays KC.out hB)
  have SZ1 : Hid (w.heap.size + 3 ≤ W1.heap.size) := by show _ ≤ _; have := hB.size; have := SZ0.out; omega
  have hrd := read_any 76 #[.pointer (some ⟨q, 0, none⟩)] (headP (w.heap.size + 1) (w.heap.size + 1 + 1)) (InvV q g 8 (headP (w.heap.size + 1) (w.heap.size + 1 + 1))) _ (enters_of Tryd.func76 (by kernel_rfl) rfl) (fun m => (values1_iter q g 8 (headP (w.heap.size + 1) (w.heap.size + 1 + 1)) (by simp [headP]) m).toT) (.slice ba nb bc) l W1 (HB.out.below L1.out L1.out.size) (by have := HL.out; omega) (by show 8 ≤ 1000; omega) (fun W hb => hi.below hb) (fun k hk => by
    have hk8 : k < 8 := hk
    rcases (show k = 0 ∨ k = 1 ∨ k = 2 ∨ k = 3 ∨ k = 4 ∨ k = 5 ∨ k = 6 ∨ k = 7 by omega) with rfl | rfl | rfl | rfl | rfl | rfl | rfl | rfl
    · exact ⟨by show 1 ≤ 3; omega, _, _, KP1.out, by show 0 < _; simp⟩
    · exact ⟨by show 1 ≤ 3; omega, _, _, KP1.out, by show 1 < _; simp⟩
    · exact ⟨by show 1 ≤ 3; omega, _, _, KP1.out, by show 2 < _; simp⟩
    · exact ⟨by show 0 ≤ 3; omega, _, _, KP1.out, by show 3 < _; simp⟩
    · exact ⟨by show 0 ≤ 3; omega, _, _, KP1.out, by show 4 < _; simp⟩
    · exact ⟨by show 0 ≤ 3; omega, _, _, KP1.out, by show 5 < _; simp⟩
    · exact ⟨by show 0 ≤ 3; omega, _, _, KP1.out, by show 6 < _; simp⟩
    · exact ⟨by show 1 ≤ 3; omega, _, _, KC1.out, by show 0 < _; simp⟩)
  rw [headP_kinds] at hrd
  obtain ⟨⟨fs, rn, re⟩, hR⟩ : ∃ R, R = readF l headK [] 0 := ⟨_, rfl⟩
  rw [← hR] at hrd
  dsimp only at hrd
  have HR := Lib.hid hR
  have HRD := Lib.hid hrd
  clear hcon hB hi hrd hR KR KP KC
  go_wp2_with (fail)
  with_reducible refine HRD.out.mono ?_
  rintro e W2 (⟨hre, rfl, hB⟩ | ⟨hre, rfl, hB⟩)
  · -- the head is none
    have L2 := Lib.hid (L1.out.trans (hB.mono L1.out.size))
    have KR2 := Lib.hid (stays KR1.out hB)
    have HE : Hid (op = zeroP ∧ oc = 20) := by
      have h := HOP.out
      unfold openP at h
      rw [← HR.out, if_pos hre] at h
      exact ⟨congrArg Prod.fst h, congrArg Prod.snd h⟩
    clear HRD hB hre
    go_wp2_with (fail)
    go_step3
    go_wp2_with (fail)
    go_loopw [6, 7] (fun a o wr => a = .int .i64 0 ∧ o = .bool false ∧ Hid (wr = W2)) (fun _ _ _ => 0)
    case atStart => exact ⟨rfl, rfl, rfl⟩
    case round =>
      obtain ⟨rfl, rfl, HW⟩ := hrel
      have hw := HW.out
      subst hw
      go_upto_region 12 with (fail)
      refine wp_region_lit ?_
      refine wpList_run (v := .agg #[.int .i64 0, .int .i64 0, .int .i64 0, .int .i64 0, .int .i64 0, .int .i64 0, .int .i64 0, .slice none 0 0]) (w' := wr) rfl (by kernel_rfl) ?_
      refine wpList_skip (w' := wr.setCells w.heap.size 0 [.int .i64 0, .int .i64 0, .int .i64 0, .int .i64 0, .int .i64 0, .int .i64 0, .int .i64 0, .slice none 0 0]) rfl rfl (exec_store 24 _ _ rfl _ _ rfl rfl (run_store_row _ w.heap.size 0 _ _ 24 #[.int .i64 0, .int .i64 0, .int .i64 0, .int .i64 0, .int .i64 0, .int .i64 0, .int .i64 0, .slice none 0 0] KR2.out (by simp) (by kernel_rfl) (by simp [Value.oneCell']))) ?_
      refine wpList_run (v := .int .i64 20) (w' := wr.setCells w.heap.size 0 [.int .i64 0, .int .i64 0, .int .i64 0, .int .i64 0, .int .i64 0, .int .i64 0, .int .i64 0, .slice none 0 0]) rfl (by kernel_rfl) ?_
      refine wpList_nil ?_
      go_simp
      go_wp2
      try rw [Exit.noGoto_ret]
      have hst := setCells_block 24 w.heap.size [.int .i64 0, .int .i64 0, .int .i64 0, .int .i64 0, .int .i64 0, .int .i64 0, .int .i64 0, .slice none 0 0] 0 _ _ KR2.out
      refine bodyPost_ret (v := .tuple #[.agg #[.int .i64 0, .int .i64 0, .int .i64 0, .int .i64 0, .int .i64 0, .int .i64 0, .int .i64 0, .slice none 0 0], .int .i64 20]) (results_pkt rfl rfl (by rfl) hst) rfl ⟨zeroP, .slice none 0 0, by rw [HE.out.2]; rfl, World.ownsRow_nil _ _ _ _, HE.out.1.symm, setCells_below (Nat.le_refl _) _ _ _ _ L2.out⟩
  · -- the items
    have hsays := readF_says (l := l) (ks := headK) (by rw [← HR.out]; exact hre)
    rw [← HR.out] at hsays
    obtain ⟨s1, s2, s3, s4⟩ := hsays
    dsimp only at s1 s2 s3 s4
    have s8 : fs.length = 8 := s1
    have hbs : ∀ p ∈ headP (w.heap.size + 1) (w.heap.size + 1 + 1), p.b = (w.heap.size + 1) ∨ p.b = (w.heap.size + 1 + 1) := by
      intro p hp
      simp only [headP, List.mem_cons, List.not_mem_nil, or_false] at hp
      rcases hp with rfl | rfl | rfl | rfl | rfl | rfl | rfl | rfl <;> simp
    have hsz1 := SZ1.out
    have hsets := sets_head (w.heap.size + 1) (w.heap.size + 1 + 1) fs W1 (by omega) s8 KP1.out KC1.out
    obtain ⟨c, hc⟩ : ∃ c, c = (fs.getD 7 nilF).num := ⟨_, rfl⟩
    rw [← hc] at hsets
    have hli : LI w fs [] (.slice none 0 0) c W2 := by
      refine ⟨?_, ?_, ?_, ?_, World.ownsRow_nil _ _ _ _, ?_⟩
      · exact (sets_low _ _ (zip_fst (Q := fun p => w.heap.size ≤ p.b) (fun p hp => by rcases hbs p hp with h | h <;> rw [h] <;> omega)) L1.out).trans (hB.mono (by omega))
      · exact (hB.block _ (by omega)).trans ((sets_other _ _ _ (zip_fst (Q := fun p => p.b ≠ w.heap.size) (fun p hp => by rcases hbs p hp with h | h <;> rw [h] <;> omega))).trans KR1.out)
      · exact (hB.block _ (by omega)).trans hsets.1
      · exact (hB.block _ (by omega)).trans hsets.2
      · have := hB.size; rw [setsW_size] at this; omega
    have HLI := Lib.hid hli
    have HOP2 : Hid ((op, oc) = (match itemsR l c (l.length + 1) [] rn with | none => (zeroP, 20) | some (xs, ap) => if ap ≠ l.length then (zeroP, 20) else if fitP (hdOf fs xs) then (hdOf fs xs, 0) else (zeroP, 54))) := by
      show _ = _
      rw [HOP.out]
      unfold openP
      rw [← HR.out, if_neg (by simp [hre])]
      dsimp only
      rw [← hc]
      rfl
    have HRN : Hid (rn ≤ l.length) := s2
    clear hre hB HRD hsets hli s1 s2 s3 s4 s8 hbs hsz1 hc KR1 KP1 KC1 HOP L1
    go_wp2_with (fail)
    go_step3
    go_wp2_with (fail)
    go_loopw [6, 7] (fun av ok wr => ∃ (xs : List Itm) (ap f m cu : Nat) (au : Option Addr), av = .int .i64 (ap : Int) ∧ ok = .bool true ∧ Hid (itemsR l c f xs ap = itemsR l c (l.length + 1) [] rn ∧ l.length + 1 ≤ f + ap ∧ ap ≤ l.length ∧ xs.length ≤ ap ∧ m = xs.length ∧ ∀ x ∈ xs, x.name.length ≤ l.length) ∧ Hid (LI w fs xs (.slice au m cu) c wr)) (fun av _ _ => nb - (intOf av).toNat)
    case atStart => exact ⟨[], rn, l.length + 1, 0, 0, none, rfl, rfl, ⟨rfl, by omega, HRN.out, by simp, rfl, (fun x h => by cases h)⟩, HLI⟩
    case round =>
      obtain ⟨xs, ap, f, m, cu, au, rfl, rfl, HX, HI⟩ := hrel
      have c7 : wr.cell? ⟨(w.heap.size + 1), 7, none⟩ = some (.slice au m cu) := cell_of_row _ _ 7 _ _ _ HI.out.kp
      have cc := cell_of_row _ _ 0 _ _ _ HI.out.kc
      obtain ⟨f, rfl⟩ : ∃ f', f = f' + 1 := ⟨f - 1, by have h1 := HX.out.2.1; have h2 := HX.out.2.2.1; omega⟩
      have hal : ap ≤ nb := by rw [HNB.out]; exact HX.out.2.2.1
      have hnb : nb ≤ 100000000 := by rw [HNB.out]; exact HL.out
      by_cases hlt : (m : Int) < c
      · obtain ⟨⟨gs, gn, ge⟩, hG⟩ : ∃ R, R = readF (l.drop ap) itemK [] 0 := ⟨_, rfl⟩
        have HG := Lib.hid hG
        have HST : Hid (itemsR l c (f + 1) xs ap = if ge ≠ 0 then none else itemsR l c f (xs ++ [itmOf gs]) (ap + gn)) := by
          show _ = _
          rw [itemsR, if_pos (by have := HX.out.2.2.2.2.1; omega), ← hG]
        obtain ⟨vc, hbc, hcut0⟩ := HB.out.fromB ap HX.out.2.2.1
        have hcut := fun W => hcut0 W .i64
        have HBC := Lib.hid hbc
        obtain ⟨bw, kx⟩ := new_block wr (.cells #[.string ⟨#[]⟩, .int .i64 0, .int .i64 0, .bool false, .int .i64 0, .int .i64 0, .int .i64 0, .int .i64 0, .int .i64 0, .bool false, .int .i64 0, .bool false, .int .i64 0, .int .i64 0, .int .i64 0, .bool false, .int .i64 0, .int .i64 0, .int .i64 0] 38)
        have LWB := Lib.hid (HI.out.low.trans (bw.mono HI.out.low.size))
        have KXB := Lib.hid kx
        clear hG hcut0 hbc bw kx
        go_wp2_with (fail)
        obtain ⟨wb, hwb⟩ : ∃ W, W = wr.alloc (.cells #[.string ⟨#[]⟩, .int .i64 0, .int .i64 0, .bool false, .int .i64 0, .int .i64 0, .int .i64 0, .int .i64 0, .int .i64 0, .bool false, .int .i64 0, .bool false, .int .i64 0, .int .i64 0, .int .i64 0, .bool false, .int .i64 0, .int .i64 0, .int .i64 0] 38) := ⟨_, rfl⟩
        have HWB := Lib.hid hwb
        rw [← hwb] at LWB KXB ⊢
        obtain ⟨xb, hxb⟩ : ∃ b, b = wr.heap.size := ⟨_, rfl⟩
        rw [← hxb] at KXB
        simp only [← hxb]
        have HXB := Lib.hid hxb
        clear hwb hxb c7 cc
        by_cases hge : ge = 0
        · have hsy := readF_says (l := l.drop ap) (ks := itemK) (by rw [← HG.out]; exact hge)
          rw [← HG.out] at hsy
          obtain ⟨y1, y2, y3, y4⟩ := hsy
          dsimp only at y1 y2 y3 y4
          rw [List.length_drop] at y2 y4
          have y19 : 19 ≤ gn := y3
          have hgn : ap + gn ≤ nb := by rw [HNB.out]; have := HX.out.2.2.1; omega
          have HY : Hid (gs.length = 19 ∧ ∀ g ∈ gs, g.text.length ≤ l.length) := ⟨y1, fun g hg => by have := (y4 g hg).1; omega⟩
          have HRD2 : Hid (∀ q W, Below wb.heap.size wb W → InvI q xb W → Calls Tryd.prog 69 #[vc, (.func (.func 61) #[] #[.pointer (some ⟨q, 0, none⟩)])] W fun e w' => e = .returned (.tuple #[.int .i64 (gn : Int), .bool true]) ∧ Below wb.heap.size (setsW wb ((itemP xb).zip gs)) w') := fun q W hb hq => by
            have h := item_read xb q vc (l.drop ap) W (HBC.out.below (LWB.out.trans (hb.mono LWB.out.size)) (LWB.out.trans (hb.mono LWB.out.size)).size) (by rw [List.length_drop]; have := HL.out; omega) (stays KXB.out hb) hq
            rw [← HG.out] at h
            dsimp only at h
            refine h.mono ?_
            rintro e w' (⟨h1, h2, h3⟩ | ⟨h1, h2, h3⟩)
            · exact absurd hge h1
            · exact ⟨h2, (sets_below _ _ _ hb (zip_fst (Q := fun p => ∃ (cs : Array Value) (t : TypeId), wb.heap[p.b]? = some (.cells cs t (0, 0))) (fun p hp => ⟨_, _, by rw [itemP_b p hp]; exact KXB.out⟩))).trans (h3.mono hb.size)⟩
          clear y1 y2 y3 y4
          refine wpIn_wide (n := 5).1 (wpIn_flowM (F0 := Fence.wide) (n0 := 5) (fun _ => trivial) (fun h => by cases h) (by kernel_rfl) (by kernel_rfl) 10 10 (by kernel_rfl) (fun j => ([0, 1, 2, 3, 4, 5, 6, 7, 8, 9] : List Nat).getD j 0) (fun j => ([26, 27, 28, 29, 30, 25, 31, 32, 9, 10] : List Nat).getD j 0) (by kernel_rfl) (by kernel_rfl) (by kernel_rfl) (by kernel_rfl) (by kernel_rfl) (by kernel_rfl) (by kernel_rfl) (fun j zv => ([(fun zv => zv = (.slice ba nb bc)), (fun zv => zv = (.int .i64 (ap : Int))), (fun zv => zv = vc), (fun _ => True), (fun zv => zv = (.tuple #[.int .i64 (gn : Int), .bool true])), (fun zv => zv = (.tuple #[.int .i64 (gn : Int), .bool true])), (fun zv => zv = (.int .i64 (gn : Int))), (fun zv => zv = (.bool true)), (fun zv => zv = (.int .i64 (gn : Int))), (fun zv => zv = (.bool true))] : List (Value → Prop)).getD j (fun _ => True) zv) (fun d vs W => (d 4 = false → Below wb.heap.size wb W) ∧ (d 4 = true → Below wb.heap.size (setsW wb ((itemP xb).zip gs)) W ∧ d 3 = true) ∧ (d 3 = true → d 4 = false → ∃ q, vs 3 = (.func (.func 61) #[] #[.pointer (some ⟨q, 0, none⟩)]) ∧ InvI q xb W)) ?h0i ?stepi ?fini)
          case h0i => exact fun vs => ⟨fun _ => (Below.refl _ _).drew, (fun h => by cases h), (fun h => by cases h)⟩
          case stepi =>
            intro i o a W d vs hi ho hdi hJ hf hr hF
            replace hi : i < 10 := hi
            rcases (show i = 0 ∨ i = 1 ∨ i = 2 ∨ i = 3 ∨ i = 4 ∨ i = 5 ∨ i = 6 ∨ i = 7 ∨ i = 8 ∨ i = 9 by omega) with rfl | rfl | rfl | rfl | rfl | rfl | rfl | rfl | rfl | rfl
            · replace ho := op_at ho (by rfl)
              subst ho
              have f0 : a.tmps.getD 0 undef = (.slice ba nb bc) := hf 0 (by kernel_rfl)
              exact .inl ⟨(fun k b h => by cases h), .inl ⟨0, by decide, rfl, (.slice ba nb bc), W, (by simp [go_sem, Act.eval, f0]), rfl, hJ⟩⟩
            · replace ho := op_at ho (by rfl)
              subst ho
              have f6 : a.tmps.getD 6 undef = (.int .i64 (ap : Int)) := hf 6 (by kernel_rfl)
              exact .inl ⟨(fun k b h => by cases h), .inl ⟨1, by decide, rfl, (.int .i64 (ap : Int)), W, (by simp [go_sem, Act.eval, f6]), rfl, hJ⟩⟩
            · replace ho := op_at ho (by rfl)
              subst ho
              have d0 : a.tmps.getD 26 undef = (.slice ba nb bc) := by have h1 := hF 0 (by decide) (hr 0 (by kernel_rfl)); exact h1.2.trans h1.1
              have d1 : a.tmps.getD 27 undef = (.int .i64 (ap : Int)) := by have h1 := hF 1 (by decide) (hr 1 (by kernel_rfl)); exact h1.2.trans h1.1
              exact .inl ⟨(fun k b h => by cases h), .inl ⟨2, by decide, rfl, vc, W, (by simp [go_sem, Act.eval, d0, d1, hcut]), rfl, hJ⟩⟩
            · replace ho := op_at ho (by rfl)
              subst ho
              have f8 : a.tmps.getD 8 undef = (.pointer (some ⟨xb, 0, none⟩)) := hf 8 (by kernel_rfl)
              have h4 : d 4 = false := by cases h : d 4 with | false => rfl | true => have h1 := (hJ.2.1 h).2; rw [hdi] at h1; cases h1
              refine .inl ⟨(fun k b h => by cases h), .inr (.inr ⟨3, by decide, rfl, 35, #[.pointer (some ⟨xb, 0, none⟩)], W, (by simp [go_sem, Act.eval, f8]), ?_⟩)⟩
              refine (callsIn_wide.2 (item_calls xb W)).mono ?_
              rintro e W' ⟨rfl, rfl⟩
              exact ⟨_, rfl, trivial, (fun _ => (hJ.1 h4).trans ((new_block W _).1.mono (hJ.1 h4).size)), (fun h => by have h2 : d 4 = true := h; rw [h4] at h2; cases h2), fun _ _ => ⟨_, rfl, (new_block W _).2⟩⟩
            · replace ho := op_at ho (by rfl)
              subst ho
              have d2 : a.tmps.getD 28 undef = vc := by have h1 := hF 2 (by decide) (hr 2 (by kernel_rfl)); exact h1.2.trans h1.1
              obtain ⟨g3, e3⟩ := hF 3 (by decide) (hr 3 (by kernel_rfl))
              replace e3 : a.tmps.getD 29 undef = vs 3 := e3
              replace g3 : (fun _ => True) (vs 3) := g3
              have t3 : d 3 = true := hr 3 (by kernel_rfl)
              obtain ⟨q, hq1, hq2⟩ := hJ.2.2 t3 hdi
              rw [hq1] at e3
              refine .inl ⟨(fun k b h => by cases h), .inr (.inr ⟨4, by decide, rfl, 69, #[vc, (.func (.func 61) #[] #[.pointer (some ⟨q, 0, none⟩)])], W, (by simp [go_sem, Act.eval, d2, e3]), ?_⟩)⟩
              refine (callsIn_wide.2 (HRD2.out q W (hJ.1 hdi) hq2)).mono ?_
              rintro e W' ⟨rfl, hBe⟩
              exact ⟨_, rfl, rfl, (fun h => by cases h), (fun _ => ⟨hBe, t3⟩), fun _ h => by cases h⟩
            · replace ho := op_at ho (by rfl)
              subst ho
              have d4 : a.tmps.getD 30 undef = (.tuple #[.int .i64 (gn : Int), .bool true]) := by have h1 := hF 4 (by decide) (hr 4 (by kernel_rfl)); exact h1.2.trans h1.1
              exact .inl ⟨(fun k b h => by cases h), .inl ⟨5, by decide, rfl, (.tuple #[.int .i64 (gn : Int), .bool true]), W, (by simp [go_sem, Act.eval, d4]), rfl, hJ⟩⟩
            · replace ho := op_at ho (by rfl)
              subst ho
              have d5 : a.tmps.getD 25 undef = (.tuple #[.int .i64 (gn : Int), .bool true]) := by have h1 := hF 5 (by decide) (hr 5 (by kernel_rfl)); exact h1.2.trans h1.1
              exact .inl ⟨(fun k b h => by cases h), .inl ⟨6, by decide, rfl, (.int .i64 (gn : Int)), W, (by simp [go_sem, Act.eval, d5]), rfl, hJ⟩⟩
            · replace ho := op_at ho (by rfl)
              subst ho
              have d5 : a.tmps.getD 25 undef = (.tuple #[.int .i64 (gn : Int), .bool true]) := by have h1 := hF 5 (by decide) (hr 5 (by kernel_rfl)); exact h1.2.trans h1.1
              exact .inl ⟨(fun k b h => by cases h), .inl ⟨7, by decide, rfl, (.bool true), W, (by simp [go_sem, Act.eval, d5]), rfl, hJ⟩⟩
            · replace ho := op_at ho (by rfl)
              subst ho
              have d6 : a.tmps.getD 31 undef = (.int .i64 (gn : Int)) := by have h1 := hF 6 (by decide) (hr 6 (by kernel_rfl)); exact h1.2.trans h1.1
              exact .inl ⟨(fun k b h => by cases h), .inl ⟨8, by decide, rfl, (.int .i64 (gn : Int)), W, (by simp [go_sem, Act.eval, d6]), rfl, hJ⟩⟩
            · replace ho := op_at ho (by rfl)
              subst ho
              have d7 : a.tmps.getD 32 undef = (.bool true) := by have h1 := hF 7 (by decide) (hr 7 (by kernel_rfl)); exact h1.2.trans h1.1
              exact .inl ⟨(fun k b h => by cases h), .inl ⟨9, by decide, rfl, (.bool true), W, (by simp [go_sem, Act.eval, d7]), rfl, hJ⟩⟩
          case fini =>
            intro d vs Wi hall hJ hF
            have h0 : vs 0 = (.slice ba nb bc) := hF 0 (by decide)
            have h1 : vs 1 = (.int .i64 (ap : Int)) := hF 1 (by decide)
            have h2 : vs 2 = vc := hF 2 (by decide)
            have h3 : (fun _ => True) (vs 3) := hF 3 (by decide)
            have h4 : vs 4 = (.tuple #[.int .i64 (gn : Int), .bool true]) := hF 4 (by decide)
            have h5 : vs 5 = (.tuple #[.int .i64 (gn : Int), .bool true]) := hF 5 (by decide)
            have h6 : vs 6 = (.int .i64 (gn : Int)) := hF 6 (by decide)
            have h7 : vs 7 = (.bool true) := hF 7 (by decide)
            have h8 : vs 8 = (.int .i64 (gn : Int)) := hF 8 (by decide)
            have h9 : vs 9 = (.bool true) := hF 9 (by decide)
            clear hF
            have hT := (hJ.2.1 (hall 4 (by decide))).1
            clear hJ hall h3
            show (_ : Exit → Act → World → Prop) Exit.normal (puts _ vs 10 _) Wi
            simp only [puts, h0, h1, h2, h4, h5, h6, h7, h8, h9, List.getD_cons_zero, List.getD_cons_succ]
            clear h0 h1 h2 h4 h5 h6 h7 h8 h9
            rw [HWB.out, HXB.out] at hT
            obtain ⟨hli, hkx⟩ := HI.out.reads HY.out.1 hT
            rw [← HXB.out] at hkx
            obtain ⟨x, hx⟩ : ∃ x, x = itmOf gs := ⟨_, rfl⟩
            rw [← hx] at hkx
            have HXI := Lib.hid hx
            have HLI2 := Lib.hid hli
            have HKX := Lib.hid hkx
            have c7 : Wi.cell? ⟨(w.heap.size + 1), 7, none⟩ = some (.slice au m cu) := cell_of_row _ _ 7 _ _ _ hli.kp
            obtain ⟨bz, kz⟩ := new_block Wi (.cells x.cells.toArray 38)
            obtain ⟨i0, ji, jz0, jz1, jz2⟩ := info_parts info_item
            obtain ⟨gz, capz, W8, hrunz, nz, gz8, lz⟩ := op_append_row 22 38 i0 _ 19 160 Tryd.underlying22 ji jz0 jz1 jz2 rfl (by decide) (Wi.alloc (.cells x.cells.toArray 38)) (w.heap.size + 3) (.slice au m cu) xs.length _ Wi.heap.size 1 x.cells (World.ownsRow.kept hli.own (row := none) ⟨bz.os, bz.tape, bz.output, bz.size, fun k hk _ => bz.block k hk⟩ (by
              cases hv : (Value.slice au m cu).ownBlock with
              | none => exact .inl rfl
              | some k => exact .inr (by simp))) kz rfl (itm_cells x) (by decide) (by have := HX.out.2.2.2.1; have := HX.out.2.2.1; have := HL.out; omega) (by have := HX.out.2.2.2.1; have := HX.out.2.2.1; have := HL.out; omega) (by have := hli.sz; simp; omega)
            rw [← HX.out.2.2.2.2.1] at hrunz nz
            have nz' : OwnX W8 (w.heap.size + 3) (.slice (some ⟨gz, 0, none⟩) (m + 1) capz) (xs ++ [x]) := by
              show World.ownsRow _ _ _ _ _ _ _
              rw [List.length_append, List.flatMap_append, ← HX.out.2.2.2.2.1]
              simp only [List.flatMap_cons, List.flatMap_nil, List.append_nil]
              exact nz
            have hli9 := Lib.hid (hli.appends bz x _ gz8 nz')
            have ge8 : ∀ k, (Value.slice au m cu).ownBlock = some k → w.heap.size + 3 ≤ k := fun k e => (World.ownsRow.lt hli.own k e).1
            have hpb := (gz8.block (w.heap.size + 1) (by have := hli.sz; simp; omega) (fun e => by have := ge8 _ e.symm; omega)).trans ((bz.block _ (by have := hli.sz; omega)).trans hli.kp)
            have HPB := Lib.hid hpb
            have HRZ := Lib.hid hrunz
            clear hT hli hkx hx kz ji jz0 jz1 jz2 nz nz' gz8 lz ge8 hpb hrunz HLI2 bz
            go_simp
            go_upto_region 10 with (fail)
            refine wp_region_lit ?_
            refine wpList_run (v := .pointer (some ⟨(w.heap.size + 1), 7, none⟩)) (w' := Wi) rfl (by simp [go_sem, Act.eval]) ?_
            refine wpList_run (v := .slice au m cu) (w' := Wi) rfl (by simp [go_sem, Act.eval, c7]) ?_
            refine wpList_run (w' := Wi) rfl (exec_load_row 38 _ rfl xb _ _ (.struct (Tryd.prog.fieldsOf 38)) rfl HKX.out (by kernel_rfl) rfl (by kernel_rfl)) ?_
            refine wpList_run rfl (exec_buildSlice _ _ _ rfl #[(0, .agg x.cells.toArray)] (by kernel_rfl) _ _ (build_itm x Wi)) ?_
            refine wpList_run rfl (HRZ.out _ _ 39 41 (by kernel_rfl) (by kernel_rfl) rfl rfl) ?_
            have d7 := cell_of_row _ _ 7 _ _ _ HPB.out
            have z7 := frozen_of_row _ _ 7 _ _ HPB.out
            refine wpList_run (v := .pointer (some ⟨(w.heap.size + 1), 7, none⟩)) (w' := W8) rfl (by kernel_rfl) ?_
            refine wpList_skip (w' := W8.setCell ⟨(w.heap.size + 1), 7, none⟩ (.slice (some ⟨gz, 0, none⟩) (m + 1) capz)) rfl rfl (exec_store 22 _ _ rfl (.pointer (some ⟨(w.heap.size + 1), 7, none⟩)) (.slice (some ⟨gz, 0, none⟩) (m + 1) capz) (by kernel_rfl) (by kernel_rfl) (by simp [go_sem, d7, z7])) ?_
            refine wpList_nil ?_
            clear d7 z7 c7
            go_simp
            go_wp2_with (fail)
            go_roundw
            case rel => exact ⟨xs ++ [x], ap + gn, f, m + 1, capz, some ⟨gz, 0, none⟩, by go_num, rfl, (by
              have h1 := HX.out
              refine ⟨by rw [← h1.1, HST.out, if_neg (by simp [hge]), ← HXI.out], by omega, by have := HNB.out; omega, by simp; omega, by simp [h1.2.2.2.2.1], fun y hy => ?_⟩
              rcases List.mem_append.1 hy with hy | hy
              · exact h1.2.2.2.2.2 y hy
              · rw [List.mem_singleton] at hy
                subst hy
                rw [HXI.out]
                have h0 : gs.getD 0 nilF ∈ gs := by
                  rw [List.getD_eq_getElem?_getD, List.getElem?_eq_getElem (by rw [HY.out.1]; omega)]
                  exact List.getElem_mem _
                exact HY.out.2 _ h0), hli9⟩
            case measure => simp [intOf] <;> omega
        · have HE : Hid (op = zeroP ∧ oc = 20) := by
            have h := HOP2.out
            rw [← HX.out.1, HST.out, if_pos hge] at h
            exact ⟨congrArg Prod.fst h, congrArg Prod.snd h⟩
          have HRD2 : Hid (∀ q W, Below wb.heap.size wb W → InvI q xb W → Calls Tryd.prog 69 #[vc, (.func (.func 61) #[] #[.pointer (some ⟨q, 0, none⟩)])] W fun e w' => e = .returned (.tuple #[.int .i64 0, .bool false]) ∧ Below wb.heap.size wb w') := fun q W hb hq => by
            have h := item_read xb q vc (l.drop ap) W (HBC.out.below (LWB.out.trans (hb.mono LWB.out.size)) (LWB.out.trans (hb.mono LWB.out.size)).size) (by rw [List.length_drop]; have := HL.out; omega) (stays KXB.out hb) hq
            rw [← HG.out] at h
            dsimp only at h
            refine h.mono ?_
            rintro e w' (⟨h1, h2, h3⟩ | ⟨h1, h2, h3⟩)
            · exact ⟨h2, hb.trans (h3.mono hb.size)⟩
            · exact absurd h1 hge
          refine wpIn_wide (n := 5).1 (wpIn_flowM (F0 := Fence.wide) (n0 := 5) (fun _ => trivial) (fun h => by cases h) (by kernel_rfl) (by kernel_rfl) 10 10 (by kernel_rfl) (fun j => ([0, 1, 2, 3, 4, 5, 6, 7, 8, 9] : List Nat).getD j 0) (fun j => ([26, 27, 28, 29, 30, 25, 31, 32, 9, 10] : List Nat).getD j 0) (by kernel_rfl) (by kernel_rfl) (by kernel_rfl) (by kernel_rfl) (by kernel_rfl) (by kernel_rfl) (by kernel_rfl) (fun j zv => ([(fun zv => zv = (.slice ba nb bc)), (fun zv => zv = (.int .i64 (ap : Int))), (fun zv => zv = vc), (fun _ => True), (fun zv => zv = (.tuple #[.int .i64 0, .bool false])), (fun zv => zv = (.tuple #[.int .i64 0, .bool false])), (fun zv => zv = (.int .i64 0)), (fun zv => zv = (.bool false)), (fun zv => zv = (.int .i64 0)), (fun zv => zv = (.bool false))] : List (Value → Prop)).getD j (fun _ => True) zv) (fun d vs W => (d 4 = false → Below wb.heap.size wb W) ∧ (d 4 = true → Below wb.heap.size wb W ∧ d 3 = true) ∧ (d 3 = true → d 4 = false → ∃ q, vs 3 = (.func (.func 61) #[] #[.pointer (some ⟨q, 0, none⟩)]) ∧ InvI q xb W)) ?h0j ?stepj ?finj)
          case h0j => exact fun vs => ⟨fun _ => (Below.refl _ _).drew, (fun h => by cases h), (fun h => by cases h)⟩
          case stepj =>
            intro i o a W d vs hi ho hdi hJ hf hr hF
            replace hi : i < 10 := hi
            rcases (show i = 0 ∨ i = 1 ∨ i = 2 ∨ i = 3 ∨ i = 4 ∨ i = 5 ∨ i = 6 ∨ i = 7 ∨ i = 8 ∨ i = 9 by omega) with rfl | rfl | rfl | rfl | rfl | rfl | rfl | rfl | rfl | rfl
            · replace ho := op_at ho (by rfl)
              subst ho
              have f0 : a.tmps.getD 0 undef = (.slice ba nb bc) := hf 0 (by kernel_rfl)
              exact .inl ⟨(fun k b h => by cases h), .inl ⟨0, by decide, rfl, (.slice ba nb bc), W, (by simp [go_sem, Act.eval, f0]), rfl, hJ⟩⟩
            · replace ho := op_at ho (by rfl)
              subst ho
              have f6 : a.tmps.getD 6 undef = (.int .i64 (ap : Int)) := hf 6 (by kernel_rfl)
              exact .inl ⟨(fun k b h => by cases h), .inl ⟨1, by decide, rfl, (.int .i64 (ap : Int)), W, (by simp [go_sem, Act.eval, f6]), rfl, hJ⟩⟩
            · replace ho := op_at ho (by rfl)
              subst ho
              have d0 : a.tmps.getD 26 undef = (.slice ba nb bc) := by have h1 := hF 0 (by decide) (hr 0 (by kernel_rfl)); exact h1.2.trans h1.1
              have d1 : a.tmps.getD 27 undef = (.int .i64 (ap : Int)) := by have h1 := hF 1 (by decide) (hr 1 (by kernel_rfl)); exact h1.2.trans h1.1
              exact .inl ⟨(fun k b h => by cases h), .inl ⟨2, by decide, rfl, vc, W, (by simp [go_sem, Act.eval, d0, d1, hcut]), rfl, hJ⟩⟩
            · replace ho := op_at ho (by rfl)
              subst ho
              have f8 : a.tmps.getD 8 undef = (.pointer (some ⟨xb, 0, none⟩)) := hf 8 (by kernel_rfl)
              have h4 : d 4 = false := by cases h : d 4 with | false => rfl | true => have h1 := (hJ.2.1 h).2; rw [hdi] at h1; cases h1
              refine .inl ⟨(fun k b h => by cases h), .inr (.inr ⟨3, by decide, rfl, 35, #[.pointer (some ⟨xb, 0, none⟩)], W, (by simp [go_sem, Act.eval, f8]), ?_⟩)⟩
              refine (callsIn_wide.2 (item_calls xb W)).mono ?_
              rintro e W' ⟨rfl, rfl⟩
              exact ⟨_, rfl, trivial, (fun _ => (hJ.1 h4).trans ((new_block W _).1.mono (hJ.1 h4).size)), (fun h => by have h2 : d 4 = true := h; rw [h4] at h2; cases h2), fun _ _ => ⟨_, rfl, (new_block W _).2⟩⟩
            · replace ho := op_at ho (by rfl)
              subst ho
              have d2 : a.tmps.getD 28 undef = vc := by have h1 := hF 2 (by decide) (hr 2 (by kernel_rfl)); exact h1.2.trans h1.1
              obtain ⟨g3, e3⟩ := hF 3 (by decide) (hr 3 (by kernel_rfl))
              replace e3 : a.tmps.getD 29 undef = vs 3 := e3
              replace g3 : (fun _ => True) (vs 3) := g3
              have t3 : d 3 = true := hr 3 (by kernel_rfl)
              obtain ⟨q, hq1, hq2⟩ := hJ.2.2 t3 hdi
              rw [hq1] at e3
              refine .inl ⟨(fun k b h => by cases h), .inr (.inr ⟨4, by decide, rfl, 69, #[vc, (.func (.func 61) #[] #[.pointer (some ⟨q, 0, none⟩)])], W, (by simp [go_sem, Act.eval, d2, e3]), ?_⟩)⟩
              refine (callsIn_wide.2 (HRD2.out q W (hJ.1 hdi) hq2)).mono ?_
              rintro e W' ⟨rfl, hBe⟩
              exact ⟨_, rfl, rfl, (fun h => by cases h), (fun _ => ⟨hBe, t3⟩), fun _ h => by cases h⟩
            · replace ho := op_at ho (by rfl)
              subst ho
              have d4 : a.tmps.getD 30 undef = (.tuple #[.int .i64 0, .bool false]) := by have h1 := hF 4 (by decide) (hr 4 (by kernel_rfl)); exact h1.2.trans h1.1
              exact .inl ⟨(fun k b h => by cases h), .inl ⟨5, by decide, rfl, (.tuple #[.int .i64 0, .bool false]), W, (by simp [go_sem, Act.eval, d4]), rfl, hJ⟩⟩
            · replace ho := op_at ho (by rfl)
              subst ho
              have d5 : a.tmps.getD 25 undef = (.tuple #[.int .i64 0, .bool false]) := by have h1 := hF 5 (by decide) (hr 5 (by kernel_rfl)); exact h1.2.trans h1.1
              exact .inl ⟨(fun k b h => by cases h), .inl ⟨6, by decide, rfl, (.int .i64 0), W, (by simp [go_sem, Act.eval, d5]), rfl, hJ⟩⟩
            · replace ho := op_at ho (by rfl)
              subst ho
              have d5 : a.tmps.getD 25 undef = (.tuple #[.int .i64 0, .bool false]) := by have h1 := hF 5 (by decide) (hr 5 (by kernel_rfl)); exact h1.2.trans h1.1
              exact .inl ⟨(fun k b h => by cases h), .inl ⟨7, by decide, rfl, (.bool false), W, (by simp [go_sem, Act.eval, d5]), rfl, hJ⟩⟩
            · replace ho := op_at ho (by rfl)
              subst ho
              have d6 : a.tmps.getD 31 undef = (.int .i64 0) := by have h1 := hF 6 (by decide) (hr 6 (by kernel_rfl)); exact h1.2.trans h1.1
              exact .inl ⟨(fun k b h => by cases h), .inl ⟨8, by decide, rfl, (.int .i64 0), W, (by simp [go_sem, Act.eval, d6]), rfl, hJ⟩⟩
            · replace ho := op_at ho (by rfl)
              subst ho
              have d7 : a.tmps.getD 32 undef = (.bool false) := by have h1 := hF 7 (by decide) (hr 7 (by kernel_rfl)); exact h1.2.trans h1.1
              exact .inl ⟨(fun k b h => by cases h), .inl ⟨9, by decide, rfl, (.bool false), W, (by simp [go_sem, Act.eval, d7]), rfl, hJ⟩⟩
          case finj =>
            intro d vs Wj hall hJ hF
            have h0 : vs 0 = (.slice ba nb bc) := hF 0 (by decide)
            have h1 : vs 1 = (.int .i64 (ap : Int)) := hF 1 (by decide)
            have h2 : vs 2 = vc := hF 2 (by decide)
            have h3 : (fun _ => True) (vs 3) := hF 3 (by decide)
            have h4 : vs 4 = (.tuple #[.int .i64 0, .bool false]) := hF 4 (by decide)
            have h5 : vs 5 = (.tuple #[.int .i64 0, .bool false]) := hF 5 (by decide)
            have h6 : vs 6 = (.int .i64 0) := hF 6 (by decide)
            have h7 : vs 7 = (.bool false) := hF 7 (by decide)
            have h8 : vs 8 = (.int .i64 0) := hF 8 (by decide)
            have h9 : vs 9 = (.bool false) := hF 9 (by decide)
            clear hF
            have hT := (hJ.2.1 (hall 4 (by decide))).1
            clear hJ hall h3
            show (_ : Exit → Act → World → Prop) Exit.normal (puts _ vs 10 _) Wj
            simp only [puts, h0, h1, h2, h4, h5, h6, h7, h8, h9, List.getD_cons_zero, List.getD_cons_succ]
            clear h0 h1 h2 h4 h5 h6 h7 h8 h9
            rw [HWB.out] at hT
            have hli := HI.out.fails hT
            have HLX := Lib.hid hli.low
            have HKR := Lib.hid hli.kr
            clear hT hli
            go_simp
            go_upto_region 12 with (fail)
            refine wp_region_lit ?_
            refine wpList_run (v := .agg #[.int .i64 0, .int .i64 0, .int .i64 0, .int .i64 0, .int .i64 0, .int .i64 0, .int .i64 0, .slice none 0 0]) (w' := Wj) rfl (by kernel_rfl) ?_
            refine wpList_skip (w' := Wj.setCells w.heap.size 0 [.int .i64 0, .int .i64 0, .int .i64 0, .int .i64 0, .int .i64 0, .int .i64 0, .int .i64 0, .slice none 0 0]) rfl rfl (exec_store 24 _ _ rfl _ _ rfl rfl (run_store_row _ w.heap.size 0 _ _ 24 #[.int .i64 0, .int .i64 0, .int .i64 0, .int .i64 0, .int .i64 0, .int .i64 0, .int .i64 0, .slice none 0 0] HKR.out (by simp) (by kernel_rfl) (by simp [Value.oneCell']))) ?_
            refine wpList_run (v := .int .i64 20) (w' := Wj.setCells w.heap.size 0 [.int .i64 0, .int .i64 0, .int .i64 0, .int .i64 0, .int .i64 0, .int .i64 0, .int .i64 0, .slice none 0 0]) rfl (by kernel_rfl) ?_
            refine wpList_nil ?_
            go_simp
            go_wp2
            try rw [Exit.noGoto_ret]
            have hst := setCells_block 24 w.heap.size [.int .i64 0, .int .i64 0, .int .i64 0, .int .i64 0, .int .i64 0, .int .i64 0, .int .i64 0, .slice none 0 0] 0 _ _ HKR.out
            refine bodyPost_ret (v := .tuple #[.agg #[.int .i64 0, .int .i64 0, .int .i64 0, .int .i64 0, .int .i64 0, .int .i64 0, .int .i64 0, .slice none 0 0], .int .i64 20]) (results_pkt rfl rfl (by rfl) hst) rfl ⟨zeroP, .slice none 0 0, by rw [HE.out.2]; rfl, World.ownsRow_nil _ _ _ _, HE.out.1.symm, setCells_below (Nat.le_refl _) _ _ _ _ HLX.out⟩
      · have hIT : itemsR l c (l.length + 1) [] rn = some (xs, ap) := by
          rw [← HX.out.1, itemsR, if_neg (by have := HX.out.2.2.2.2.1; omega)]
        have hO := HOP2.out
        rw [hIT] at hO
        dsimp only at hO
        by_cases hae : ap = nb
        · have hO2 := hO
          rw [if_neg (by rw [← HNB.out, hae]; simp)] at hO2
          have hims := OwnX.ims HI.out.own
          have hfit := fit_any (hdOf fs xs) (.slice au m cu) wr hims.1 (fun x hx => by have := HX.out.2.2.2.2.2 x hx; have := HL.out; omega)
          have HIMS := Lib.hid hims
          have HFIT := Lib.hid hfit
          have hnl : ¬ ((m : Int) < c) := hlt
          clear hO hIT hlt hfit hims
          obtain ⟨bf, hbf⟩ : ∃ b, b = fitP (hdOf fs xs) := ⟨_, rfl⟩
          rw [← hbf] at hO2 HFIT
          have HO2 := Lib.hid hO2
          clear hO2 hbf
          go_upto_region 13 with (fail)
          refine wp_region_lit ?_
          refine wpList_run (w' := wr) rfl (exec_load_row 24 _ rfl (w.heap.size + 1) _ _ (.struct (Tryd.prog.fieldsOf 24)) rfl HI.out.kp (by kernel_rfl) rfl (by kernel_rfl)) ?_
          go_wp2_with (fail)
          with_reducible refine HFIT.out.mono ?_
          rintro e W3 ⟨rfl, hB⟩
          have HLX := Lib.hid (HI.out.low.trans (hB.mono HI.out.low.size))
          have HKR := Lib.hid (stays HI.out.kr hB)
          have HKP := Lib.hid (stays HI.out.kp hB)
          have HOX : Hid (OwnX W3 (w.heap.size + 3) (.slice au m cu) xs) := World.ownsRow.kept HI.out.own (row := none) ⟨hB.os, hB.tape, hB.output, hB.size, fun k hk _ => hB.block k hk⟩ (by
            cases hv : (Value.slice au m cu).ownBlock with
            | none => exact .inl rfl
            | some k => exact .inr (by simp))
          clear HFIT hB HIMS
          cases bf with
          | false =>
            have HE : Hid (op = zeroP ∧ oc = 54) := ⟨congrArg Prod.fst HO2.out, congrArg Prod.snd HO2.out⟩
            go_upto_region 14 with (fail)
            refine wp_region_lit ?_
            refine wpList_run (v := .agg #[.int .i64 0, .int .i64 0, .int .i64 0, .int .i64 0, .int .i64 0, .int .i64 0, .int .i64 0, .slice none 0 0]) (w' := W3) rfl (by kernel_rfl) ?_
            refine wpList_skip (w' := W3.setCells w.heap.size 0 [.int .i64 0, .int .i64 0, .int .i64 0, .int .i64 0, .int .i64 0, .int .i64 0, .int .i64 0, .slice none 0 0]) rfl rfl (exec_store 24 _ _ rfl _ _ rfl rfl (run_store_row _ w.heap.size 0 _ _ 24 #[.int .i64 0, .int .i64 0, .int .i64 0, .int .i64 0, .int .i64 0, .int .i64 0, .int .i64 0, .slice none 0 0] HKR.out (by simp) (by kernel_rfl) (by simp [Value.oneCell']))) ?_
            refine wpList_run (v := .int .i64 54) (w' := W3.setCells w.heap.size 0 [.int .i64 0, .int .i64 0, .int .i64 0, .int .i64 0, .int .i64 0, .int .i64 0, .int .i64 0, .slice none 0 0]) rfl (by kernel_rfl) ?_
            refine wpList_nil ?_
            go_simp
            go_wp2
            try rw [Exit.noGoto_ret]
            have hst := setCells_block 24 w.heap.size [.int .i64 0, .int .i64 0, .int .i64 0, .int .i64 0, .int .i64 0, .int .i64 0, .int .i64 0, .slice none 0 0] 0 _ _ HKR.out
            refine bodyPost_ret (v := .tuple #[.agg #[.int .i64 0, .int .i64 0, .int .i64 0, .int .i64 0, .int .i64 0, .int .i64 0, .int .i64 0, .slice none 0 0], .int .i64 54]) (results_pkt rfl rfl (by rfl) hst) rfl ⟨zeroP, .slice none 0 0, by rw [HE.out.2]; rfl, World.ownsRow_nil _ _ _ _, HE.out.1.symm, setCells_below (Nat.le_refl _) _ _ _ _ HLX.out⟩
          | true =>
            have HE : Hid (op = hdOf fs xs ∧ oc = 0) := ⟨congrArg Prod.fst HO2.out, congrArg Prod.snd HO2.out⟩
            go_upto_region 15 with (fail)
            refine wp_region_lit ?_
            refine wpList_run (w' := W3) rfl (exec_load_row 24 _ rfl (w.heap.size + 1) _ _ (.struct (Tryd.prog.fieldsOf 24)) rfl HKP.out (by kernel_rfl) rfl (by kernel_rfl)) ?_
            refine wpList_skip (w' := W3.setCells w.heap.size 0 ((hdOf fs xs).cells (.slice au m cu))) rfl rfl (exec_store 24 _ _ rfl (.pointer (some ⟨w.heap.size, 0, none⟩)) (.agg ((hdOf fs xs).cells (.slice au m cu)).toArray) rfl rfl (run_store_row _ w.heap.size 0 _ _ 24 ((hdOf fs xs).cells (.slice au m cu)).toArray HKR.out (by simp) (by kernel_rfl) (by simp [Value.oneCell']))) ?_
            refine wpList_run (v := .int .i64 0) (w' := W3.setCells w.heap.size 0 ((hdOf fs xs).cells (.slice au m cu))) rfl (by kernel_rfl) ?_
            refine wpList_nil ?_
            go_simp
            go_wp2
            try rw [Exit.noGoto_ret]
            have hst : (W3.setCells w.heap.size 0 ((hdOf fs xs).cells (.slice au m cu))).heap[w.heap.size]? = some (.cells ((hdOf fs xs).cells (.slice au m cu)).toArray 24 (0, 0)) := by rw [← splice8]; exact setCells_block 24 w.heap.size ((hdOf fs xs).cells (.slice au m cu)) 0 _ _ HKR.out
            have hox := owns_mono (OwnX.sets HOX.out ((hdOf fs xs).cells (.slice au m cu)) 0 (b := w.heap.size) (by omega)) (show w.heap.size ≤ w.heap.size + 3 by omega)
            exact bodyPost_ret (v := .tuple #[.agg ((hdOf fs xs).cells (.slice au m cu)).toArray, .int .i64 0]) (results_pkt rfl rfl (by rfl) hst) rfl ⟨hdOf fs xs, .slice au m cu, by rw [HE.out.2]; rfl, hox, HE.out.1.symm, setCells_below (Nat.le_refl _) _ _ _ _ HLX.out⟩
        · have HE : Hid (op = zeroP ∧ oc = 20) := by
            rw [if_pos (by rw [← HNB.out]; exact hae)] at hO
            exact ⟨congrArg Prod.fst hO, congrArg Prod.snd hO⟩
          have HLX := Lib.hid HI.out.low
          have HKR := Lib.hid HI.out.kr
          have hne : ¬ ((ap : Int) = (nb : Int)) := by omega
          clear hO hIT hae
          go_upto_region 12 with (fail)
          refine wp_region_lit ?_
          refine wpList_run (v := .agg #[.int .i64 0, .int .i64 0, .int .i64 0, .int .i64 0, .int .i64 0, .int .i64 0, .int .i64 0, .slice none 0 0]) (w' := wr) rfl (by kernel_rfl) ?_
          refine wpList_skip (w' := wr.setCells w.heap.size 0 [.int .i64 0, .int .i64 0, .int .i64 0, .int .i64 0, .int .i64 0, .int .i64 0, .int .i64 0, .slice none 0 0]) rfl rfl (exec_store 24 _ _ rfl _ _ rfl rfl (run_store_row _ w.heap.size 0 _ _ 24 #[.int .i64 0, .int .i64 0, .int .i64 0, .int .i64 0, .int .i64 0, .int .i64 0, .int .i64 0, .slice none 0 0] HKR.out (by simp) (by kernel_rfl) (by simp [Value.oneCell']))) ?_
          refine wpList_run (v := .int .i64 20) (w' := wr.setCells w.heap.size 0 [.int .i64 0, .int .i64 0, .int .i64 0, .int .i64 0, .int .i64 0, .int .i64 0, .int .i64 0, .slice none 0 0]) rfl (by kernel_rfl) ?_
          refine wpList_nil ?_
          go_simp
          go_wp2
          try rw [Exit.noGoto_ret]
          have hst := setCells_block 24 w.heap.size [.int .i64 0, .int .i64 0, .int .i64 0, .int .i64 0, .int .i64 0, .int .i64 0, .int .i64 0, .slice none 0 0] 0 _ _ HKR.out
          refine bodyPost_ret (v := .tuple #[.agg #[.int .i64 0, .int .i64 0, .int .i64 0, .int .i64 0, .int .i64 0, .int .i64 0, .int .i64 0, .slice none 0 0], .int .i64 20]) (results_pkt rfl rfl (by rfl) hst) rfl ⟨zeroP, .slice none 0 0, by rw [HE.out.2]; rfl, World.ownsRow_nil _ _ _ _, HE.out.1.symm, setCells_below (Nat.le_refl _) _ _ _ _ HLX.out⟩

end Go.Proofs.YtgnpjenpehfjbaaDoor

