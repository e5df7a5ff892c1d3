/- Wire: fields: the places of an iterator, read (by program: wip/tools/gen_wire14.py). -/
import Derived.Test.YtgnpjenpehfjbaaDoorWire13
import Derived.Test.YtgnpjenpehfjbaaDoorRangeK
namespace Go.Proofs.YtgnpjenpehfjbaaDoor
open Go.RowKit

attribute [local go_sem] Oper.semAt_some

def nilF : Fld := ⟨0, 0, [], false⟩
theorem build_fld (f : Fld) (W : World) : (Instr.buildSlice 63 1 #[(0, f.val)]).run Tryd.prog W = .ok (.slice (some ⟨W.heap.size, 0, none⟩) 1 1) (W.alloc (.cells f.cells.toArray 92)) := by kernel_rfl
theorem take_getD (fs : List Fld) (k : Nat) (h : k < fs.length) : fs.take (k + 1) = fs.take k ++ [fs.getD k nilF] := by
  rw [List.take_succ_eq_append_getElem h, List.getD_eq_getElem?_getD, List.getElem?_eq_getElem h]; rfl
def FI (w : World) (fs : List Fld) (k : Nat) (W : World) : Prop := Below w.heap.size w W ∧ ∃ v, W.heap[w.heap.size]? = some (.cells #[v] 63 (0, 0)) ∧ OwnF W (w.heap.size + 1) v (fs.take k)
theorem FI.below {w : World} {fs : List Fld} {k : Nat} {W W' : World} (h : FI w fs k W) (hb : Below W.heap.size W W') : FI w fs k W' := by
  obtain ⟨h1, v, h2, h3⟩ := h
  exact ⟨h1.trans (hb.mono h1.size), v, stays h2 hb, h3.below hb⟩
theorem FI.putO {w : World} {fs : List Fld} {k : Nat} {W : World} (h : FI w fs k W) {l : Nat} {o : Obj} (o' : Obj) (hn : w.heap.size ≤ l) (hl : W.heap[l]? = some o) (hc : o.isCells = false) : FI w fs k (W.putObj l o') := by
  obtain ⟨h1, v, h2, h3⟩ := h
  exact ⟨h1.grown (grownBy_putObj' W l o') h1.size (fun k e => by cases e; omega), v, row_put o' h2 hl hc, h3.putO o' hl hc⟩

set_option maxRecDepth 100000 in
set_option maxHeartbeats 4000000 in
theorem fields_any (gf : Nat) (lb : Array Value) (ps : List Plc) (fs : List Fld) (Inv : World → Prop) (Sp : List Nat → Prop) (eg : ∀ args w, (callFunc gf args).run Tryd.prog w = .ok (.enter gf args) w)
    (hit : ∀ m, IteratesT Fence.wide m Tryd.prog gf lb (encP ps) Inv (fun pre k _ => pre = List.range k ∧ k < ps.length) (fun xs => xs = List.range ps.length) Sp)
    (w : World) (hlen : fs.length = ps.length) (hn : ps.length ≤ 1000) (hInv : ∀ W, Below w.heap.size w W → Inv W)
    (hget : ∀ W k, Below w.heap.size w W → k < ps.length → Calls Tryd.prog 57 #[(ps.getD k nilP).val] W fun e w' => e = .returned (fs.getD k nilF).val ∧ Below W.heap.size W w') :
    Calls Tryd.prog 33 #[.func (.func gf) #[] lb] w fun e w' => ∃ v, e = .returned v ∧ OwnF w' w.heap.size v fs ∧ Below w.heap.size w w' := by
  have HINV := Lib.hid hInv
  have HGET := Lib.hid hget
  have HLEN := Lib.hid hlen
  clear hInv hget hlen
  obtain ⟨g0, k0⟩ := new_block w (.cells #[.slice none 0 0] 63)
  have h0 : FI w fs 0 (w.alloc (.cells #[.slice none 0 0] 63)) := ⟨g0, _, k0, by rw [List.take_zero]; exact World.ownsRow_nil _ _ _ _⟩
  have H0 := Lib.hid h0
  clear g0 k0 h0
  refine (callsIn_wide (n := 5)).1 ?_
  refine callsIn_of_wp_marks Tryd.func33 rfl trivial ?_ rfl
  simp only [Tryd.ntmps33, List.size_toArray, List.length_cons, List.length_nil, Nat.reduceAdd, Nat.reduceSub, Array.replicate_succ, Array.replicate_zero, List.push_toArray, List.append_toArray, List.nil_append, List.cons_append]
  gi_wp2
  obtain ⟨W0, hW0⟩ : ∃ W0, W0 = w.alloc (.cells #[.slice none 0 0] 63) := ⟨_, rfl⟩
  rw [← hW0] at H0 ⊢
  have SZ0 : Hid (W0.heap.size = w.heap.size + 1) := by show _ = _; rw [hW0]; simp
  clear hW0
  refine wpIn_range_T (F := Fence.wide) (n := 5) rfl (by omega) (gf := gf) (lb := lb) ?hg trivial eg (hit 4) (fun x => rfl) ?hRput
    (fun pre W => FI w fs pre.length W) (fun _ _ _ => False) (BoxT w.heap.size) ?hT1 ?hT2 ?hT3 ?hI ?hIp ?hIxp ?hInv ?h0
    (A := ?A) (fun (k : Nat) (u : Nat) (kd : Int) (x0 x1 x2 x3 : Option Addr) W => (ps.getD k nilP).val = .agg #[.int .i64 kd, .pointer x0, .pointer x1, .pointer x2, .pointer x3] ∧ W.heap[u]? = some (.cells #[.int .i64 kd, .pointer x0, .pointer x1, .pointer x2, .pointer x3] 106 (0, 0)) ∧ w.heap.size < u) ?hAxp ?assign ?body ?done ?stop
  case hg => rfl
  case hRput => exact fun pre x W l o o' h _ _ => h
  case hT1 =>
    rintro s' A ⟨-, v, hb, ho⟩ k (rfl | ⟨v', t', hb', hk⟩)
    · exact (Array.getElem?_eq_some_iff.1 hb).1
    · rw [hb] at hb'
      cases hb'
      exact (World.ownsRow.lt ho k hk).2
  case hT2 => exact fun s' A B h hb k hk => hk.same (hb.block _ (Array.getElem?_eq_some_iff.1 h.2.choose_spec.1).1)
  case hT3 =>
    intro s' A l o o' h hl ho hc k hk
    refine hk.same (World.putObj_heap_other fun e => ?_)
    obtain ⟨-, v, hb, -⟩ := h
    rw [e, ho] at hb
    cases hb
    cases hc
  case hI => exact fun s' A B h hb => h.below hb
  case hIp => exact fun s' A l o o' h hl ho hc => h.putO o' (by have := SZ0.out; omega) ho hc
  case hIxp => exact fun c s' A l o o' h _ _ _ => h
  case hInv => exact fun s' A h => HINV.out _ h.1
  case h0 => exact H0.out
  case hAxp =>
    rintro k u kd x0 x1 x2 x3 A l o o' ⟨h2, h3, h4⟩ hl ho hc
    exact ⟨h2, row_put o' h3 ho hc, h4⟩
  case assign =>
    rintro yl pre k W K hQ hR hK
    obtain ⟨⟨kd, st, pb, po⟩, hp⟩ : ∃ q, q = ps.getD k nilP := ⟨_, rfl⟩
    obtain ⟨x0, h0x⟩ : ∃ x, x = (if st = 0 then some (⟨pb, po, none⟩ : Addr) else none) := ⟨_, rfl⟩
    obtain ⟨x1, h1x⟩ : ∃ x, x = (if st = 1 then some (⟨pb, po, none⟩ : Addr) else none) := ⟨_, rfl⟩
    obtain ⟨x2, h2x⟩ : ∃ x, x = (if st = 2 then some (⟨pb, po, none⟩ : Addr) else none) := ⟨_, rfl⟩
    obtain ⟨x3, h3x⟩ : ∃ x, x = (if st = 3 then some (⟨pb, po, none⟩ : Addr) else none) := ⟨_, rfl⟩
    have hv : (⟨kd, st, pb, po⟩ : Plc).val = .agg #[.int .i64 kd, .pointer x0, .pointer x1, .pointer x2, .pointer x3] := by unfold Plc.val Plc.cells Plc.ptr; rw [h0x, h1x, h2x, h3x]
    simp only [encP]
    rw [← hp, hv]
    have HV : Hid ((ps.getD k nilP).val = .agg #[.int .i64 kd, .pointer x0, .pointer x1, .pointer x2, .pointer x3]) := by show _ = _; rw [← hp, hv]
    have HK := Lib.hid hK
    have HQ := Lib.hid hQ
    clear hK hQ hp hv h0x h1x h2x h3x
    gi_wp2
    have hQ1 := HQ.out.below (new_block W (.cells #[.int .i64 kd, .pointer x0, .pointer x1, .pointer x2, .pointer x3] 106)).1
    have k1 := (new_block W (.cells #[.int .i64 kd, .pointer x0, .pointer x1, .pointer x2, .pointer x3] 106)).2
    have hko := (new_block W (.cells #[.int .i64 kd, .pointer x0, .pointer x1, .pointer x2, .pointer x3] 106)).1
    have hlt : w.heap.size < W.heap.size := (Array.getElem?_eq_some_iff.1 HQ.out.2.choose_spec.1).1
    generalize W.heap.size = u at *
    exact HK.out u kd x0 x1 x2 x3 _ hko hQ1 hR ⟨HV.out, k1, hlt⟩
  case body =>
    rintro yl pre k u kd x0 x1 x2 x3 W ⟨hlow, v, hbox, hown⟩ ⟨hpre, hk⟩ ⟨hval, hrow, hu⟩
    have hlen : pre.length = k := by rw [hpre]; simp
    rw [hlen] at hown
    have HLN : Hid ((pre ++ [k]).length = k + 1) := by show _ = _; simp [hlen]
    have HK : Hid (k < ps.length) := hk
    have HLK : Hid ((fs.take k).length ≤ 1000000000) := by show _ ≤ _; have := List.length_take_le k fs; omega
    have hst := fun (x y : Value) => FJ.start (v3 := x) (v4 := y) (f := fs.getD k nilF) hown hbox hrow hu
    have HST := Lib.hid hst
    have hG := fun W' (hb : Below w.heap.size w W') => HGET.out W' k hb HK.out
    rw [hval] at hG
    have HG := Lib.hid hG
    have HLOW := Lib.hid hlow
    have HBX := Lib.hid hbox
    obtain ⟨ao, cap, hvf⟩ := owns_form hown
    clear hpre hk hlen hown hbox hrow hst hG hval hlow
    obtain ⟨f, hf⟩ : ∃ f, f = fs.getD k nilF := ⟨_, rfl⟩
    rw [← hf] at HST HG
    have HF := Lib.hid hf
    clear hf
    gi_wp2_with (fail)
    refine wpIn_flowM (F0 := Fence.wide.inRound yl) (n0 := _) (fun _ => trivial) (fun h => by cases h) (by kernel_rfl) (by kernel_rfl) 6 5 (by kernel_rfl) (fun j => ([0, 1, 2, 3, 4] : List Nat).getD j 0) (fun j => ([7, 8, 9, 10, 11] : List Nat).getD j 0) (by kernel_rfl) (by kernel_rfl) (by kernel_rfl) (by kernel_rfl) (by kernel_rfl) (by kernel_rfl) (by kernel_rfl) (fun j zv => ([(fun zv => zv = v), (fun zv => zv = (.agg #[.int .i64 kd, .pointer x0, .pointer x1, .pointer x2, .pointer x3])), (fun zv => zv = f.val), (fun zv => ∃ g, zv = .slice (some ⟨g, 0, none⟩) 1 1), (fun zv => ∃ ao cap, zv = .slice ao ((fs.take k).length + 1) cap)] : List (Value → Prop)).getD j (fun _ => True) zv) (fun d vs W' => FJ W w.heap.size u kd x0 x1 x2 x3 v (fs.take k) f (d 3) (d 4) (d 5) (vs 3) (vs 4) W' ∧ (d 4 = true → d 0 = true)) ?h0r ?stepr ?finr
    case h0r => exact fun vs => ⟨HST.out _ _, fun e => by cases e⟩
    case stepr =>
      intro i o a W d vs hi ho hdi hJ hf hr hF
      replace hi : i < 6 := hi
      rcases (show i = 0 ∨ i = 1 ∨ i = 2 ∨ i = 3 ∨ i = 4 ∨ i = 5 by omega) with rfl | rfl | rfl | rfl | rfl | rfl
      · replace ho := op_at ho (by rfl)
        subst ho
        have f3 : a.tmps.getD 3 undef = (.pointer (some ⟨w.heap.size, 0, none⟩)) := hf 3 (by kernel_rfl)
        have e4 : d 4 = false := by cases h : d 4 with | false => rfl | true => exact absurd (hJ.2 h) (by rw [hdi]; simp)
        have e5 : d 5 = false := by cases h : d 5 with | false => rfl | true => exact absurd (hJ.1.o54 h) (by rw [e4]; simp)
        have c0 := cell_of_row _ _ 0 _ _ _ (hJ.1.box0 e5)
        exact .inl ⟨(fun k b h => by cases h), .inl ⟨0, by decide, rfl, v, W, (by simp [go_sem, Act.eval, f3, c0]), rfl, ⟨hJ.1, fun _ => rfl⟩⟩⟩
      · replace ho := op_at ho (by rfl)
        subst ho
        have f4 : a.tmps.getD 4 undef = (.pointer (some ⟨u, 0, none⟩)) := hf 4 (by kernel_rfl)
        have c0 := cell_of_row _ _ 0 _ _ _ hJ.1.pl
        have c1 := cell_of_row _ _ 1 _ _ _ hJ.1.pl
        have c2 := cell_of_row _ _ 2 _ _ _ hJ.1.pl
        have c3 := cell_of_row _ _ 3 _ _ _ hJ.1.pl
        have c4 := cell_of_row _ _ 4 _ _ _ hJ.1.pl
        exact .inl ⟨(fun k b h => by cases h), .inl ⟨1, by decide, rfl, (.agg #[.int .i64 kd, .pointer x0, .pointer x1, .pointer x2, .pointer x3]), W, (by simp [go_sem, Act.eval, f4, c0, c1, c2, c3, c4]), rfl, hJ⟩⟩
      · replace ho := op_at ho (by rfl)
        subst ho
        have d1 : a.tmps.getD 8 undef = (.agg #[.int .i64 kd, .pointer x0, .pointer x1, .pointer x2, .pointer x3]) := by have h1 := hF 1 (by decide) (hr 1 (by kernel_rfl)); exact h1.2.trans h1.1
        refine .inl ⟨(fun k b h => by cases h), .inr (.inr ⟨2, by decide, rfl, 57, #[(.agg #[.int .i64 kd, .pointer x0, .pointer x1, .pointer x2, .pointer x3])], W, (by simp [go_sem, Act.eval, d1]), ?_⟩)⟩
        refine (CallsIn.inRound yl (callsIn_wide.2 (HG.out W (HLOW.out.trans hJ.1.low)))).mono ?_
        rintro e W' ⟨rfl, hBe⟩
        exact ⟨_, rfl, rfl, ⟨hJ.1.below hBe, hJ.2⟩⟩
      · replace ho := op_at ho (by rfl)
        subst ho
        have d2 : a.tmps.getD 9 undef = f.val := by have h1 := hF 2 (by decide) (hr 2 (by kernel_rfl)); exact h1.2.trans h1.1
        have h1 := hJ.1
        rw [hdi] at h1
        exact .inl ⟨(fun k b h => by cases h), .inl ⟨3, by decide, rfl, .slice (some ⟨W.heap.size, 0, none⟩) 1 1, _, (exec_buildSlice _ _ _ rfl _ (by simp only [List.map_toArray, List.map_cons, List.map_nil, Act.eval, d2]) _ _ (build_fld f W)), ⟨_, rfl⟩, ⟨h1.builds rfl, hJ.2⟩⟩⟩
      · replace ho := op_at ho (by rfl)
        subst ho
        have d0 : a.tmps.getD 7 undef = v := by have h1 := hF 0 (by decide) (hr 0 (by kernel_rfl)); exact h1.2.trans h1.1
        obtain ⟨g3, e3⟩ := hF 3 (by decide) (hr 3 (by kernel_rfl))
        replace e3 : a.tmps.getD 10 undef = vs 3 := e3
        replace g3 : (fun zv => ∃ g, zv = .slice (some ⟨g, 0, none⟩) 1 1) (vs 3) := g3
        have e3b : d 3 = true := hr 3 (by kernel_rfl)
        have e0b : d 0 = true := hr 0 (by kernel_rfl)
        have h1 := hJ.1
        rw [e3b, hdi] at h1
        obtain ⟨g, hg, hgr⟩ := h1.lit rfl
        rw [hg] at e3
        have hsz := h1.siz
        obtain ⟨v', W', hrun, ho2, hg2, hl2⟩ := op_append_fld 7 10 a W (w.heap.size + 1) v (fs.take k) g f d0 e3 (h1.own0 rfl) (hgr rfl) HLK.out (by have := (Array.getElem?_eq_some_iff.1 h1.pl).1; have := h1.pu; omega)
        refine .inl ⟨(fun k b h => by cases h), .inl ⟨4, by decide, rfl, v', W', hrun _ rfl rfl, ?_, ?_, fun _ => e0b⟩⟩
        · obtain ⟨ao, cap, h⟩ := owns_form ho2
          exact ⟨ao, cap, by rw [h]; simp⟩
        · show FJ _ _ _ _ _ _ _ _ _ _ _ (d 3) true (d 5) (vs 3) v' W'
          rw [e3b]; exact h1.appends ho2 hg2 hl2
      · replace ho := op_at ho (by rfl)
        subst ho
        obtain ⟨g4, e4⟩ := hF 4 (by decide) (hr 4 (by kernel_rfl))
        replace e4 : a.tmps.getD 11 undef = vs 4 := e4
        replace g4 : (fun zv => ∃ ao cap, zv = .slice ao ((fs.take k).length + 1) cap) (vs 4) := g4
        have f3 : a.tmps.getD 3 undef = (.pointer (some ⟨w.heap.size, 0, none⟩)) := hf 3 (by kernel_rfl)
        have e4b : d 4 = true := hr 4 (by kernel_rfl)
        have h1 := hJ.1
        have e3b := h1.o43 e4b
        rw [e3b, e4b, hdi] at h1
        obtain ⟨ao2, cap2, hu2⟩ := g4
        have c0 := cell_of_row _ _ 0 _ _ _ (h1.box0 rfl)
        have z0 := frozen_of_row _ _ 0 _ _ (h1.box0 rfl)
        have h2 := h1.stores
        rw [hu2] at e4 h2
        refine .inl ⟨(fun k b h => by cases h), .inr (.inl ⟨rfl, W.setCell ⟨w.heap.size, 0, none⟩ (.slice ao2 ((fs.take k).length + 1) cap2), (by simp [go_sem, Act.eval, e4, f3, c0, z0]), ?_, hJ.2⟩)⟩
        show FJ _ _ _ _ _ _ _ _ _ _ _ (d 3) (d 4) true (vs 3) (vs 4) _
        rw [e3b, e4b, hu2]; exact h2
    case finr =>
      intro d vs Wr hall hJ hF
      have h0 : vs 0 = v := hF 0 (by decide)
      have h1 : vs 1 = (.agg #[.int .i64 kd, .pointer x0, .pointer x1, .pointer x2, .pointer x3]) := hF 1 (by decide)
      have h2 : vs 2 = f.val := hF 2 (by decide)
      have h3 : (fun zv => ∃ g, zv = .slice (some ⟨g, 0, none⟩) 1 1) (vs 3) := hF 3 (by decide)
      have h4 : (fun zv => ∃ ao cap, zv = .slice ao ((fs.take k).length + 1) cap) (vs 4) := hF 4 (by decide)
      clear hF
      have h1 := hJ.1
      rw [hall 3 (by decide), hall 4 (by decide), hall 5 (by decide)] at h1
      have e6 : FI w fs (k + 1) Wr := by
        rw [HF.out] at h1
        refine ⟨HLOW.out.trans h1.low, vs 4, h1.box1 rfl, ?_⟩
        rw [take_getD fs k (by have := HK.out; have := HLEN.out; omega)]
        exact h1.own1 rfl
      have e7 : KeptT (BoxT w.heap.size) W Wr := by
        refine ⟨h1.siz, fun k hk hn => h1.keep k hk (fun e => hn (.inl e)) (fun e => hn (.inr ⟨_, _, HBX.out, e⟩)), fun k hk => ?_⟩
        rcases hk with rfl | ⟨v', t', hb', hkk⟩
        · exact .inl (.inl rfl)
        · rw [h1.box1 rfl] at hb'
          cases hb'
          rcases h1.lies rfl k hkk with h2 | h2
          · exact .inl (.inr ⟨_, _, HBX.out, h2⟩)
          · exact .inr h2
      refine ⟨h1.oth, e7, ?_⟩
      show FI w fs (pre ++ [k]).length Wr
      rw [HLN.out]
      exact e6
  case done =>
    rintro D xs W rfl ⟨hlow, v, hbox, hown⟩ hD hDn
    rw [List.length_range, ← HLEN.out, List.take_length] at hown
    have HOWN := Lib.hid hown
    have HBX := Lib.hid hbox
    have HLOW := Lib.hid hlow
    have HD := Lib.hid hD
    have HDN := Lib.hid hDn
    have c0 := cell_of_row _ _ 0 _ _ _ hbox
    clear hlow hbox hown hD hDn
    gi_wp2
    have hdd : Below w.heap.size w (W.putObj D (.deferred none)) := HLOW.out.grown (grownBy_putObj' W D _) HLOW.out.size (fun k e => by cases e; have := HDN.out; have := SZ0.out; omega)
    refine marks_ret1 rfl HD.out (v := v) ?_ ⟨v, rfl, owns_mono (HOWN.out.putO _ HD.out rfl) (by omega), hdd⟩
    simp [results, Tryd.results33, go_sem]
  case stop => exact fun D c pre W _ h _ _ => h.elim

end Go.Proofs.YtgnpjenpehfjbaaDoor
