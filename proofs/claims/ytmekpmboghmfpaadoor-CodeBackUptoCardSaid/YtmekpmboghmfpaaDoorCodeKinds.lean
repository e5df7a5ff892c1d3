/- kindsOf: fields' kinds, if each is as its kind has it. -/
import Derived.Test.YtmekpmboghmfpaaDoorCodeFields
namespace Go.Proofs.YtmekpmboghmfpaaDoor
open Go.RowKit

theorem vintF_pos (f x : Nat) : 0 < (vintF f x).length := by
  cases f with
  | zero => simp [vintF]
  | succ f => unfold vintF; split <;> simp
theorem fbytes_pos (f : Fld) : 0 < (fbytes f).length := by
  unfold fbytes
  have h1 := vintF_pos 10
  split
  · exact h1 _
  split
  · exact h1 _
  split
  · have := h1 f.text.length; rw [List.length_append]; unfold vint; omega
  · exact h1 _
theorem fields_one (f : Fld) : fieldsB [f] = if rightB f then fbytes f else [] := by
  unfold fieldsB; simp

theorem elem_fld : Tryd.prog.elem 52 = 71 := by kernel_rfl
theorem sizeOf_fld : ∀ W, (sizeOf 71).run Tryd.prog W = .ok 4 W := fun W => Tryd.sizeOf71 W
theorem Flds.one {w : World} {B : Nat} {ao : Option Addr} {cap : Nat} {fs : List Fld} (h : Flds w B (.slice ao fs.length cap) fs) (i : Nat) (f : Fld) (hf : fs[i]? = some f) :
    ∃ v', Flds w B v' [f] ∧ ∀ W, (Instr.slice 52 (.slice ao fs.length cap) (some (.int .i64 (i : Int))) (some (.int .i64 ((i : Int) + 1))) none).run Tryd.prog W = .ok v' W := by
  obtain ⟨ao', cap', he, hc, hm, hx⟩ := h
  injection he with e1 _ e3
  subst e1 e3
  have hi : i < fs.length := (List.getElem?_eq_some_iff.1 hf).1
  obtain ⟨b, off, rfl, hb, hcell⟩ := hx (by intro h; subst h; simp at hf)
  refine ⟨.slice (some ⟨b, off + i * 4, none⟩) 1 (cap - i), ⟨_, _, rfl, by simp; omega, by simp [maxLen], fun _ => ⟨b, off + i * 4, rfl, hb, fun k g hg => ?_⟩⟩, fun W => ?_⟩
  · have hk : k = 0 := by have := (List.getElem?_eq_some_iff.1 hg).1; simp at this; omega
    subst hk
    obtain rfl : f = g := by simpa using hg
    simpa using hcell i f hf
  · rw [run_slice_lh W 52 (some ⟨b, off, none⟩) fs.length cap (by rw [elem_fld]; exact Tryd.underlying52) .i64 .i64 (i : Int) ((i : Int) + 1) (by omega) (by omega) (by omega)]
    rw [elem_fld, sizeOf_fld]
    simp [Result.andThen, sliced, Addr.add, show cap ≠ i by omega, show ((i : Int) + 1).toNat - i = 1 by omega]

theorem info_k : (Tryd.prog.info? 3).map (fun i => (i.zero, i.size, i.bytes)) = some (some (.int .i64 0), 1, 8) := by kernel_rfl
/-- a []int of the call's own -/
def OwnK (w : World) (B : Nat) (v : Value) (xs : List Int) : Prop := w.ownsRow B 3 1 v xs.length (xs.map (Value.int .i64))
theorem OwnK.nil (w : World) (B : Nat) : OwnK w B (.slice none 0 0) [] := World.ownsRow_nil _ _ _ _
theorem OwnK.below {w w' : World} {B : Nat} {v : Value} {xs : List Int} (h : OwnK w B v xs) (hb : Below w.heap.size w w') : OwnK w' B v xs := by
  obtain ⟨h1, h2⟩ := h
  refine ⟨h1, ?_⟩
  rcases h2 with h2 | ⟨g, cap, cur, hv, hB, hg, r⟩
  · exact .inl h2
  · exact .inr ⟨g, cap, cur, hv, hB, by rw [hb.block g (Array.getElem?_eq_some_iff.1 hg).1]; exact hg, r⟩
theorem OwnK.ints {w : World} {B : Nat} {v : Value} {xs : List Int} (h : OwnK w B v xs) : Ints w w.heap.size v xs := by
  rcases h.2 with ⟨rfl, h0⟩ | ⟨g, cap, cur, rfl, hb, hg, hn, hcm, hcs, htake⟩
  · have : xs = [] := List.eq_nil_of_length_eq_zero h0
    subst this
    exact ⟨none, 0, rfl, by simp, by simp, fun h => absurd rfl h⟩
  · refine ⟨_, cap, rfl, hn, by omega, fun _ => ⟨g, 0, rfl, (Array.getElem?_eq_some_iff.1 hg).1, fun i hi => ?_⟩⟩
    rw [Nat.zero_add, cell_of_row w g i cur _ _ hg]
    have h3 : (xs.map (Value.int .i64))[i]? = some (.int .i64 (xs.getD i 0)) := by simp [List.getD, hi]
    rw [← htake, List.getElem?_take] at h3
    exact (by simpa [show i < xs.length * 1 by omega, List.getD] using h3 : i < xs.length ∧ cur[i]? = some (Value.int .i64 (xs.getD i 0))).2
/-- append(l, n) : l of the call's own -/
theorem wpList_append_k {w : World} {ops : Array Oper} {rest : List Oper} {o : Oper} {a : Act} {Q : Exit → Act → World → Prop} (hgd : o.guard = none) (s x : Operand)
    (ho : o.op = .call { callee := .builtin .append, args := #[s, x], argTypes := #[44, 44] })
    (base : Nat) (v : Value) (xs : List Int) (hs : a.eval s = v) (hown : OwnK w base v xs) (g : Nat) (z : Int) (hx : a.eval x = .slice (some ⟨g, 0, none⟩) 1 1) (hg : w.heap[g]? = some (.cells #[.int .i64 z] 3 (0, 0)))
    (hlen : xs.length + 1 ≤ 10000000000) (hbase : base ≤ w.heap.size)
    (h : ∀ v' w', OwnK w' base v' (xs ++ [z]) → w.grownBy w' v.ownBlock → wpList Tryd.prog ops Q rest (a.put o.dst v') w') : wpList Tryd.prog ops Q (o :: rest) a w := by
  obtain ⟨i0, hi, hz0, hz1, hz2⟩ := info_parts info_k
  refine wpList_append_own _ hgd s x _ ho base 3 i0 (.int .i64 0) 1 8 Tryd.underlying44 hi hz0 hz1 hz2 rfl (by decide) v xs.length (xs.map (Value.int .i64)) hs hown ⟨g, 0, none⟩ 1 1 [.int .i64 z] hx (by simp) ?_
    (by intro u hu; simp at hu; subst hu; rfl) (by unfold maxLen; omega) (by omega) hbase ?_
  · intro j u hj
    have hj0 : j = 0 := by have := (List.getElem?_eq_some_iff.1 hj).1; simp at this; omega
    subst hj0
    rw [Addr.add_lit, cell_of_row w g _ _ _ _ hg]
    simpa using hj
  · intro v' w' hown' hg' _
    exact h v' w' (by unfold OwnK; simpa using hown') hg'
theorem bts_form {w : World} {B : Nat} {v : Value} {l : List UInt8} (h : Bts w B v l) : ∃ ao cap, v = .slice ao l.length cap := by
  obtain ⟨ao, cap, h, _⟩ := h; exact ⟨ao, cap, h⟩

set_option maxRecDepth 100000 in
set_option maxHeartbeats 4000000 in
theorem kinds_any (v : Value) (fs : List Fld) (w : World) (hv : Flds w w.heap.size v fs) (hok : ∀ f ∈ fs, FldOk f) (htot : (fs.flatMap fbytes).length ≤ 1000000000) (hl : fs.length ≤ 1000000000) :
    Calls Tryd.prog 29 #[v] w fun e w' => (((∀ f ∈ fs, rightB f = true) ∧ ∃ kv, e = .returned (.tuple #[kv, .bool true]) ∧ OwnK w' w.heap.size kv (fs.map Fld.kind)) ∨ ((∃ f ∈ fs, rightB f = false) ∧ e = .returned (.tuple #[.slice none 0 0, .bool false]))) ∧ Below w.heap.size w w' := by
  obtain ⟨ao, cap, rfl, _⟩ := id hv
  have HV := Lib.hid hv
  have HOK := Lib.hid hok
  have HT := Lib.hid htot
  clear hv hok htot
  generalize hn : fs.length = n at *
  have HN := Lib.hid hn
  clear hn
  go_enter Tryd.func29, Tryd.ntmps29
  go_wp2
  go_loopw [4, 5] (fun kv i wr => ∃ j : Nat, j ≤ n ∧ i = .int .i64 (j : Int) ∧ Hid (∀ f ∈ fs.take j, rightB f = true) ∧ Hid (OwnK wr w.heap.size kv ((fs.take j).map Fld.kind)) ∧ Hid (Below w.heap.size w wr)) (fun _ i _ => n - (intOf i).toNat)
  case atStart => exact ⟨0, by omega, rfl, by intro f hf; simp at hf, OwnK.nil _ _, Below.refl _ _⟩
  case round =>
    obtain ⟨j, hj, rfl, HR, HO, HB⟩ := hrel
    by_cases hlt : j < n
    · obtain ⟨f, hf⟩ : ∃ f, fs[j]? = some f := ⟨fs[j]'(by have := HN.out; omega), List.getElem?_eq_getElem _⟩
      have hvr := HV.out.below HB.out HB.out.size
      have hlen := HN.out
      rw [← hlen] at hvr
      obtain ⟨v1, hv1, hcut⟩ := hvr.one j f hf
      rw [hlen] at hcut
      have c1 := ref_Fields v1 [f] wr hv1 (fun g hg => HOK.out g (by rw [List.mem_singleton.1 hg]; exact List.mem_of_getElem? hf)) (by
        have h1 := preB_succ fs j f hf
        have h2 := preB_le fs (j + 1)
        rw [h1, List.length_append] at h2
        have := HT.out
        simp; omega) (by simp)
      rw [fields_one] at c1
      have HF := Lib.hid hf
      have HV1 := Lib.hid hvr
      clear hf hvr hv1 hlen
      by_cases hr : rightB f = true
      · rw [if_pos hr] at c1
        have hp := fbytes_pos f
        have HRR := Lib.hid hr
        clear hr
        go_wp2_with fail
        refine c1.mono ?_
        rintro e w1 ⟨v2, rfl, hO1, hB1⟩
        obtain ⟨ao2, cap2, rfl⟩ := bts_form hO1.bts
        generalize (fbytes f).length = fl at *
        have hz : ((fl : Int) == 0) = false := by rw [beq_eq_false_iff_ne]; omega
        have HO1 := Lib.hid (HO.out.below hB1)
        have HB1 := Lib.hid (HB.out.trans (hB1.mono HB.out.size))
        obtain ⟨b, off, rfl, hbw, hcell⟩ : ∃ b off, ao = some ⟨b, off, none⟩ ∧ b < wr.heap.size ∧ wr.cell? ⟨b, off + j * 4, none⟩ = some (.int .i64 f.kind) := by
          obtain ⟨ao', cap', he, _, _, hx⟩ := HV1.out
          injection he with e1 _ _
          obtain ⟨b, off, h1, h2, h3⟩ := hx (by intro h; have := HF.out; rw [h] at this; simp at this)
          exact ⟨b, off, e1.trans h1, h2, (h3 j f HF.out).1⟩
        have k0 := (hB1.cell (p := ⟨b, off + j * 4, none⟩) hbw).trans hcell
        clear c1 hO1 hB1 hcell hbw hcut
        have HO2 := Lib.hid (HO1.out.below ((Below.refl w1.heap.size w1).alloc (Nat.le_refl _) (.cells #[.int .i64 f.kind] 3)))
        go_wp2_with (at_builtin; (refine wpList_append_k rfl _ _ rfl w.heap.size _ ((fs.take j).map Fld.kind) rfl HO2.out w1.heap.size f.kind rfl (heap_alloc_new w1 _) (by simp; omega) (by have := HB1.out.size; simp; omega) ?_))
        intro v3 w3 hown3 hg3
        have HO3 : Hid (OwnK w3 w.heap.size v3 ((fs.take (j + 1)).map Fld.kind)) := by
          obtain ⟨hjl, hfe⟩ := List.getElem?_eq_some_iff.1 HF.out
          show OwnK _ _ _ _
          rw [List.take_succ_eq_append_getElem hjl, List.map_append, hfe]
          simpa [List.map_take] using hown3
        have HB3 : Hid (Below w.heap.size w w3) := by
          have hz := HB1.out.size
          exact (HB1.out.alloc (by omega) _).grown hg3 (by simp; omega) (fun k hk => (World.ownsRow.lt HO2.out k hk).1)
        have HR3 := Lib.hid (take_right fs j _ HF.out HRR.out HR.out)
        clear hown3 hg3
        go_wp2
        go_roundw
        case rel => exact ⟨j + 1, by omega, by go_num, HR3, HO3, HB3⟩
        case measure => simp [intOf]; omega
      · rw [if_neg hr] at c1
        have HRR : Hid (∃ f ∈ fs, rightB f = false) := ⟨f, List.mem_of_getElem? HF.out, by simpa using hr⟩
        clear hr
        go_wp2_with fail
        refine c1.mono ?_
        rintro e w1 ⟨v2, rfl, hO1, hB1⟩
        obtain ⟨ao2, cap2, rfl⟩ := bts_form hO1.bts
        have HB1 := Lib.hid (HB.out.trans (hB1.mono HB.out.size))
        simp only [List.length_nil]
        clear c1 hO1 hB1 hcut
        go_wp2
        try rw [Exit.noGoto_ret]
        exact bodyPost_ret (results_tmp2 rfl _ _ _) rfl ⟨.inr ⟨HRR.out, rfl⟩, HB1.out⟩
    · have hjn : j = n := by omega
      subst hjn
      have htk : fs.take j = fs := List.take_of_length_le (by have := HN.out; omega)
      have h1 := HR.out
      have h2 := HO.out
      rw [htk] at h1 h2
      have H1 := Lib.hid h1
      have H2 := Lib.hid h2
      clear h1 h2 htk
      go_wp2
      exact bodyPost_ret (results_tmp2 rfl _ _ _) rfl ⟨.inl ⟨H1.out, _, rfl, H2.out⟩, HB.out⟩

end Go.Proofs.YtmekpmboghmfpaaDoor
