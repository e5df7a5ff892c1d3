/- Fields as bytes: the document's Fields, code's Fields (by program: wip/tools/gen_fields.py). -/
import Derived.Test.YtgnpjenpehfjbaaDoorCodeRight
import Derived.Test.YtgnpjenpehfjbaaDoorCodeSame
import Derived.Test.YtgnpjenpehfjbaaDoorCodeNumW
import Derived.Test.YtgnpjenpehfjbaaDoorShelf
namespace Go.Proofs.YtgnpjenpehfjbaaDoor
open Go.RowKit

/-- a field's bytes -/
def fbytes (f : Fld) : List UInt8 :=
  if f.kind = 1 then vint f.num.toNat else if f.kind = 2 then vint (zig f.num) else if f.kind = 3 then vint f.text.length ++ f.text else vint (flagN f.is_)
/-- fields' bytes: none, if one is not as its kind has it -/
def fieldsB (fs : List Fld) : List UInt8 := if fs.all rightB then fs.flatMap fbytes else []
def FldOk (f : Fld) : Prop := -9223372036854775808 ≤ f.num ∧ f.num < 9223372036854775808 ∧ f.text.length ≤ 1000000000

def fpreB (fs : List Fld) (j : Nat) : List UInt8 := (fs.take j).flatMap fbytes
theorem fpreB_zero (fs : List Fld) : fpreB fs 0 = [] := rfl
theorem fpreB_succ (fs : List Fld) (j : Nat) (f : Fld) (h : fs[j]? = some f) : fpreB fs (j + 1) = fpreB fs j ++ fbytes f := by
  unfold fpreB
  obtain ⟨hj, rfl⟩ := List.getElem?_eq_some_iff.1 h
  rw [List.take_succ_eq_append_getElem hj, List.flatMap_append]
  simp
theorem fpreB_le (fs : List Fld) (j : Nat) : (fpreB fs j).length ≤ (fs.flatMap fbytes).length := by
  unfold fpreB
  conv => rhs; rw [← List.take_append_drop j fs, List.flatMap_append, List.length_append]
  omega
theorem fpreB_all (fs : List Fld) (j : Nat) (h : fs.length ≤ j) : fpreB fs j = fs.flatMap fbytes := by
  unfold fpreB; rw [List.take_of_length_le h]
theorem fieldsB_bad (fs : List Fld) (j : Nat) (f : Fld) (h : fs[j]? = some f) (hr : rightB f = false) : fieldsB fs = [] := by
  unfold fieldsB
  rw [if_neg]
  intro ha
  have := List.all_eq_true.1 ha f (List.mem_of_getElem? h)
  rw [hr] at this; cases this
theorem fieldsB_all (fs : List Fld) (j : Nat) (h : fs.length ≤ j) (hr : ∀ f ∈ fs.take j, rightB f = true) : fieldsB fs = fpreB fs j := by
  rw [fpreB_all fs j h]
  unfold fieldsB
  rw [if_pos]
  rw [List.take_of_length_le h] at hr
  exact List.all_eq_true.2 hr
theorem take_right (fs : List Fld) (j : Nat) (f : Fld) (h : fs[j]? = some f) (hr : rightB f = true) (ha : ∀ f ∈ fs.take j, rightB f = true) : ∀ f ∈ fs.take (j + 1), rightB f = true := by
  obtain ⟨hj, rfl⟩ := List.getElem?_eq_some_iff.1 h
  rw [List.take_succ_eq_append_getElem hj]
  intro g hg
  rcases List.mem_append.1 hg with hg | hg
  · exact ha g hg
  · simp at hg; subst hg; exact hr
theorem right_kinds {k num : Int} {t : List UInt8} {b : Bool} (h : rightB ⟨k, num, t, b⟩ = true) : (k = 1 ∧ 0 ≤ num) ∨ k = 2 ∨ k = 3 ∨ k = 4 := by
  unfold rightB at h
  simp only at h
  by_cases h1 : k = 1
  · rw [if_pos h1] at h; simp at h; exact .inl ⟨h1, h.1.1⟩
  · by_cases h2 : k = 2
    · exact .inr (.inl h2)
    · by_cases h3 : k = 3
      · exact .inr (.inr (.inl h3))
      · by_cases h4 : k = 4
        · exact .inr (.inr (.inr h4))
        · rw [if_neg h1, if_neg h2, if_neg h3, if_neg h4] at h; cases h

abbrev isBuf (B b : Nat) (l : List UInt8) (w : World) : Prop := Lib.IsBuffer 90 5 B b (l.map byteV) w
theorem isBuf_below {B b : Nat} {l : List UInt8} {w w' : World} (h : isBuf B b l w) (hb : Below w.heap.size w w') : isBuf B b l w' := by
  have hlt := Lib.IsBuffer.lt h
  obtain ⟨hB, v, lr, h1, h2, h3⟩ := h
  refine ⟨hB, v, lr, (hb.block b hlt).trans h1, ?_, h3⟩
  obtain ⟨g1, g2⟩ := h2
  refine ⟨g1, ?_⟩
  rcases g2 with g2 | ⟨g, cap, cur, hv, hBg, hg, r⟩
  · exact .inl g2
  · exact .inr ⟨g, cap, cur, hv, hBg, by rw [hb.block g (Array.getElem?_eq_some_iff.1 hg).1]; exact hg, r⟩

/-- Write at a slice that reads as bytes -/
theorem buf_Write (B b : Nat) (l m : List UInt8) (v : Value) (B' : Nat) (w : World) (h : isBuf B b l w) (hBw : B ≤ w.heap.size) (ho : Own w B' v m) (hB' : b < B') (hm : 0 < m.length) (hlim : l.length + m.length ≤ 140737488355328) :
    Calls Tryd.prog 51 #[.pointer (some ⟨b, 0, none⟩), v] w fun e w' => e = .returned (.tuple #[.int .i64 (m.length : Nat), .nilIface]) ∧ isBuf B b (l ++ m) w' ∧ Below B w w' ∧ Lib.OthersKept 5 (some b) w w' := by
  obtain ⟨h1, h2⟩ := ho
  rcases h2 with ⟨rfl, h0⟩ | ⟨g, cap, cur, rfl, hBg, hg, hn, hcm, hcs, htake⟩
  · omega
  · refine (Tryd.Buffer_Write_any B b (l.map byteV) (m.map byteV) ⟨g, 0, none⟩ m.length cap w h hBw (bytes_oneCell l) (by simp) (by show g ≠ b; omega) ?_ (bytes_oneCell m) (by rw [List.length_map]; exact hlim)).mono ?_
    · intro j u hu
      rw [Addr.add_lit, cell_of_row w g _ cur _ _ hg]
      have hjl : j < m.length := by have := (List.getElem?_eq_some_iff.1 hu).1; simpa using this
      rw [← htake, List.getElem?_take] at hu
      rw [Nat.zero_add]
      exact (by simpa [show j < m.length * 1 by omega] using hu : j < m.length ∧ cur[j]? = some u).2
    · rintro e w' ⟨rfl, h3, h4, h5⟩
      exact ⟨rfl, by unfold isBuf; rw [List.map_append]; exact h3, h4, h5⟩
theorem buf_WriteString (B b : Nat) (l t : List UInt8) (w : World) (h : isBuf B b l w) (hBw : B ≤ w.heap.size) (hlim : l.length + t.length ≤ 140737488355328) :
    Calls Tryd.prog 54 #[.pointer (some ⟨b, 0, none⟩), .string ⟨t.toArray⟩] w fun e w' => e = .returned (.tuple #[.int .i64 (t.length : Nat), .nilIface]) ∧ isBuf B b (l ++ t) w' ∧ Below B w w' := by
  refine (Tryd.Buffer_WriteString_k B b (l.map byteV) ⟨t.toArray⟩ w h hBw (bytes_oneCell l) (by rw [List.length_map]; exact hlim)).mono ?_
  rintro e w' ⟨rfl, h3, h4, -⟩
  exact ⟨rfl, by unfold isBuf; rw [List.map_append]; exact h3, h4⟩
theorem buf_Bytes (B b : Nat) (l : List UInt8) (w : World) (h : isBuf B b l w) :
    Calls Tryd.prog 56 #[.pointer (some ⟨b, 0, none⟩)] w fun e w' => ∃ v, e = .returned v ∧ Own w' B v l ∧ ∃ n, w' = w.drewN n := by
  refine (Tryd.Buffer_Bytes B b (l.map byteV) w h).mono ?_
  rintro e w' ⟨v, rfl, h1, h2⟩
  rw [List.length_map] at h1
  exact ⟨v, rfl, h1, h2⟩

set_option maxRecDepth 100000 in
set_option maxHeartbeats 8000000 in
theorem code_Fields (v : Value) (fs : List Fld) (w : World) (hv : Flds w w.heap.size v fs) (hok : ∀ f ∈ fs, FldOk f) (htot : (fs.flatMap fbytes).length ≤ 1000000000) (hl : fs.length ≤ 1000000000) :
    Calls Tryd.prog 32 #[v] w fun e w' => ∃ v', e = .returned v' ∧ Own w' w.heap.size v' (fieldsB fs) ∧ Below w.heap.size w w' := by
  obtain ⟨ao, cap, rfl, _⟩ := id hv
  have HV := Lib.hid hv
  have HOK := Lib.hid hok
  have HT := Lib.hid htot
  clear hv hok htot
  generalize hn : fs.length = n at *
  have HN := Lib.hid hn
  clear hn
  have HS0 : Hid (isBuf w.heap.size w.heap.size [] (w.alloc (.cells #[.slice none 0 0, .int .i64 0, .int .i8 0] 90))) := Lib.fresh_isBuffer _ _ w
  have HS1 : Hid (Below w.heap.size w (w.alloc (.cells #[.slice none 0 0, .int .i64 0, .int .i8 0] 90))) := (Below.refl _ _).alloc (Nat.le_refl _) _
  go_enter Tryd.func32, Tryd.ntmps32
  go_wp2
  go_loopw [8] (fun i wr => ∃ j : Nat, j ≤ n ∧ i = .int .i64 (j : Int) ∧ Hid (∀ f ∈ fs.take j, rightB f = true) ∧ Hid (isBuf w.heap.size w.heap.size (fpreB fs j) wr) ∧ Hid (Below w.heap.size w wr)) (fun i _ => n - (intOf i).toNat)
  case atStart => exact ⟨0, by omega, rfl, by intro f hf; simp at hf, HS0.out, HS1.out⟩
  case round =>
    obtain ⟨j, hj, rfl, HR, HO, HB⟩ := hrel
    by_cases hlt : j < n
    · obtain ⟨⟨k, num, t, is_⟩, hf⟩ : ∃ f, fs[j]? = some f := ⟨fs[j]'(by have := HN.out; omega), List.getElem?_eq_getElem _⟩
      have hne : fs ≠ [] := by intro h; subst h; simp at hf
      have hvr := HV.out.below HB.out HB.out.size
      obtain ⟨ao', cap', he, _, _, hx⟩ := hvr
      injection he with e1 e2 e3
      subst e1 e3
      obtain ⟨b, off, rfl, _, hcell⟩ := hx hne
      obtain ⟨k0, k1, k2, k3⟩ := hcell j _ hf
      simp only at k0 k1 k2 k3
      obtain ⟨ok1, ok2, ok3⟩ := HOK.out _ (List.mem_of_getElem? hf)
      simp only at ok1 ok2 ok3
      have hps := fpreB_succ fs j _ hf
      have hpl := fpreB_le fs j
      have hpl1 := fpreB_le fs (j + 1)
      have htt := HT.out
      have HF := Lib.hid hf
      have HPS := Lib.hid hps
      clear hx hcell e2 hf hps
      have hsb := HB.out.size
      have c1 := code_right ⟨k, num, t, is_⟩ (wr.alloc (.cells #[.int .i64 k, .int .i64 num, .string ⟨t.toArray⟩, .bool is_] 92))
      unfold Fld.val at c1
      simp only at c1
      have hlt0 := Lib.IsBuffer.lt HO.out
      by_cases hr : rightB ⟨k, num, t, is_⟩ = true
      · rw [hr] at c1
        have HRR := Lib.hid hr
        have hks := right_kinds hr
        clear hr
        have hB00 : Below wr.heap.size wr (wr.alloc (.cells #[.int .i64 k, .int .i64 num, .string ⟨t.toArray⟩, .bool is_] 92)) := (Below.refl _ _).alloc (Nat.le_refl _) _
        have hown1 := isBuf_below HO.out hB00
        have hB0 : Below w.heap.size w (wr.alloc (.cells #[.int .i64 k, .int .i64 num, .string ⟨t.toArray⟩, .bool is_] 92)) := HB.out.alloc hsb _
        have hsa : (wr.alloc (.cells #[.int .i64 k, .int .i64 num, .string ⟨t.toArray⟩, .bool is_] 92)).heap.size = wr.heap.size + 1 := by simp
        rcases hks with ⟨rfl, hn0⟩ | rfl | rfl | rfl
        · -- kind 1
          obtain ⟨m, rfl⟩ : ∃ m : Nat, num = (m : Int) := ⟨num.toNat, by omega⟩
          go_wp2_with fail
          refine c1.mono ?_
          rintro e w1 ⟨rfl, hB1⟩
          have hgb : w1.heap[wr.heap.size]? = _ := (hB1.block _ (by simp)).trans (heap_alloc_new wr _)
          have g0 := cell_of_row _ _ 0 _ _ _ hgb
          have g1 := cell_of_row _ _ 1 _ _ _ hgb
          have g2 := cell_of_row _ _ 2 _ _ _ hgb
          have g3 := cell_of_row _ _ 3 _ _ _ hgb
          simp only [List.getElem?_toArray, List.getElem?_cons_zero, List.getElem?_cons_succ] at g0 g1 g2 g3
          have hB01 := hB0.trans (hB1.mono hB0.size)
          have hown2 : isBuf w.heap.size w.heap.size (fpreB fs j) w1 := isBuf_below hown1 hB1
          have hs1 := hB1.size
          rw [hsa] at hs1
          have c2 := code_number (.slice none 0 0) [] m w1 w1.heap.size (by omega) (Own.nil _ _) (Nat.le_refl _) (by decide)
          rw [List.nil_append] at c2
          have hvl := vint_len m (by omega)
          have hps2 : fpreB fs (j + 1) = fpreB fs j ++ (vint m) := HPS.out
          have hpl2 : (fpreB fs j).length + (vint m).length ≤ 1000000000 := by
            rw [hps2, List.length_append] at hpl1
            omega
          have HPS2 := Lib.hid hps2
          have HB01 := Lib.hid hB01
          have HU := Lib.hid hown2
          have HGB := Lib.hid hgb
          clear c1 hgb hB1 hB0 hown1 hown2 hB01 k0 k1 k2 k3 hps2 hpl1 hB00
          go_wp2_with fail
          refine c2.mono ?_
          rintro e w2 ⟨v2, rfl, hO2, hB2⟩
          have hB12 := HB01.out.trans (hB2.mono HB01.out.size)
          have c3 := buf_Write w.heap.size w.heap.size (fpreB fs j) (vint m) v2 w1.heap.size w2 (isBuf_below HU.out hB2) hB12.size hO2 (by omega) (by omega) (by omega)
          have HB12 := Lib.hid hB12
          have hgk : ∀ i, w2.cell? ⟨wr.heap.size, i, none⟩ = w1.cell? ⟨wr.heap.size, i, none⟩ := fun i => hB2.cell (p := ⟨wr.heap.size, i, none⟩) (by show wr.heap.size < _; omega)
          rw [← hgk] at g0 g1 g2 g3
          have HG2 := Lib.hid ((hB2.block wr.heap.size (by omega)).trans HGB.out)
          clear c2 hO2 hB2 hB12 hgk
          go_wp2_with fail
          refine c3.mono ?_
          rintro e w3 ⟨rfl, hU3, hB3, hK3⟩
          clear c3
          have HU3 : Hid (isBuf w.heap.size w.heap.size (fpreB fs (j + 1)) w3) := by
            show isBuf _ _ _ _
            rw [HPS2.out]
            exact hU3
          have HB3 := Lib.hid (HB12.out.trans hB3)
          have HR2 := Lib.hid (take_right fs j _ HF.out HRR.out HR.out)
          clear hU3 hB3 g0 g1 g2 g3
          go_wp2_with fail
          go_roundw
          case rel => exact ⟨j + 1, by omega, by go_num, HR2, HU3, HB3⟩
          case measure => simp [intOf]; omega
        · -- kind 2

          go_wp2_with fail
          refine c1.mono ?_
          rintro e w1 ⟨rfl, hB1⟩
          have hgb : w1.heap[wr.heap.size]? = _ := (hB1.block _ (by simp)).trans (heap_alloc_new wr _)
          have g0 := cell_of_row _ _ 0 _ _ _ hgb
          have g1 := cell_of_row _ _ 1 _ _ _ hgb
          have g2 := cell_of_row _ _ 2 _ _ _ hgb
          have g3 := cell_of_row _ _ 3 _ _ _ hgb
          simp only [List.getElem?_toArray, List.getElem?_cons_zero, List.getElem?_cons_succ] at g0 g1 g2 g3
          have hB01 := hB0.trans (hB1.mono hB0.size)
          have hown2 : isBuf w.heap.size w.heap.size (fpreB fs j) w1 := isBuf_below hown1 hB1
          have hs1 := hB1.size
          rw [hsa] at hs1
          have cz := code_folded num w1 ok1 ok2
          have c2 := code_number (.slice none 0 0) [] (zig num) w1 w1.heap.size (zig_lt num ok1 ok2) (Own.nil _ _) (Nat.le_refl _) (by decide)
          rw [List.nil_append] at c2
          have hvl := vint_len (zig num) (zig_lt num ok1 ok2)
          have hps2 : fpreB fs (j + 1) = fpreB fs j ++ (vint (zig num)) := HPS.out
          have hpl2 : (fpreB fs j).length + (vint (zig num)).length ≤ 1000000000 := by
            rw [hps2, List.length_append] at hpl1
            omega
          have HPS2 := Lib.hid hps2
          have HB01 := Lib.hid hB01
          have HU := Lib.hid hown2
          have HGB := Lib.hid hgb
          clear c1 hgb hB1 hB0 hown1 hown2 hB01 k0 k1 k2 k3 hps2 hpl1 hB00
          go_wp2_with fail
          refine cz.mono ?_
          rintro e w1' ⟨rfl, hw1⟩
          obtain rfl : w1 = w1' := hw1.symm
          clear cz
          go_wp2_with fail
          refine c2.mono ?_
          rintro e w2 ⟨v2, rfl, hO2, hB2⟩
          have hB12 := HB01.out.trans (hB2.mono HB01.out.size)
          have c3 := buf_Write w.heap.size w.heap.size (fpreB fs j) (vint (zig num)) v2 w1.heap.size w2 (isBuf_below HU.out hB2) hB12.size hO2 (by omega) (by omega) (by omega)
          have HB12 := Lib.hid hB12
          have hgk : ∀ i, w2.cell? ⟨wr.heap.size, i, none⟩ = w1.cell? ⟨wr.heap.size, i, none⟩ := fun i => hB2.cell (p := ⟨wr.heap.size, i, none⟩) (by show wr.heap.size < _; omega)
          rw [← hgk] at g0 g1 g2 g3
          have HG2 := Lib.hid ((hB2.block wr.heap.size (by omega)).trans HGB.out)
          clear c2 hO2 hB2 hB12 hgk
          go_wp2_with fail
          refine c3.mono ?_
          rintro e w3 ⟨rfl, hU3, hB3, hK3⟩
          clear c3
          have HU3 : Hid (isBuf w.heap.size w.heap.size (fpreB fs (j + 1)) w3) := by
            show isBuf _ _ _ _
            rw [HPS2.out]
            exact hU3
          have HB3 := Lib.hid (HB12.out.trans hB3)
          have HR2 := Lib.hid (take_right fs j _ HF.out HRR.out HR.out)
          clear hU3 hB3 g0 g1 g2 g3
          go_wp2_with fail
          go_roundw
          case rel => exact ⟨j + 1, by omega, by go_num, HR2, HU3, HB3⟩
          case measure => simp [intOf]; omega
        · -- kind 3

          go_wp2_with fail
          refine c1.mono ?_
          rintro e w1 ⟨rfl, hB1⟩
          have hgb : w1.heap[wr.heap.size]? = _ := (hB1.block _ (by simp)).trans (heap_alloc_new wr _)
          have g0 := cell_of_row _ _ 0 _ _ _ hgb
          have g1 := cell_of_row _ _ 1 _ _ _ hgb
          have g2 := cell_of_row _ _ 2 _ _ _ hgb
          have g3 := cell_of_row _ _ 3 _ _ _ hgb
          simp only [List.getElem?_toArray, List.getElem?_cons_zero, List.getElem?_cons_succ] at g0 g1 g2 g3
          have hB01 := hB0.trans (hB1.mono hB0.size)
          have hown2 : isBuf w.heap.size w.heap.size (fpreB fs j) w1 := isBuf_below hown1 hB1
          have hs1 := hB1.size
          rw [hsa] at hs1
          have c2 := code_number (.slice none 0 0) [] t.length w1 w1.heap.size (by omega) (Own.nil _ _) (Nat.le_refl _) (by decide)
          rw [List.nil_append] at c2
          have hvl := vint_len t.length (by omega)
          have hps2 : fpreB fs (j + 1) = fpreB fs j ++ (vint t.length ++ t) := HPS.out
          have hpl2 : (fpreB fs j).length + (vint t.length ++ t).length ≤ 1000000000 := by
            rw [hps2, List.length_append] at hpl1
            omega
          have HPS2 := Lib.hid hps2
          have HB01 := Lib.hid hB01
          have HU := Lib.hid hown2
          have HGB := Lib.hid hgb
          clear c1 hgb hB1 hB0 hown1 hown2 hB01 k0 k1 k2 k3 hps2 hpl1 hB00
          go_wp2_with fail
          refine c2.mono ?_
          rintro e w2 ⟨v2, rfl, hO2, hB2⟩
          have hB12 := HB01.out.trans (hB2.mono HB01.out.size)
          have c3 := buf_Write w.heap.size w.heap.size (fpreB fs j) (vint t.length) v2 w1.heap.size w2 (isBuf_below HU.out hB2) hB12.size hO2 (by omega) (by omega) (by simp at hpl2; omega)
          have HB12 := Lib.hid hB12
          have hgk : ∀ i, w2.cell? ⟨wr.heap.size, i, none⟩ = w1.cell? ⟨wr.heap.size, i, none⟩ := fun i => hB2.cell (p := ⟨wr.heap.size, i, none⟩) (by show wr.heap.size < _; omega)
          rw [← hgk] at g0 g1 g2 g3
          have HG2 := Lib.hid ((hB2.block wr.heap.size (by omega)).trans HGB.out)
          clear c2 hO2 hB2 hB12 hgk
          go_wp2_with fail
          refine c3.mono ?_
          rintro e w3 ⟨rfl, hU3, hB3, hK3⟩
          clear c3
          have hg2b : w2.heap[wr.heap.size]? = some (.cells #[.int .i64 3, .int .i64 num, .string ⟨t.toArray⟩, .bool is_] 92 (0, 0)) := HG2.out
          have hg3b := hK3 _ _ hg2b (by simp; omega) (by intro c fz h; cases h)
          have m2 : w3.cell? ⟨wr.heap.size, 2, none⟩ = some (.string ⟨t.toArray⟩) := cell_of_row _ _ 2 _ _ _ hg3b
          have hB123 := HB12.out.trans hB3
          have c4 := buf_WriteString w.heap.size w.heap.size (fpreB fs j ++ vint t.length) t w3 hU3 hB123.size (by simp at hpl2 ⊢; omega)
          have HB123 := Lib.hid hB123
          clear hU3 hB3 hB123 hK3 hg2b hg3b g0 g1 g2 g3
          go_wp2_with fail
          refine c4.mono ?_
          rintro e w4 ⟨rfl, hU4, hB4⟩
          clear c4
          have HU4 : Hid (isBuf w.heap.size w.heap.size (fpreB fs (j + 1)) w4) := by
            show isBuf _ _ _ _
            rw [HPS2.out, ← List.append_assoc]
            exact hU4
          have HB4 := Lib.hid (HB123.out.trans hB4)
          have HR2 := Lib.hid (take_right fs j _ HF.out HRR.out HR.out)
          clear hU4 hB4
          go_wp2_with fail
          go_roundw
          case rel => exact ⟨j + 1, by omega, by go_num, HR2, HU4, HB4⟩
          case measure => simp [intOf]; omega
        · -- kind 4

          go_wp2_with fail
          refine c1.mono ?_
          rintro e w1 ⟨rfl, hB1⟩
          have hgb : w1.heap[wr.heap.size]? = _ := (hB1.block _ (by simp)).trans (heap_alloc_new wr _)
          have g0 := cell_of_row _ _ 0 _ _ _ hgb
          have g1 := cell_of_row _ _ 1 _ _ _ hgb
          have g2 := cell_of_row _ _ 2 _ _ _ hgb
          have g3 := cell_of_row _ _ 3 _ _ _ hgb
          simp only [List.getElem?_toArray, List.getElem?_cons_zero, List.getElem?_cons_succ] at g0 g1 g2 g3
          have hB01 := hB0.trans (hB1.mono hB0.size)
          have hown2 : isBuf w.heap.size w.heap.size (fpreB fs j) w1 := isBuf_below hown1 hB1
          have hs1 := hB1.size
          rw [hsa] at hs1
          have c2 := code_Flag (.slice none 0 0) [] is_ w1 (Bts.nil _ _) (by decide)
          rw [List.nil_append] at c2
          have hvl := vint_len (flagN is_) (by unfold flagN; split <;> omega)
          have hps2 : fpreB fs (j + 1) = fpreB fs j ++ (vint (flagN is_)) := HPS.out
          have hpl2 : (fpreB fs j).length + (vint (flagN is_)).length ≤ 1000000000 := by
            rw [hps2, List.length_append] at hpl1
            omega
          have HPS2 := Lib.hid hps2
          have HB01 := Lib.hid hB01
          have HU := Lib.hid hown2
          have HGB := Lib.hid hgb
          clear c1 hgb hB1 hB0 hown1 hown2 hB01 k0 k1 k2 k3 hps2 hpl1 hB00
          go_wp2_with fail
          refine c2.mono ?_
          rintro e w2 ⟨v2, rfl, hO2, hB2⟩
          have hB12 := HB01.out.trans (hB2.mono HB01.out.size)
          have c3 := buf_Write w.heap.size w.heap.size (fpreB fs j) (vint (flagN is_)) v2 w1.heap.size w2 (isBuf_below HU.out hB2) hB12.size hO2 (by omega) (by omega) (by omega)
          have HB12 := Lib.hid hB12
          have hgk : ∀ i, w2.cell? ⟨wr.heap.size, i, none⟩ = w1.cell? ⟨wr.heap.size, i, none⟩ := fun i => hB2.cell (p := ⟨wr.heap.size, i, none⟩) (by show wr.heap.size < _; omega)
          rw [← hgk] at g0 g1 g2 g3
          have HG2 := Lib.hid ((hB2.block wr.heap.size (by omega)).trans HGB.out)
          clear c2 hO2 hB2 hB12 hgk
          go_wp2_with fail
          refine c3.mono ?_
          rintro e w3 ⟨rfl, hU3, hB3, hK3⟩
          clear c3
          have HU3 : Hid (isBuf w.heap.size w.heap.size (fpreB fs (j + 1)) w3) := by
            show isBuf _ _ _ _
            rw [HPS2.out]
            exact hU3
          have HB3 := Lib.hid (HB12.out.trans hB3)
          have HR2 := Lib.hid (take_right fs j _ HF.out HRR.out HR.out)
          clear hU3 hB3 g0 g1 g2 g3
          go_wp2_with fail
          go_roundw
          case rel => exact ⟨j + 1, by omega, by go_num, HR2, HU3, HB3⟩
          case measure => simp [intOf]; omega
      · have hr' : rightB ⟨k, num, t, is_⟩ = false := by simpa using hr
        rw [hr'] at c1
        have hB0 := Lib.hid (HB.out.alloc hsb (.cells #[.int .i64 k, .int .i64 num, .string ⟨t.toArray⟩, .bool is_] 92))
        have HE := Lib.hid (fieldsB_bad fs j _ HF.out hr')
        clear hr hr'
        go_wp2_with fail
        refine c1.mono ?_
        rintro e w1 ⟨rfl, hB1⟩
        go_wp2
        go_ret
        rw [HE.out]
        exact ⟨_, rfl, Own.nil _ _, hB0.out.trans (hB1.mono hB0.out.size)⟩
    · have HE := Lib.hid (fieldsB_all fs j (by have := HN.out; omega) HR.out)
      have c3 := buf_Bytes w.heap.size w.heap.size (fpreB fs j) wr HO.out
      go_wp2_with fail
      refine c3.mono ?_
      rintro e w3 ⟨v3, rfl, hO3, n3, rfl⟩
      clear c3
      go_wp2
      go_ret
      rw [HE.out]
      exact ⟨_, rfl, hO3, HB.out.trans (bdN _ _ _)⟩

end Go.Proofs.YtgnpjenpehfjbaaDoor
