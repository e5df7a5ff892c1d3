/- The program's Line (by program: wip/tools/gen_sline.py). -/
import Derived.Test.YtaeoghagpeihkaaDoorSI
import Derived.Test.YtaeoghagpeihkaaDoorSB
set_option linter.unusedSimpArgs false
set_option linter.unusedVariables false
namespace Go.Proofs.YtaeoghagpeihkaaDoor
open Go.RowKit

theorem shapeV_ok {k : Int} (h : wordF k ≠ []) : shapeV k = #[.int .i64 k, .string ⟨(wordF k).toArray⟩, .string ⟨(argsP k).toArray⟩] ∧ wordB k = true := by
  unfold shapeV wordB
  rw [if_neg h]
  exact ⟨rfl, by simpa using h⟩
theorem shapeV_no {k : Int} (h : wordF k = []) : shapeV k = #[.int .i64 0, .string ⟨#[]⟩, .string ⟨#[]⟩] ∧ wordB k = false := by
  unfold shapeV wordB
  rw [if_pos h, h]
  exact ⟨rfl, rfl⟩
theorem argsP_at (k : Int) (i : Nat) (h : i < (shapeF k).length) (h2 : i < (⟨(argsP k).toArray⟩ : ByteArray).size) : (⟨(argsP k).toArray⟩ : ByteArray)[i]'h2 = ltF ((shapeF k)[i]) := by
  show (argsP k).toArray[i] = _
  simp [argsP]
theorem argsP_len (k : Int) : (⟨(argsP k).toArray⟩ : ByteArray).size = (shapeF k).length := by
  simp [ByteArray.size, argsP]

set_option maxRecDepth 100000 in
set_option maxHeartbeats 8000000 in
theorem line_any (s : Stp) (h64 : Stp64 s) (hn : s.name.length ≤ 10000000) (w : World) (ht : TabT w) : Calls Tryd.prog 12 #[.agg (stepC s)] w fun e w' => e = .returned (.string ⟨(lineF s).toArray⟩) ∧ Below w.heap.size w w' := by
  obtain ⟨g1, j1⟩ := new_block w (.cells #[.int .i64 s.kind, .int .i64 s.a, .int .i64 s.b, .string ⟨s.name.toArray⟩, .int .i64 s.k, .int .i64 s.n] 35)
  have HB1 := Lib.hid g1
  have HR1 := Lib.hid j1
  have HT := Lib.hid ht
  have k0 : (w.alloc (.cells #[.int .i64 s.kind, .int .i64 s.a, .int .i64 s.b, .string ⟨s.name.toArray⟩, .int .i64 s.k, .int .i64 s.n] 35)).cell? ⟨w.heap.size, 0, none⟩ = some (.int .i64 s.kind) := (cell_of_row _ _ 0 _ _ _ HR1.out).trans rfl
  have HW1 := Lib.hid (bykind_any s.kind (w.alloc (.cells #[.int .i64 s.kind, .int .i64 s.a, .int .i64 s.b, .string ⟨s.name.toArray⟩, .int .i64 s.k, .int .i64 s.n] 35)))
  clear g1 j1 ht
  simp only [stepC]
  by_cases hw : wordF s.kind = []
  · have HE : Hid (lineF s = []) := line_word hw
    obtain ⟨e1, e2⟩ := shapeV_no hw
    rw [e1, e2] at HW1
    clear hw e1 e2
    go_enter Tryd.func12, Tryd.ntmps12
    go_wp2_with (fail)
    with_reducible refine HW1.out.mono ?_
    rintro e w1 ⟨rfl, hB1⟩
    have HB2 := Lib.hid (HB1.out.trans (hB1.mono HB1.out.size))
    have HB3 := Lib.hid (HB2.out.trans ((new_block w1 (.cells #[.int .i64 0, .string ⟨#[]⟩, .string ⟨#[]⟩] 63)).1.mono HB2.out.size))
    clear hB1 HW1
    go_wp2_with (fail)
    go_ret
    exact ⟨by rw [HE.out]; rfl, HB3.out⟩
  · obtain ⟨e1, e2⟩ := shapeV_ok hw
    rw [e1, e2] at HW1
    have HW0 := Lib.hid hw
    clear e1 e2 hw
    have hfz := argsP_len s.kind
    have hLET : ∀ c ∈ shapeF s.kind, c = 97 ∨ c = 98 ∨ c = 115 ∨ c = 107 ∨ c = 110 ∨ c = 109 := (shape_all s.kind).2
    have hsl : (shapeF s.kind).length ≤ 4 := shape_len s.kind
    obtain ⟨fl, hfl⟩ : ∃ l, l = shapeF s.kind := ⟨_, rfl⟩
    obtain ⟨fs, hfs⟩ : ∃ b, b = (⟨(argsP s.kind).toArray⟩ : ByteArray) := ⟨_, rfl⟩
    obtain ⟨wd, hwd⟩ : ∃ x, x = wordF s.kind := ⟨_, rfl⟩
    have hwl : wd.length ≤ 7 := by rw [hwd]; exact wordF_len _
    have HWD := Lib.hid hwd
    rw [← hwd, ← hfs] at HW1
    have HF2 : Hid (∀ (i : Nat) (h : i < fl.length) (h2 : i < fs.size), fs[i]'h2 = ltF (fl[i]'h)) := by subst hfs; subst hfl; exact fun i h h2 => argsP_at s.kind i h h2
    rw [← hfs] at hfz
    simp only [← hfl] at hfz hLET hsl
    have HFD := Lib.hid hfl
    have HLET := Lib.hid hLET
    clear hwd hfs hfl hLET
    go_enter Tryd.func12, Tryd.ntmps12
    go_wp2_with (fail)
    with_reducible refine HW1.out.mono ?_
    rintro e w1 ⟨rfl, hB1⟩
    clear HW1
    have HB2 := Lib.hid (HB1.out.trans (hB1.mono HB1.out.size))
    have HR2 := Lib.hid (stays HR1.out hB1)
    obtain ⟨g3, j3⟩ := new_block w1 (.cells #[.int .i64 s.kind, .string ⟨wd.toArray⟩, .string fs] 63)
    have HB3 := Lib.hid (HB2.out.trans (g3.mono HB2.out.size))
    have hR3 := stays HR2.out g3
    have HR3 := Lib.hid hR3
    have HX3 := Lib.hid j3
    have x1 : (w1.alloc (.cells #[.int .i64 s.kind, .string ⟨wd.toArray⟩, .string fs] 63)).cell? ⟨w1.heap.size, 1, none⟩ = some (.string ⟨wd.toArray⟩) := (cell_of_row _ _ 1 _ _ _ j3).trans rfl
    have s0 : (w1.alloc (.cells #[.int .i64 s.kind, .string ⟨wd.toArray⟩, .string fs] 63)).cell? ⟨w.heap.size, 0, none⟩ = some (.int .i64 s.kind) := (cell_of_row _ _ 0 _ _ _ hR3).trans rfl
    have s1 : (w1.alloc (.cells #[.int .i64 s.kind, .string ⟨wd.toArray⟩, .string fs] 63)).cell? ⟨w.heap.size, 1, none⟩ = some (.int .i64 s.a) := (cell_of_row _ _ 1 _ _ _ hR3).trans rfl
    have s2 : (w1.alloc (.cells #[.int .i64 s.kind, .string ⟨wd.toArray⟩, .string fs] 63)).cell? ⟨w.heap.size, 2, none⟩ = some (.int .i64 s.b) := (cell_of_row _ _ 2 _ _ _ hR3).trans rfl
    have s3 : (w1.alloc (.cells #[.int .i64 s.kind, .string ⟨wd.toArray⟩, .string fs] 63)).cell? ⟨w.heap.size, 3, none⟩ = some (.string ⟨s.name.toArray⟩) := (cell_of_row _ _ 3 _ _ _ hR3).trans rfl
    have s4 : (w1.alloc (.cells #[.int .i64 s.kind, .string ⟨wd.toArray⟩, .string fs] 63)).cell? ⟨w.heap.size, 4, none⟩ = some (.int .i64 s.k) := (cell_of_row _ _ 4 _ _ _ hR3).trans rfl
    have s5 : (w1.alloc (.cells #[.int .i64 s.kind, .string ⟨wd.toArray⟩, .string fs] 63)).cell? ⟨w.heap.size, 5, none⟩ = some (.int .i64 s.n) := (cell_of_row _ _ 5 _ _ _ hR3).trans rfl
    obtain ⟨g4, j4⟩ := new_block (w1.alloc (.cells #[.int .i64 s.kind, .string ⟨wd.toArray⟩, .string fs] 63)) (.cells #[.int .i64 0, .int .i64 s.a, .int .i64 s.b, .string ⟨s.name.toArray⟩, .int .i64 s.k, .int .i64 s.n] 35)
    have HB4 := Lib.hid (HB3.out.trans (g4.mono HB3.out.size))
    have HR4 := Lib.hid (stays HR3.out g4)
    have hX4 := stays HX3.out g4
    have HX4 := Lib.hid hX4
    have HS4 := Lib.hid j4
    have x2 : ((w1.alloc (.cells #[.int .i64 s.kind, .string ⟨wd.toArray⟩, .string fs] 63)).alloc (.cells #[.int .i64 0, .int .i64 s.a, .int .i64 s.b, .string ⟨s.name.toArray⟩, .int .i64 s.k, .int .i64 s.n] 35)).cell? ⟨w1.heap.size, 2, none⟩ = some (.string fs) := (cell_of_row _ _ 2 _ _ _ hX4).trans rfl
    have hsz : (w1.alloc (.cells #[.int .i64 s.kind, .string ⟨wd.toArray⟩, .string fs] 63)).heap.size = w1.heap.size + 1 := by show (Array.push _ _).size = _; exact Array.size_push _
    rw [hsz] at HS4
    have HLT : Hid (w.heap.size < w1.heap.size) := by
      have := HB2.out.size
      have h2 := (Array.getElem?_eq_some_iff.1 HR2.out).1
      exact h2
    clear g3 j3 g4 j4 hB1 hR3 hX4 hsz
    go_wp2_with (fail)
    obtain ⟨sb, hsb⟩ : ∃ b, b = w.heap.size := ⟨_, rfl⟩
    obtain ⟨xb, hxb⟩ : ∃ b, b = w1.heap.size := ⟨_, rfl⟩
    obtain ⟨rb, hrb⟩ : ∃ b, b = w1.heap.size + 1 := ⟨_, rfl⟩
    rw [← hrb] at HS4
    rw [← hsb] at HR4
    rw [← hxb] at HX4
    have HRB := Lib.hid hrb
    have HRX : Hid (w.heap.size ≤ w1.heap.size + 1) := Nat.le_of_lt (Nat.lt_succ_of_lt HLT.out)
    have HD1 : Hid (sb ≠ rb) := by show _ ≠ _; rw [hsb, hrb]; have := HLT.out; omega
    have HD2 : Hid (xb ≠ rb) := by show _ ≠ _; rw [hxb, hrb]; omega
    rw [← hrb, ← hxb, ← hsb]
    clear hsb hxb hrb s0 s1 s2 s3 s4 s5 x1 x2
    go_loopw [5, 23] (fun ov iv wr => ∃ (i : Nat) (ob : ByteArray), i ≤ fl.length ∧ iv = .int .i64 (i : Int) ∧ ov = .string ob ∧ Hid (ob.data.toList = outI s (fl.take i)) ∧ ob.size ≤ 10 + i * 50000000 ∧ Hid (Below w.heap.size w wr) ∧ Hid (wr.heap[sb]? = some (.cells (stepC s) 35 (0, 0))) ∧ Hid (wr.heap[xb]? = some (.cells #[.int .i64 s.kind, .string ⟨wd.toArray⟩, .string fs] 63 (0, 0))) ∧ Hid (wr.heap[rb]? = some (.cells (stepC (restI s (fl.take i))) 35 (0, 0))) ∧ Hid (∀ c ∈ fl.take i, c = 109 → 0 ≤ s.n)) (fun _ iv _ => fl.length - (intOf iv).toNat)
    case atStart => exact ⟨0, ⟨wd.toArray⟩, Nat.zero_le _, rfl, rfl, by show _ = _; rw [List.take_zero, outI_nil]; exact HWD.out, by show wd.length ≤ _; omega, HB4.out, HR4.out, HX4.out, by show _ = _; rw [List.take_zero, restI_nil]; exact HS4.out, fun c h => by simp at h⟩
    case round =>
      clear HB4 HR4 HX4 HS4 HB3 HR3 HX3 HB1 HR1 HB2 HR2
      obtain ⟨i, ob, hi, rfl, rfl, HO, hob, HB, HR, HX, HS, HM⟩ := hrel
      by_cases hlt : i < fl.length
      · have hif : i < fs.size := by omega
        obtain ⟨c, hcc⟩ : ∃ c, fl[i]'hlt = c := ⟨_, rfl⟩
        have hc : fs[i] = ltF c := by rw [← hcc]; exact HF2.out i hlt hif
        have hlet := HLET.out c (by rw [← hcc]; exact List.getElem_mem _)
        have HMEM : Hid (c ∈ fl) := by show _ ∈ _; rw [← hcc]; exact List.getElem_mem _
        have HTK : Hid (fl.take (i + 1) = fl.take i ++ [c]) := by show _ = _; rw [List.take_succ_eq_append_getElem hlt, hcc]
        clear hcc
        rcases hlet with h | h | h | h | h | h
        · have hltf : ltF c = 97 := by rw [h]; decide
          rw [hltf] at hc
          subst h
          clear hltf
          have cf : wr.cell? ⟨sb, 1, none⟩ = some (.int .i64 s.a) := (cell_of_row _ _ 1 _ _ _ HR.out).trans rfl
          have cx : wr.cell? ⟨xb, 2, none⟩ = some (.string fs) := (cell_of_row _ _ 2 _ _ _ HX.out).trans rfl
          have HNB := Lib.hid (itoa_any s.a h64.a wr (HT.out.below HB.out))
          have hfl0 := fieldV_len h64 97
          rw [fieldV_97] at hfl0
          replace hfl0 := Nat.le_trans hfl0 (show 4 * s.name.length + 21 ≤ 40000021 by omega)
          go_wp2_with (fail)
          with_reducible refine HNB.out.mono ?_
          rintro e w3 ⟨rfl, hB3⟩
          have HB3 := Lib.hid (HB.out.trans (hB3.mono HB.out.size))
          have HR3 := Lib.hid (stays HR.out hB3)
          have HX3 := Lib.hid (stays HX.out hB3)
          have hS3 := stays HS.out hB3
          have hcs : w3.cell? ⟨rb, 1, none⟩ = some (.int .i64 (restI s (fl.take i)).a) := (cell_of_row _ _ 1 _ _ _ hS3).trans rfl
          have hfz2 : w3.frozen? ⟨rb, 1, none⟩ = false := frozen_of_row _ _ _ _ _ hS3
          have HS3 := Lib.hid hS3
          clear HNB hB3 hS3
          go_wp2_with (fail)
          go_roundw
          case rel =>
            refine ⟨i + 1, _, by omega, by go_num, rfl, ?_, ?_, ?_, ?_, ?_, ?_, ?_⟩
            · show _ = _
              rw [HTK.out, outI_add, fieldV_97, ← HO.out]
              simp [ByteArray.data_append]
            · rw [ByteArray.size_append, ByteArray.size_append]
              simp only [ByteArray.size, List.size_toArray, List.length_cons, List.length_nil] at hob ⊢
              omega
            · exact Lib.hid (setCells_below (by rw [HRB.out]; exact HRX.out) [.int .i64 0] 1 _ _ HB3.out)
            · exact Lib.hid ((set_other _ _ _ _ _ HD1.out).trans HR3.out)
            · exact Lib.hid ((set_other _ _ _ _ _ HD2.out).trans HX3.out)
            · show _ = _
              rw [HTK.out, restI_97]
              exact set_block w3 rb 1 _ _ (.int .i64 0) HS3.out
            · exact Lib.hid (by
                intro d hd
                rw [HTK.out, List.mem_append] at hd
                rcases hd with hd | hd
                · exact HM.out d hd
                · rw [List.mem_singleton] at hd; subst hd; intro e; exact absurd e (by decide))
          case measure => simp [intOf] <;> omega
        · have hltf : ltF c = 98 := by rw [h]; decide
          rw [hltf] at hc
          subst h
          clear hltf
          have cf : wr.cell? ⟨sb, 2, none⟩ = some (.int .i64 s.b) := (cell_of_row _ _ 2 _ _ _ HR.out).trans rfl
          have cx : wr.cell? ⟨xb, 2, none⟩ = some (.string fs) := (cell_of_row _ _ 2 _ _ _ HX.out).trans rfl
          have HNB := Lib.hid (itoa_any s.b h64.b wr (HT.out.below HB.out))
          have hfl0 := fieldV_len h64 98
          rw [fieldV_98] at hfl0
          replace hfl0 := Nat.le_trans hfl0 (show 4 * s.name.length + 21 ≤ 40000021 by omega)
          go_wp2_with (fail)
          with_reducible refine HNB.out.mono ?_
          rintro e w3 ⟨rfl, hB3⟩
          have HB3 := Lib.hid (HB.out.trans (hB3.mono HB.out.size))
          have HR3 := Lib.hid (stays HR.out hB3)
          have HX3 := Lib.hid (stays HX.out hB3)
          have hS3 := stays HS.out hB3
          have hcs : w3.cell? ⟨rb, 2, none⟩ = some (.int .i64 (restI s (fl.take i)).b) := (cell_of_row _ _ 2 _ _ _ hS3).trans rfl
          have hfz2 : w3.frozen? ⟨rb, 2, none⟩ = false := frozen_of_row _ _ _ _ _ hS3
          have HS3 := Lib.hid hS3
          clear HNB hB3 hS3
          go_wp2_with (fail)
          go_roundw
          case rel =>
            refine ⟨i + 1, _, by omega, by go_num, rfl, ?_, ?_, ?_, ?_, ?_, ?_, ?_⟩
            · show _ = _
              rw [HTK.out, outI_add, fieldV_98, ← HO.out]
              simp [ByteArray.data_append]
            · rw [ByteArray.size_append, ByteArray.size_append]
              simp only [ByteArray.size, List.size_toArray, List.length_cons, List.length_nil] at hob ⊢
              omega
            · exact Lib.hid (setCells_below (by rw [HRB.out]; exact HRX.out) [.int .i64 0] 2 _ _ HB3.out)
            · exact Lib.hid ((set_other _ _ _ _ _ HD1.out).trans HR3.out)
            · exact Lib.hid ((set_other _ _ _ _ _ HD2.out).trans HX3.out)
            · show _ = _
              rw [HTK.out, restI_98]
              exact set_block w3 rb 2 _ _ (.int .i64 0) HS3.out
            · exact Lib.hid (by
                intro d hd
                rw [HTK.out, List.mem_append] at hd
                rcases hd with hd | hd
                · exact HM.out d hd
                · rw [List.mem_singleton] at hd; subst hd; intro e; exact absurd e (by decide))
          case measure => simp [intOf] <;> omega
        · have hltf : ltF c = 113 := by rw [h]; decide
          rw [hltf] at hc
          subst h
          clear hltf
          have cf : wr.cell? ⟨sb, 3, none⟩ = some (.string ⟨s.name.toArray⟩) := (cell_of_row _ _ 3 _ _ _ HR.out).trans rfl
          have cx : wr.cell? ⟨xb, 2, none⟩ = some (.string fs) := (cell_of_row _ _ 2 _ _ _ HX.out).trans rfl
          have HNB := Lib.hid (quote_any ⟨s.name.toArray⟩ wr (by show s.name.length ≤ _; omega))
          have hfl0 := fieldV_len h64 115
          rw [fieldV_115] at hfl0
          replace hfl0 := Nat.le_trans hfl0 (show 4 * s.name.length + 21 ≤ 40000021 by omega)
          go_wp2_with (fail)
          with_reducible refine HNB.out.mono ?_
          rintro e w3 ⟨rfl, hB3⟩
          have HB3 := Lib.hid (HB.out.trans (hB3.mono HB.out.size))
          have HR3 := Lib.hid (stays HR.out hB3)
          have HX3 := Lib.hid (stays HX.out hB3)
          have hS3 := stays HS.out hB3
          have hcs : w3.cell? ⟨rb, 3, none⟩ = some (.string ⟨(restI s (fl.take i)).name.toArray⟩) := (cell_of_row _ _ 3 _ _ _ hS3).trans rfl
          have hfz2 : w3.frozen? ⟨rb, 3, none⟩ = false := frozen_of_row _ _ _ _ _ hS3
          have HS3 := Lib.hid hS3
          clear HNB hB3 hS3
          go_wp2_with (fail)
          go_roundw
          case rel =>
            refine ⟨i + 1, _, by omega, by go_num, rfl, ?_, ?_, ?_, ?_, ?_, ?_, ?_⟩
            · show _ = _
              rw [HTK.out, outI_add, fieldV_115, ← HO.out]
              simp [ByteArray.data_append]
            · rw [ByteArray.size_append, ByteArray.size_append]
              simp only [ByteArray.size, List.size_toArray, List.length_cons, List.length_nil] at hob ⊢
              omega
            · exact Lib.hid (setCells_below (by rw [HRB.out]; exact HRX.out) [.string ⟨#[]⟩] 3 _ _ HB3.out)
            · exact Lib.hid ((set_other _ _ _ _ _ HD1.out).trans HR3.out)
            · exact Lib.hid ((set_other _ _ _ _ _ HD2.out).trans HX3.out)
            · show _ = _
              rw [HTK.out, restI_115]
              exact set_block w3 rb 3 _ _ (.string ⟨#[]⟩) HS3.out
            · exact Lib.hid (by
                intro d hd
                rw [HTK.out, List.mem_append] at hd
                rcases hd with hd | hd
                · exact HM.out d hd
                · rw [List.mem_singleton] at hd; subst hd; intro e; exact absurd e (by decide))
          case measure => simp [intOf] <;> omega
        · have hltf : ltF c = 107 := by rw [h]; decide
          rw [hltf] at hc
          subst h
          clear hltf
          have cf : wr.cell? ⟨sb, 4, none⟩ = some (.int .i64 s.k) := (cell_of_row _ _ 4 _ _ _ HR.out).trans rfl
          have cx : wr.cell? ⟨xb, 2, none⟩ = some (.string fs) := (cell_of_row _ _ 2 _ _ _ HX.out).trans rfl
          have HNB := Lib.hid (itoa_any s.k h64.k wr (HT.out.below HB.out))
          have hfl0 := fieldV_len h64 107
          rw [fieldV_107] at hfl0
          replace hfl0 := Nat.le_trans hfl0 (show 4 * s.name.length + 21 ≤ 40000021 by omega)
          go_wp2_with (fail)
          with_reducible refine HNB.out.mono ?_
          rintro e w3 ⟨rfl, hB3⟩
          have HB3 := Lib.hid (HB.out.trans (hB3.mono HB.out.size))
          have HR3 := Lib.hid (stays HR.out hB3)
          have HX3 := Lib.hid (stays HX.out hB3)
          have hS3 := stays HS.out hB3
          have hcs : w3.cell? ⟨rb, 4, none⟩ = some (.int .i64 (restI s (fl.take i)).k) := (cell_of_row _ _ 4 _ _ _ hS3).trans rfl
          have hfz2 : w3.frozen? ⟨rb, 4, none⟩ = false := frozen_of_row _ _ _ _ _ hS3
          have HS3 := Lib.hid hS3
          clear HNB hB3 hS3
          go_wp2_with (fail)
          go_roundw
          case rel =>
            refine ⟨i + 1, _, by omega, by go_num, rfl, ?_, ?_, ?_, ?_, ?_, ?_, ?_⟩
            · show _ = _
              rw [HTK.out, outI_add, fieldV_107, ← HO.out]
              simp [ByteArray.data_append]
            · rw [ByteArray.size_append, ByteArray.size_append]
              simp only [ByteArray.size, List.size_toArray, List.length_cons, List.length_nil] at hob ⊢
              omega
            · exact Lib.hid (setCells_below (by rw [HRB.out]; exact HRX.out) [.int .i64 0] 4 _ _ HB3.out)
            · exact Lib.hid ((set_other _ _ _ _ _ HD1.out).trans HR3.out)
            · exact Lib.hid ((set_other _ _ _ _ _ HD2.out).trans HX3.out)
            · show _ = _
              rw [HTK.out, restI_107]
              exact set_block w3 rb 4 _ _ (.int .i64 0) HS3.out
            · exact Lib.hid (by
                intro d hd
                rw [HTK.out, List.mem_append] at hd
                rcases hd with hd | hd
                · exact HM.out d hd
                · rw [List.mem_singleton] at hd; subst hd; intro e; exact absurd e (by decide))
          case measure => simp [intOf] <;> omega
        · have hltf : ltF c = 105 := by rw [h]; decide
          rw [hltf] at hc
          subst h
          clear hltf
          have cf : wr.cell? ⟨sb, 5, none⟩ = some (.int .i64 s.n) := (cell_of_row _ _ 5 _ _ _ HR.out).trans rfl
          have cx : wr.cell? ⟨xb, 2, none⟩ = some (.string fs) := (cell_of_row _ _ 2 _ _ _ HX.out).trans rfl
          have HNB := Lib.hid (fmt_any s.n h64.n wr (HT.out.below HB.out))
          have hfl0 := fieldV_len h64 110
          rw [fieldV_110] at hfl0
          replace hfl0 := Nat.le_trans hfl0 (show 4 * s.name.length + 21 ≤ 40000021 by omega)
          go_wp2_with (fail)
          with_reducible refine HNB.out.mono ?_
          rintro e w3 ⟨rfl, hB3⟩
          have HB3 := Lib.hid (HB.out.trans (hB3.mono HB.out.size))
          have HR3 := Lib.hid (stays HR.out hB3)
          have HX3 := Lib.hid (stays HX.out hB3)
          have hS3 := stays HS.out hB3
          have hcs : w3.cell? ⟨rb, 5, none⟩ = some (.int .i64 (restI s (fl.take i)).n) := (cell_of_row _ _ 5 _ _ _ hS3).trans rfl
          have hfz2 : w3.frozen? ⟨rb, 5, none⟩ = false := frozen_of_row _ _ _ _ _ hS3
          have HS3 := Lib.hid hS3
          clear HNB hB3 hS3
          go_wp2_with (fail)
          go_roundw
          case rel =>
            refine ⟨i + 1, _, by omega, by go_num, rfl, ?_, ?_, ?_, ?_, ?_, ?_, ?_⟩
            · show _ = _
              rw [HTK.out, outI_add, fieldV_110, ← HO.out]
              simp [ByteArray.data_append]
            · rw [ByteArray.size_append, ByteArray.size_append]
              simp only [ByteArray.size, List.size_toArray, List.length_cons, List.length_nil] at hob ⊢
              omega
            · exact Lib.hid (setCells_below (by rw [HRB.out]; exact HRX.out) [.int .i64 0] 5 _ _ HB3.out)
            · exact Lib.hid ((set_other _ _ _ _ _ HD1.out).trans HR3.out)
            · exact Lib.hid ((set_other _ _ _ _ _ HD2.out).trans HX3.out)
            · show _ = _
              rw [HTK.out, restI_110]
              exact set_block w3 rb 5 _ _ (.int .i64 0) HS3.out
            · exact Lib.hid (by
                intro d hd
                rw [HTK.out, List.mem_append] at hd
                rcases hd with hd | hd
                · exact HM.out d hd
                · rw [List.mem_singleton] at hd; subst hd; intro e; exact absurd e (by decide))
          case measure => simp [intOf] <;> omega
        · have hltf : ltF c = 112 := by rw [h]; decide
          rw [hltf] at hc
          subst h
          clear hltf
          have cf : wr.cell? ⟨sb, 5, none⟩ = some (.int .i64 s.n) := (cell_of_row _ _ 5 _ _ _ HR.out).trans rfl
          have cx : wr.cell? ⟨xb, 2, none⟩ = some (.string fs) := (cell_of_row _ _ 2 _ _ _ HX.out).trans rfl
          by_cases hneg : s.n < 0
          · have HE : Hid (lineF s = []) := line_neg (by rw [← HFD.out]; exact HMEM.out) hneg
            go_wp2_with (fail)
            go_ret
            exact ⟨by rw [HE.out]; rfl, HB.out⟩
          · have HNB := Lib.hid (fmt_any s.n h64.n wr (HT.out.below HB.out))
            have hfl0 := fieldV_len h64 109
            rw [fieldV_109] at hfl0
            replace hfl0 := Nat.le_trans hfl0 (show 4 * s.name.length + 21 ≤ 40000021 by omega)
            go_wp2_with (fail)
            with_reducible refine HNB.out.mono ?_
            rintro e w3 ⟨rfl, hB3⟩
            have HB3 := Lib.hid (HB.out.trans (hB3.mono HB.out.size))
            have HR3 := Lib.hid (stays HR.out hB3)
            have HX3 := Lib.hid (stays HX.out hB3)
            have hS3 := stays HS.out hB3
            have hcs : w3.cell? ⟨rb, 5, none⟩ = some (.int .i64 (restI s (fl.take i)).n) := (cell_of_row _ _ 5 _ _ _ hS3).trans rfl
            have hfz2 : w3.frozen? ⟨rb, 5, none⟩ = false := frozen_of_row _ _ _ _ _ hS3
            have HS3 := Lib.hid hS3
            clear HNB hB3 hS3
            go_wp2_with (fail)
            go_roundw
            case rel =>
              refine ⟨i + 1, _, by omega, by go_num, rfl, ?_, ?_, ?_, ?_, ?_, ?_, ?_⟩
              · show _ = _
                rw [HTK.out, outI_add, fieldV_109, ← HO.out]
                simp [ByteArray.data_append]
              · rw [ByteArray.size_append, ByteArray.size_append]
                simp only [ByteArray.size, List.size_toArray, List.length_cons, List.length_nil] at hob ⊢
                omega
              · exact Lib.hid (setCells_below (by rw [HRB.out]; exact HRX.out) [.int .i64 0] 5 _ _ HB3.out)
              · exact Lib.hid ((set_other _ _ _ _ _ HD1.out).trans HR3.out)
              · exact Lib.hid ((set_other _ _ _ _ _ HD2.out).trans HX3.out)
              · show _ = _
                rw [HTK.out, restI_109]
                exact set_block w3 rb 5 _ _ (.int .i64 0) HS3.out
              · exact Lib.hid (by
                  intro d hd
                  rw [HTK.out, List.mem_append] at hd
                  rcases hd with hd | hd
                  · exact HM.out d hd
                  · rw [List.mem_singleton] at hd; subst hd; intro e; exact hneg)
            case measure => simp [intOf] <;> omega
      · obtain rfl : i = fl.length := by omega
        rw [List.take_length] at HO HS HM
        obtain ⟨bs, hbs⟩ : ∃ b, b = sameS (restI s fl) zeroS := ⟨_, rfl⟩
        have HNE : Hid (∀ W, (binOp .neq 35 (.agg (stepC (restI s fl))) (.agg (stepC zeroS))).run Tryd.prog W = .ok (.bool (!bs)) W) := by show ∀ W, _; intro W; rw [hbs]; exact ne_S _ _ W
        rw [rest_want] at hbs
        have HBS := Lib.hid hbs
        clear hbs
        go_upto_region 24 with (fail)
        refine wp_region_lit ?_
        refine wpList_run (w' := wr) rfl (exec_load_row 35 _ rfl rb _ _ (.struct (Tryd.prog.fieldsOf 35)) rfl HS.out (by kernel_rfl) rfl (by kernel_rfl)) ?_
        refine wpList_run (v := .agg (stepC zeroS)) (w' := wr) rfl (by kernel_rfl) ?_
        refine wpList_run (w' := wr) rfl (exec_neq_agg 35 _ _ _ rfl _ _ _ rfl rfl (by kernel_rfl) (HNE.out _)) ?_
        refine wpList_nil ?_
        go_simp
        cases bs with
        | true =>
          have HE : Hid (lineF s = outI s fl) := by show _ = _; rw [HFD.out]; exact line_ok HW0.out (by rw [← HFD.out]; exact HM.out) (by rw [← HFD.out]; exact HBS.out.symm)
          go_wp2_with (fail)
          go_ret
          obtain rfl : ob = ⟨(outI s fl).toArray⟩ := by rw [← HO.out]
          exact ⟨by rw [HE.out]; rfl, HB.out⟩
        | false =>
          have HE : Hid (lineF s = []) := line_ne (by rw [← HFD.out]; exact HBS.out.symm)
          go_wp2_with (fail)
          go_ret
          exact ⟨by rw [HE.out]; rfl, HB.out⟩

end Go.Proofs.YtaeoghagpeihkaaDoor

