/- The document's Line (by program: wip/tools/gen_sline.py).
strings.Builder: copyCheck, WriteString, WriteByte at a builder of the call's own.
Scripts: Print, both sides (by program: wip/tools/gen_sprint.py).
Chapter 26's examples (by program: wip/tools/gen_sawake.py). -/
import Derived.Test.YtaeoghagpeihkaaDoorSI
import Derived.Test.YtaeoghagpeihkaaDoorSB
import Derived.Test.YtaeoghagpeihkaaDoorSC
import Derived.Test.YtaeoghagpeihkaaDoorSA
import Derived.Shelf.Strings.Builder1
import Derived.Lib.Builder
import Derived.Lib.AppendStr
import Derived.Lib.AppendIntMem
import Derived.Test.YtaeoghagpeihkaaDoorSO
import Derived.Test.YtaeoghagpeihkaaDoorSJ
import Derived.Test.YtaeoghagpeihkaaDoorSP
set_option linter.unusedSimpArgs false
set_option linter.unusedVariables false
namespace Go.Proofs.YtaeoghagpeihkaaDoor
open Go.RowKit

set_option maxRecDepth 100000 in
set_option maxHeartbeats 8000000 in
theorem rline_any (s : Stp) (h64 : Stp64 s) (hn : s.name.length ≤ 10000000) (w : World) (ht : TabT w) : Calls Tryd.prog 15 #[.agg (stepC s)] w fun e w' => e = .returned (.string ⟨(lineF s).toArray⟩) ∧ Below w.heap.size w w' := by
  obtain ⟨g1, j1⟩ := new_block w (.cells #[.int .i64 s.kind, .int .i64 s.a, .int .i64 s.b, .string ⟨s.name.toArray⟩, .int .i64 s.k, .int .i64 s.n] 35)
  obtain ⟨g2, j2⟩ := new_block (w.alloc (.cells #[.int .i64 s.kind, .int .i64 s.a, .int .i64 s.b, .string ⟨s.name.toArray⟩, .int .i64 s.k, .int .i64 s.n] 35)) (.cells #[.int .i64 s.kind, .int .i64 0, .int .i64 0, .string ⟨#[]⟩, .int .i64 0, .int .i64 0] 35)
  have HB1 := Lib.hid g1
  have HB0 := Lib.hid (g1.trans (g2.mono g1.size))
  have HR1 := Lib.hid j1
  have HR0 := Lib.hid (stays j1 g2)
  have HS0 := Lib.hid j2
  have hsz : (w.alloc (.cells #[.int .i64 s.kind, .int .i64 s.a, .int .i64 s.b, .string ⟨s.name.toArray⟩, .int .i64 s.k, .int .i64 s.n] 35)).heap.size = w.heap.size + 1 := by show (Array.push _ _).size = _; exact Array.size_push _
  rw [hsz] at HS0
  have HT := Lib.hid ht
  have k0 : (w.alloc (.cells #[.int .i64 s.kind, .int .i64 s.a, .int .i64 s.b, .string ⟨s.name.toArray⟩, .int .i64 s.k, .int .i64 s.n] 35)).cell? ⟨w.heap.size, 0, none⟩ = some (.int .i64 s.kind) := (cell_of_row _ _ 0 _ _ _ HR1.out).trans rfl
  obtain ⟨wd, hwd⟩ : ∃ x, x = wordF s.kind := ⟨_, rfl⟩
  have HW1 := Lib.hid (rword_any s.kind (w.alloc (.cells #[.int .i64 s.kind, .int .i64 s.a, .int .i64 s.b, .string ⟨s.name.toArray⟩, .int .i64 s.k, .int .i64 s.n] 35)))
  rw [← hwd] at HW1
  have hwl : wd.length ≤ 7 := by rw [hwd]; exact wordF_len _
  have HWD := Lib.hid hwd
  clear g1 g2 j1 j2 hsz ht hwd
  simp only [stepC]
  go_enter Tryd.func15, Tryd.ntmps15
  go_wp2_with (fail)
  with_reducible refine HW1.out.mono ?_
  rintro e w' ⟨rfl, rfl⟩
  by_cases hw0 : wd = []
  · have HE : Hid (lineF s = []) := line_word (by rw [← HWD.out]; exact hw0)
    subst hw0
    go_wp2_with (fail)
    go_ret
    exact ⟨by rw [HE.out]; rfl, HB1.out⟩
  · have hwe : (wd == []) = false := by simpa using hw0
    have HW0 := Lib.hid hw0
    have HW2 := HW1
    have HW3 := Lib.hid (rshape_any s.kind ((w.alloc (.cells #[.int .i64 s.kind, .int .i64 s.a, .int .i64 s.b, .string ⟨s.name.toArray⟩, .int .i64 s.k, .int .i64 s.n] 35)).alloc (.cells #[.int .i64 s.kind, .int .i64 0, .int .i64 0, .string ⟨#[]⟩, .int .i64 0, .int .i64 0] 35)))
    obtain ⟨fl, hfl⟩ : ∃ l, l = shapeF s.kind := ⟨_, rfl⟩
    rw [← hfl] at HW3
    have HFD := Lib.hid hfl
    have hLET : ∀ c ∈ fl, c = 97 ∨ c = 98 ∨ c = 115 ∨ c = 107 ∨ c = 110 ∨ c = 109 := by rw [hfl]; exact (shape_all s.kind).2
    have hsl : fl.length ≤ 4 := by rw [hfl]; exact shape_len s.kind
    have HLET := Lib.hid hLET
    obtain ⟨fs, hfs⟩ : ∃ b, b = (⟨fl.toArray⟩ : ByteArray) := ⟨_, rfl⟩
    have hfz : fs.size = fl.length := by rw [hfs]; simp [ByteArray.size]
    have HF2 : Hid (∀ (i : Nat) (h : i < fl.length) (h2 : i < fs.size), fs[i]'h2 = fl[i]'h) := by subst hfs; exact fun i h h2 => rfl
    rw [← hfs] at HW3
    clear hfs hLET hw0 hfl
    go_wp2_with (fail)
    with_reducible refine HW2.out.mono ?_
    rintro e w' ⟨rfl, rfl⟩
    have k0 : ((w.alloc (.cells #[.int .i64 s.kind, .int .i64 s.a, .int .i64 s.b, .string ⟨s.name.toArray⟩, .int .i64 s.k, .int .i64 s.n] 35)).alloc (.cells #[.int .i64 s.kind, .int .i64 0, .int .i64 0, .string ⟨#[]⟩, .int .i64 0, .int .i64 0] 35)).cell? ⟨w.heap.size, 0, none⟩ = some (.int .i64 s.kind) := (cell_of_row _ _ 0 _ _ _ HR0.out).trans rfl
    go_wp2_with (fail)
    with_reducible refine HW3.out.mono ?_
    rintro e w' ⟨rfl, rfl⟩
    clear HW1 HW2 HW3
    obtain ⟨sb, hsb⟩ : ∃ b, b = w.heap.size := ⟨_, rfl⟩
    obtain ⟨wb, hwb⟩ : ∃ b, b = w.heap.size + 1 := ⟨_, rfl⟩
    rw [← hwb] at HS0
    rw [← hsb] at HR0
    have HSB := Lib.hid hsb
    have HWB := Lib.hid hwb
    rw [← hwb, ← hsb]
    clear hsb hwb
    go_wp2_with (fail)
    go_loopw [3, 6] (fun ov iv wr => ∃ (i : Nat) (ob : ByteArray), i ≤ fl.length ∧ iv = .int .i64 (i : Int) ∧ ov = .string ob ∧ Hid (ob.data.toList = outI s (fl.take i)) ∧ ob.size ≤ 10 + i * 50000000 ∧ Hid (Below w.heap.size w wr) ∧ Hid (wr.heap[sb]? = some (.cells (stepC s) 35 (0, 0))) ∧ Hid (wr.heap[wb]? = some (.cells (stepC (wantI s (fl.take i))) 35 (0, 0))) ∧ Hid (∀ c ∈ fl.take i, c = 109 → 0 ≤ s.n)) (fun _ iv _ => fl.length - (intOf iv).toNat)
    case atStart => exact ⟨0, ⟨wd.toArray⟩, Nat.zero_le _, rfl, rfl, by show _ = _; rw [List.take_zero, outI_nil]; exact HWD.out, by show wd.length ≤ _; omega, HB0.out, HR0.out, by show _ = _; rw [List.take_zero, wantI_nil]; exact HS0.out, fun c h => by simp at h⟩
    case round =>
      clear HB0 HR0 HS0 HB1 HR1
      obtain ⟨i, ob, hi, rfl, rfl, HO, hob, HB, HR, HS, HM⟩ := hrel
      by_cases hlt : i < fl.length
      · have hif : i < fs.size := by omega
        obtain ⟨c, hc⟩ : ∃ c, fs[i] = c := ⟨_, rfl⟩
        have hfc : fl[i]'hlt = c := by rw [← HF2.out i hlt hif]; exact hc
        have hlet := HLET.out c (by rw [← hfc]; exact List.getElem_mem _)
        have HMEM : Hid (c ∈ fl) := by show _ ∈ _; rw [← hfc]; exact List.getElem_mem _
        have HTK : Hid (fl.take (i + 1) = fl.take i ++ [c]) := by show _ = _; rw [List.take_succ_eq_append_getElem hlt, hfc]
        clear hfc
        rcases hlet with h | h | h | h | h | h
        · subst h
          have hcs : wr.cell? ⟨wb, 1, none⟩ = some (.int .i64 (wantI s (fl.take i)).a) := (cell_of_row _ _ 1 _ _ _ HS.out).trans rfl
          have hfz : wr.frozen? ⟨wb, 1, none⟩ = false := frozen_of_row _ _ _ _ _ HS.out
          have cf : wr.cell? ⟨sb, 1, none⟩ = some (.int .i64 s.a) := (cell_of_row _ _ 1 _ _ _ HR.out).trans rfl
          have hsbw : Hid (sb ≠ wb) := by show _ ≠ _; rw [HSB.out, HWB.out]; omega
          have HB2 : Hid (Below w.heap.size w (wr.setCell ⟨wb, 1, none⟩ (.int .i64 s.a))) := setCells_below (by rw [HWB.out]; omega) [.int .i64 s.a] 1 _ _ HB.out
          have hR2 : (wr.setCell ⟨wb, 1, none⟩ (.int .i64 s.a)).heap[sb]? = some (.cells (stepC s) 35 (0, 0)) := (set_other _ _ _ _ _ hsbw.out).trans HR.out
          have HR2 := Lib.hid hR2
          have HS2 : Hid ((wr.setCell ⟨wb, 1, none⟩ (.int .i64 s.a)).heap[wb]? = some (.cells (stepC { wantI s (fl.take i) with a := s.a }) 35 (0, 0))) := set_block wr wb 1 _ _ (.int .i64 s.a) HS.out
          have cf2 : (wr.setCell ⟨wb, 1, none⟩ (.int .i64 s.a)).cell? ⟨sb, 1, none⟩ = some (.int .i64 s.a) := (cell_of_row _ _ 1 _ _ _ hR2).trans rfl
          have HNB := Lib.hid (rnumt_any s.a h64.a (wr.setCell ⟨wb, 1, none⟩ (.int .i64 s.a)) (HT.out.below HB2.out))
          have hfl0 := fieldV_len h64 97
          rw [fieldV_97] at hfl0
          replace hfl0 := Nat.le_trans hfl0 (show 4 * s.name.length + 21 ≤ 40000021 by omega)
          clear hR2
          go_wp2_with (fail)
          with_reducible refine HNB.out.mono ?_
          rintro e w3 ⟨rfl, hB3⟩
          have HB3 := Lib.hid (HB2.out.trans (hB3.mono HB2.out.size))
          have hR3 := stays HR2.out hB3
          have HR3 := Lib.hid hR3
          have HS3 := Lib.hid (stays HS2.out hB3)
          clear HNB hB3 hR3
          go_wp2_with (fail)
          go_roundw
          case rel =>
            refine ⟨i + 1, _, by omega, by go_num, rfl, ?_, ?_, HB3, HR3, ?_, ?_⟩
            · show _ = _
              rw [HTK.out, outI_add, fieldV_97, ← HO.out]
              simp [ByteArray.data_append]
            · rw [ByteArray.size_append, ByteArray.size_append]
              simp only [ByteArray.size, List.size_toArray, List.length_cons, List.length_nil] at hob ⊢
              omega
            · rw [HTK.out, wantI_97]; exact HS3
            · exact Lib.hid (by
                intro d hd
                rw [HTK.out, List.mem_append] at hd
                rcases hd with hd | hd
                · exact HM.out d hd
                · rw [List.mem_singleton] at hd; subst hd; intro e; exact absurd e (by decide))
          case measure => simp [intOf] <;> omega
        · subst h
          have hcs : wr.cell? ⟨wb, 2, none⟩ = some (.int .i64 (wantI s (fl.take i)).b) := (cell_of_row _ _ 2 _ _ _ HS.out).trans rfl
          have hfz : wr.frozen? ⟨wb, 2, none⟩ = false := frozen_of_row _ _ _ _ _ HS.out
          have cf : wr.cell? ⟨sb, 2, none⟩ = some (.int .i64 s.b) := (cell_of_row _ _ 2 _ _ _ HR.out).trans rfl
          have hsbw : Hid (sb ≠ wb) := by show _ ≠ _; rw [HSB.out, HWB.out]; omega
          have HB2 : Hid (Below w.heap.size w (wr.setCell ⟨wb, 2, none⟩ (.int .i64 s.b))) := setCells_below (by rw [HWB.out]; omega) [.int .i64 s.b] 2 _ _ HB.out
          have hR2 : (wr.setCell ⟨wb, 2, none⟩ (.int .i64 s.b)).heap[sb]? = some (.cells (stepC s) 35 (0, 0)) := (set_other _ _ _ _ _ hsbw.out).trans HR.out
          have HR2 := Lib.hid hR2
          have HS2 : Hid ((wr.setCell ⟨wb, 2, none⟩ (.int .i64 s.b)).heap[wb]? = some (.cells (stepC { wantI s (fl.take i) with b := s.b }) 35 (0, 0))) := set_block wr wb 2 _ _ (.int .i64 s.b) HS.out
          have cf2 : (wr.setCell ⟨wb, 2, none⟩ (.int .i64 s.b)).cell? ⟨sb, 2, none⟩ = some (.int .i64 s.b) := (cell_of_row _ _ 2 _ _ _ hR2).trans rfl
          have HNB := Lib.hid (rnumt_any s.b h64.b (wr.setCell ⟨wb, 2, none⟩ (.int .i64 s.b)) (HT.out.below HB2.out))
          have hfl0 := fieldV_len h64 98
          rw [fieldV_98] at hfl0
          replace hfl0 := Nat.le_trans hfl0 (show 4 * s.name.length + 21 ≤ 40000021 by omega)
          clear hR2
          go_wp2_with (fail)
          with_reducible refine HNB.out.mono ?_
          rintro e w3 ⟨rfl, hB3⟩
          have HB3 := Lib.hid (HB2.out.trans (hB3.mono HB2.out.size))
          have hR3 := stays HR2.out hB3
          have HR3 := Lib.hid hR3
          have HS3 := Lib.hid (stays HS2.out hB3)
          clear HNB hB3 hR3
          go_wp2_with (fail)
          go_roundw
          case rel =>
            refine ⟨i + 1, _, by omega, by go_num, rfl, ?_, ?_, HB3, HR3, ?_, ?_⟩
            · show _ = _
              rw [HTK.out, outI_add, fieldV_98, ← HO.out]
              simp [ByteArray.data_append]
            · rw [ByteArray.size_append, ByteArray.size_append]
              simp only [ByteArray.size, List.size_toArray, List.length_cons, List.length_nil] at hob ⊢
              omega
            · rw [HTK.out, wantI_98]; exact HS3
            · exact Lib.hid (by
                intro d hd
                rw [HTK.out, List.mem_append] at hd
                rcases hd with hd | hd
                · exact HM.out d hd
                · rw [List.mem_singleton] at hd; subst hd; intro e; exact absurd e (by decide))
          case measure => simp [intOf] <;> omega
        · subst h
          have hcs : wr.cell? ⟨wb, 3, none⟩ = some (.string ⟨(wantI s (fl.take i)).name.toArray⟩) := (cell_of_row _ _ 3 _ _ _ HS.out).trans rfl
          have hfz : wr.frozen? ⟨wb, 3, none⟩ = false := frozen_of_row _ _ _ _ _ HS.out
          have cf : wr.cell? ⟨sb, 3, none⟩ = some (.string ⟨s.name.toArray⟩) := (cell_of_row _ _ 3 _ _ _ HR.out).trans rfl
          have hsbw : Hid (sb ≠ wb) := by show _ ≠ _; rw [HSB.out, HWB.out]; omega
          have HB2 : Hid (Below w.heap.size w (wr.setCell ⟨wb, 3, none⟩ (.string ⟨s.name.toArray⟩))) := setCells_below (by rw [HWB.out]; omega) [.string ⟨s.name.toArray⟩] 3 _ _ HB.out
          have hR2 : (wr.setCell ⟨wb, 3, none⟩ (.string ⟨s.name.toArray⟩)).heap[sb]? = some (.cells (stepC s) 35 (0, 0)) := (set_other _ _ _ _ _ hsbw.out).trans HR.out
          have HR2 := Lib.hid hR2
          have HS2 : Hid ((wr.setCell ⟨wb, 3, none⟩ (.string ⟨s.name.toArray⟩)).heap[wb]? = some (.cells (stepC { wantI s (fl.take i) with name := s.name }) 35 (0, 0))) := set_block wr wb 3 _ _ (.string ⟨s.name.toArray⟩) HS.out
          have cf2 : (wr.setCell ⟨wb, 3, none⟩ (.string ⟨s.name.toArray⟩)).cell? ⟨sb, 3, none⟩ = some (.string ⟨s.name.toArray⟩) := (cell_of_row _ _ 3 _ _ _ hR2).trans rfl
          have HNB := Lib.hid (rquote_any ⟨s.name.toArray⟩ (wr.setCell ⟨wb, 3, none⟩ (.string ⟨s.name.toArray⟩)) (by show s.name.length ≤ _; omega))
          have hfl0 := fieldV_len h64 115
          rw [fieldV_115] at hfl0
          replace hfl0 := Nat.le_trans hfl0 (show 4 * s.name.length + 21 ≤ 40000021 by omega)
          clear hR2
          go_wp2_with (fail)
          with_reducible refine HNB.out.mono ?_
          rintro e w3 ⟨rfl, hB3⟩
          have HB3 := Lib.hid (HB2.out.trans (hB3.mono HB2.out.size))
          have hR3 := stays HR2.out hB3
          have HR3 := Lib.hid hR3
          have HS3 := Lib.hid (stays HS2.out hB3)
          clear HNB hB3 hR3
          go_wp2_with (fail)
          go_roundw
          case rel =>
            refine ⟨i + 1, _, by omega, by go_num, rfl, ?_, ?_, HB3, HR3, ?_, ?_⟩
            · show _ = _
              rw [HTK.out, outI_add, fieldV_115, ← HO.out]
              simp [ByteArray.data_append]
            · rw [ByteArray.size_append, ByteArray.size_append]
              simp only [ByteArray.size, List.size_toArray, List.length_cons, List.length_nil] at hob ⊢
              omega
            · rw [HTK.out, wantI_115]; exact HS3
            · exact Lib.hid (by
                intro d hd
                rw [HTK.out, List.mem_append] at hd
                rcases hd with hd | hd
                · exact HM.out d hd
                · rw [List.mem_singleton] at hd; subst hd; intro e; exact absurd e (by decide))
          case measure => simp [intOf] <;> omega
        · subst h
          have hcs : wr.cell? ⟨wb, 4, none⟩ = some (.int .i64 (wantI s (fl.take i)).k) := (cell_of_row _ _ 4 _ _ _ HS.out).trans rfl
          have hfz : wr.frozen? ⟨wb, 4, none⟩ = false := frozen_of_row _ _ _ _ _ HS.out
          have cf : wr.cell? ⟨sb, 4, none⟩ = some (.int .i64 s.k) := (cell_of_row _ _ 4 _ _ _ HR.out).trans rfl
          have hsbw : Hid (sb ≠ wb) := by show _ ≠ _; rw [HSB.out, HWB.out]; omega
          have HB2 : Hid (Below w.heap.size w (wr.setCell ⟨wb, 4, none⟩ (.int .i64 s.k))) := setCells_below (by rw [HWB.out]; omega) [.int .i64 s.k] 4 _ _ HB.out
          have hR2 : (wr.setCell ⟨wb, 4, none⟩ (.int .i64 s.k)).heap[sb]? = some (.cells (stepC s) 35 (0, 0)) := (set_other _ _ _ _ _ hsbw.out).trans HR.out
          have HR2 := Lib.hid hR2
          have HS2 : Hid ((wr.setCell ⟨wb, 4, none⟩ (.int .i64 s.k)).heap[wb]? = some (.cells (stepC { wantI s (fl.take i) with k := s.k }) 35 (0, 0))) := set_block wr wb 4 _ _ (.int .i64 s.k) HS.out
          have cf2 : (wr.setCell ⟨wb, 4, none⟩ (.int .i64 s.k)).cell? ⟨sb, 4, none⟩ = some (.int .i64 s.k) := (cell_of_row _ _ 4 _ _ _ hR2).trans rfl
          have HNB := Lib.hid (rnumt_any s.k h64.k (wr.setCell ⟨wb, 4, none⟩ (.int .i64 s.k)) (HT.out.below HB2.out))
          have hfl0 := fieldV_len h64 107
          rw [fieldV_107] at hfl0
          replace hfl0 := Nat.le_trans hfl0 (show 4 * s.name.length + 21 ≤ 40000021 by omega)
          clear hR2
          go_wp2_with (fail)
          with_reducible refine HNB.out.mono ?_
          rintro e w3 ⟨rfl, hB3⟩
          have HB3 := Lib.hid (HB2.out.trans (hB3.mono HB2.out.size))
          have hR3 := stays HR2.out hB3
          have HR3 := Lib.hid hR3
          have HS3 := Lib.hid (stays HS2.out hB3)
          clear HNB hB3 hR3
          go_wp2_with (fail)
          go_roundw
          case rel =>
            refine ⟨i + 1, _, by omega, by go_num, rfl, ?_, ?_, HB3, HR3, ?_, ?_⟩
            · show _ = _
              rw [HTK.out, outI_add, fieldV_107, ← HO.out]
              simp [ByteArray.data_append]
            · rw [ByteArray.size_append, ByteArray.size_append]
              simp only [ByteArray.size, List.size_toArray, List.length_cons, List.length_nil] at hob ⊢
              omega
            · rw [HTK.out, wantI_107]; exact HS3
            · exact Lib.hid (by
                intro d hd
                rw [HTK.out, List.mem_append] at hd
                rcases hd with hd | hd
                · exact HM.out d hd
                · rw [List.mem_singleton] at hd; subst hd; intro e; exact absurd e (by decide))
          case measure => simp [intOf] <;> omega
        · subst h
          have hcs : wr.cell? ⟨wb, 5, none⟩ = some (.int .i64 (wantI s (fl.take i)).n) := (cell_of_row _ _ 5 _ _ _ HS.out).trans rfl
          have hfz : wr.frozen? ⟨wb, 5, none⟩ = false := frozen_of_row _ _ _ _ _ HS.out
          have cf : wr.cell? ⟨sb, 5, none⟩ = some (.int .i64 s.n) := (cell_of_row _ _ 5 _ _ _ HR.out).trans rfl
          have hsbw : Hid (sb ≠ wb) := by show _ ≠ _; rw [HSB.out, HWB.out]; omega
          have HB2 : Hid (Below w.heap.size w (wr.setCell ⟨wb, 5, none⟩ (.int .i64 s.n))) := setCells_below (by rw [HWB.out]; omega) [.int .i64 s.n] 5 _ _ HB.out
          have hR2 : (wr.setCell ⟨wb, 5, none⟩ (.int .i64 s.n)).heap[sb]? = some (.cells (stepC s) 35 (0, 0)) := (set_other _ _ _ _ _ hsbw.out).trans HR.out
          have HR2 := Lib.hid hR2
          have HS2 : Hid ((wr.setCell ⟨wb, 5, none⟩ (.int .i64 s.n)).heap[wb]? = some (.cells (stepC { wantI s (fl.take i) with n := s.n }) 35 (0, 0))) := set_block wr wb 5 _ _ (.int .i64 s.n) HS.out
          have cf2 : (wr.setCell ⟨wb, 5, none⟩ (.int .i64 s.n)).cell? ⟨sb, 5, none⟩ = some (.int .i64 s.n) := (cell_of_row _ _ 5 _ _ _ hR2).trans rfl
          have HNB := Lib.hid (rnumt_any s.n h64.n (wr.setCell ⟨wb, 5, none⟩ (.int .i64 s.n)) (HT.out.below HB2.out))
          have hfl0 := fieldV_len h64 110
          rw [fieldV_110] at hfl0
          replace hfl0 := Nat.le_trans hfl0 (show 4 * s.name.length + 21 ≤ 40000021 by omega)
          clear hR2
          go_wp2_with (fail)
          with_reducible refine HNB.out.mono ?_
          rintro e w3 ⟨rfl, hB3⟩
          have HB3 := Lib.hid (HB2.out.trans (hB3.mono HB2.out.size))
          have hR3 := stays HR2.out hB3
          have HR3 := Lib.hid hR3
          have HS3 := Lib.hid (stays HS2.out hB3)
          clear HNB hB3 hR3
          go_wp2_with (fail)
          go_roundw
          case rel =>
            refine ⟨i + 1, _, by omega, by go_num, rfl, ?_, ?_, HB3, HR3, ?_, ?_⟩
            · show _ = _
              rw [HTK.out, outI_add, fieldV_110, ← HO.out]
              simp [ByteArray.data_append]
            · rw [ByteArray.size_append, ByteArray.size_append]
              simp only [ByteArray.size, List.size_toArray, List.length_cons, List.length_nil] at hob ⊢
              omega
            · rw [HTK.out, wantI_110]; exact HS3
            · exact Lib.hid (by
                intro d hd
                rw [HTK.out, List.mem_append] at hd
                rcases hd with hd | hd
                · exact HM.out d hd
                · rw [List.mem_singleton] at hd; subst hd; intro e; exact absurd e (by decide))
          case measure => simp [intOf] <;> omega
        · subst h
          have hcs : wr.cell? ⟨wb, 5, none⟩ = some (.int .i64 (wantI s (fl.take i)).n) := (cell_of_row _ _ 5 _ _ _ HS.out).trans rfl
          have hfz : wr.frozen? ⟨wb, 5, none⟩ = false := frozen_of_row _ _ _ _ _ HS.out
          have cf : wr.cell? ⟨sb, 5, none⟩ = some (.int .i64 s.n) := (cell_of_row _ _ 5 _ _ _ HR.out).trans rfl
          have hsbw : Hid (sb ≠ wb) := by show _ ≠ _; rw [HSB.out, HWB.out]; omega
          have HB2 : Hid (Below w.heap.size w (wr.setCell ⟨wb, 5, none⟩ (.int .i64 s.n))) := setCells_below (by rw [HWB.out]; omega) [.int .i64 s.n] 5 _ _ HB.out
          have hR2 : (wr.setCell ⟨wb, 5, none⟩ (.int .i64 s.n)).heap[sb]? = some (.cells (stepC s) 35 (0, 0)) := (set_other _ _ _ _ _ hsbw.out).trans HR.out
          have HR2 := Lib.hid hR2
          have HS2 : Hid ((wr.setCell ⟨wb, 5, none⟩ (.int .i64 s.n)).heap[wb]? = some (.cells (stepC { wantI s (fl.take i) with n := s.n }) 35 (0, 0))) := set_block wr wb 5 _ _ (.int .i64 s.n) HS.out
          have cf2 : (wr.setCell ⟨wb, 5, none⟩ (.int .i64 s.n)).cell? ⟨sb, 5, none⟩ = some (.int .i64 s.n) := (cell_of_row _ _ 5 _ _ _ hR2).trans rfl
          have HNB := Lib.hid (rnumt_any s.n h64.n (wr.setCell ⟨wb, 5, none⟩ (.int .i64 s.n)) (HT.out.below HB2.out))
          have hfl0 := fieldV_len h64 109
          rw [fieldV_109] at hfl0
          replace hfl0 := Nat.le_trans hfl0 (show 4 * s.name.length + 21 ≤ 40000021 by omega)
          clear hR2
          go_wp2_with (fail)
          with_reducible refine HNB.out.mono ?_
          rintro e w3 ⟨rfl, hB3⟩
          have HB3 := Lib.hid (HB2.out.trans (hB3.mono HB2.out.size))
          have hR3 := stays HR2.out hB3
          have HR3 := Lib.hid hR3
          have HS3 := Lib.hid (stays HS2.out hB3)
          have c5 : w3.cell? ⟨sb, 5, none⟩ = some (.int .i64 s.n) := (cell_of_row _ _ 5 _ _ _ hR3).trans rfl
          clear HNB hB3 hR3
          by_cases hneg : s.n < 0
          · have HE : Hid (lineF s = []) := line_neg (by rw [← HFD.out]; exact HMEM.out) hneg
            go_wp2_with (fail)
            go_ret
            exact ⟨by rw [HE.out]; rfl, HB3.out⟩
          · go_wp2_with (fail)
            go_roundw
            case rel =>
              refine ⟨i + 1, _, by omega, by go_num, rfl, ?_, ?_, HB3, HR3, ?_, ?_⟩
              · show _ = _
                rw [HTK.out, outI_add, fieldV_109, ← HO.out]
                simp [ByteArray.data_append]
              · rw [ByteArray.size_append, ByteArray.size_append]
                simp only [ByteArray.size, List.size_toArray, List.length_cons, List.length_nil] at hob ⊢
                omega
              · rw [HTK.out, wantI_109]; exact HS3
              · exact Lib.hid (by
                  intro d hd
                  rw [HTK.out, List.mem_append] at hd
                  rcases hd with hd | hd
                  · exact HM.out d hd
                  · rw [List.mem_singleton] at hd; subst hd; intro e; exact hneg)
            case measure => simp [intOf] <;> omega
      · obtain rfl : i = fl.length := by omega
        rw [List.take_length] at HO HS HM
        obtain ⟨bs, hbs⟩ : ∃ b, b = sameS (wantI s fl) s := ⟨_, rfl⟩
        have HNE : Hid (∀ W, (binOp .neq 35 (.agg (stepC (wantI s fl))) (.agg (stepC s))).run Tryd.prog W = .ok (.bool (!bs)) W) := by show ∀ W, _; intro W; rw [hbs]; exact ne_S _ _ W
        have HBS := Lib.hid hbs
        clear hbs
        go_upto_region 26 with (fail)
        refine wp_region_lit ?_
        refine wpList_run (w' := wr) rfl (exec_load_row 35 _ rfl wb _ _ (.struct (Tryd.prog.fieldsOf 35)) rfl HS.out (by kernel_rfl) rfl (by kernel_rfl)) ?_
        refine wpList_run (w' := wr) rfl (exec_load_row 35 _ rfl sb _ _ (.struct (Tryd.prog.fieldsOf 35)) rfl HR.out (by kernel_rfl) rfl (by kernel_rfl)) ?_
        refine wpList_run (w' := wr) rfl (exec_neq_agg 35 _ _ _ rfl _ _ _ rfl rfl (by kernel_rfl) (HNE.out _)) ?_
        refine wpList_nil ?_
        go_simp
        cases bs with
        | true =>
          have HE : Hid (lineF s = outI s fl) := by show _ = _; rw [HFD.out]; exact line_ok (by rw [← HWD.out]; exact HW0.out) (by rw [← HFD.out]; exact HM.out) (by rw [← HFD.out]; exact HBS.out.symm)
          go_wp2_with (fail)
          go_ret
          obtain rfl : ob = ⟨(outI s fl).toArray⟩ := by rw [← HO.out]
          exact ⟨by rw [HE.out]; rfl, HB.out⟩
        | false =>
          have HE : Hid (lineF s = []) := line_ne (by rw [← HFD.out]; exact HBS.out.symm)
          go_wp2_with (fail)
          go_ret
          exact ⟨by rw [HE.out]; rfl, HB.out⟩

end Go.Proofs.YtaeoghagpeihkaaDoor

namespace Go.Proofs.YtaeoghagpeihkaaDoor
open Go.RowKit

theorem info_bld : (Tryd.prog.info? 69).map (fun i => i.size) = some 2 := by kernel_rfl
theorem info_u8b : (Tryd.prog.info? 5).map (fun i => (i.zero, i.size, i.bytes)) = some (some (.int .u8 0), 1, 1) := by kernel_rfl
theorem neB_u8 : 69 ≠ 5 := by decide

set_option maxRecDepth 100000 in
set_option maxHeartbeats 1000000 in
theorem bld_used (b : Nat) (w : World) (h0 : w.cell? ⟨b, 0, none⟩ = some (.pointer (some ⟨b, 0, none⟩))) :
    Calls Tryd.prog 47 #[.pointer (some ⟨b, 0, none⟩)] w fun e w' => e = .returned (.tuple #[]) ∧ w' = w := by
  obtain ⟨j, hj, -⟩ := Option.map_eq_some_iff.1 info_bld
  have hn := Lib.run_neq_ptr_same w ⟨b, 0, none⟩ Tryd.underlying67 hj
  go_enter Tryd.func47, Tryd.ntmps47
  go_wp2
  go_end0
  exact ⟨rfl, rfl⟩

set_option maxRecDepth 100000 in
set_option maxHeartbeats 1000000 in
theorem bld_fresh (b : Nat) (w : World) (h0 : w.cell? ⟨b, 0, none⟩ = some (.pointer none)) (hsh : w.shape? b = some (69, 2)) (hfz : w.frozen? ⟨b, 0, none⟩ = false) :
    Calls Tryd.prog 47 #[.pointer (some ⟨b, 0, none⟩)] w fun e w' => e = .returned (.tuple #[]) ∧ w' = w.setCell ⟨b, 0, none⟩ (.pointer (some ⟨b, 0, none⟩)) := by
  obtain ⟨j, hj, hjs⟩ := Option.map_eq_some_iff.1 info_bld
  have h1 := Lib.run_to_unsafe (P := Tryd.prog) w ⟨b, 0, none⟩ Tryd.underlying67 Tryd.underlying104 hj (by rw [hjs]; decide) hsh (Nat.zero_lt_succ 1)
  have h2 := Lib.run_from_unsafe (P := Tryd.prog) w ⟨b, 0, none⟩ Tryd.underlying104 Tryd.underlying67 hj hsh (by kernel_rfl)
  go_enter Tryd.func47, Tryd.ntmps47
  go_wp2
  rw [run_callFunc_extern Tryd.func57 (by kernel_rfl) (by kernel_rfl) (by kernel_rfl) (e := Extern.AbiNoEscape.same) (by kernel_rfl)]
  rw [Lib.run_noEscape]
  simp only [Result.andThen]
  rw [Oper.upon_value]
  go_wp2
  go_end0
  exact ⟨rfl, rfl⟩

/-- a builder of the call's own that holds these bytes -/
def Bld (w : World) (B b : Nat) (l : List UInt8) : Prop := Lib.IsBuilder 69 5 B b (Lib.byteCells l) w
theorem Bld.mono {w : World} {B B' b : Nat} {l : List UInt8} (h : Bld w B b l) (hB : B' ≤ B) : Bld w B' b l := by
  have go : ∀ p, Lib.BuilderAt 69 5 B b p (Lib.byteCells l) w → Lib.BuilderAt 69 5 B' b p (Lib.byteCells l) w := by
    rintro p ⟨h1, v, h2, h3, h4⟩
    refine ⟨Nat.le_trans hB h1, v, h2, ⟨h3.1, ?_⟩, h4⟩
    rcases h3.2 with h | ⟨g, cap, cur, hv, hg, r⟩
    · exact .inl h
    · exact .inr ⟨g, cap, cur, hv, Nat.le_trans hB hg, r⟩
  exact h.elim (fun x => .inl (go _ x)) (fun x => .inr (go _ x))
theorem Bld.below {w w' : World} {B b : Nat} {l : List UInt8} (h : Bld w B b l) (hb : Below w.heap.size w w') : Bld w' B b l := by
  have go : ∀ p, Lib.BuilderAt 69 5 B b p (Lib.byteCells l) w → Lib.BuilderAt 69 5 B b p (Lib.byteCells l) w' := by
    rintro p ⟨h1, v, h2, h3, h4⟩
    refine ⟨h1, v, (hb.block _ (Array.getElem?_eq_some_iff.1 h2).1).trans h2, ⟨h3.1, ?_⟩, h4⟩
    rcases h3.2 with h | ⟨g, cap, cur, hv, hg, hr, r⟩
    · exact .inl h
    · exact .inr ⟨g, cap, cur, hv, hg, (hb.block _ (Array.getElem?_eq_some_iff.1 hr).1).trans hr, r⟩
  exact h.elim (fun x => .inl (go _ x)) (fun x => .inr (go _ x))
theorem Bld.put {w : World} {B b : Nat} {l : List UInt8} (h : Bld w B b l) {k : Nat} {o : Obj} (o' : Obj) (hl : w.heap[k]? = some o) (hc : o.isCells = false) : Bld (w.putObj k o') B b l := by
  have row : ∀ {q : Nat} {cs : Array Value} {t : TypeId} {fr : Nat × Nat}, w.heap[q]? = some (.cells cs t fr) → (w.putObj k o').heap[q]? = some (.cells cs t fr) := by
    intro q cs t fr hq
    have : k ≠ q := by rintro rfl; rw [hl] at hq; cases hq; simp [Obj.isCells] at hc
    rw [World.putObj_heap_other (by omega)]; exact hq
  have go : ∀ p, Lib.BuilderAt 69 5 B b p (Lib.byteCells l) w → Lib.BuilderAt 69 5 B b p (Lib.byteCells l) (w.putObj k o') := by
    rintro p ⟨h1, v, h2, h3, h4⟩
    refine ⟨h1, v, row h2, ⟨h3.1, ?_⟩, h4⟩
    rcases h3.2 with h | ⟨g, cap, cur, hv, hg, hr, r⟩
    · exact .inl h
    · exact .inr ⟨g, cap, cur, hv, hg, row hr, r⟩
  exact h.elim (fun x => .inl (go _ x)) (fun x => .inr (go _ x))
theorem stayB {W W' : World} {k : Nat} {o : Obj} (h : W.heap[k]? = some o) (hb : Below W.heap.size W W') : W'.heap[k]? = some o := (hb.block _ (Array.getElem?_eq_some_iff.1 h).1).trans h
theorem bel_allocB (w : World) (o : Obj) : Below w.heap.size w (w.alloc o) := (Below.refl _ _).alloc (Nat.le_refl _) o
theorem Bld.new (w : World) (B : Nat) (hB : B ≤ w.heap.size) : Bld (w.alloc (.cells #[.pointer none, .slice none 0 0] 69)) B w.heap.size [] :=
  Bld.mono (B := w.heap.size) (Lib.fresh_isBuilder _ _ w) hB
theorem Bld.lt {w : World} {B b : Nat} {l : List UInt8} (h : Bld w B b l) : B ≤ b ∧ b < w.heap.size := by
  rcases h with h | h
  · exact ⟨h.1, h.lt⟩
  · exact ⟨h.1, h.lt⟩

/-- what a write leaves: every block but the builder's own that is no row of bytes -/
def FrameB (b : Nat) (w w' : World) : Prop := ∀ (j : Nat) (o : Obj), w.heap[j]? = some o → j ≠ b → (∀ cs fr, o ≠ .cells cs 5 fr) → w'.heap[j]? = some o
theorem FrameB.refl (b : Nat) (w : World) : FrameB b w w := fun _ _ h _ _ => h
theorem FrameB.trans {b : Nat} {w w1 w2 : World} (h : FrameB b w w1) (k : FrameB b w1 w2) : FrameB b w w2 := fun j o hj hn ho => k j o (h j o hj hn ho) hn ho
theorem FrameB.set {b : Nat} {w w1 : World} (h : FrameB b w w1) (i : Nat) (v : Value) : FrameB b w (w1.setCell ⟨b, i, none⟩ v) := fun j o hj hn ho => by
  rw [Below.heap_setCell _ _ _ _ (show j ≠ b from hn)]; exact h j o hj hn ho
theorem FrameB.below {b : Nat} {w w1 w2 : World} (h : FrameB b w w1) (k : Below w1.heap.size w1 w2) : FrameB b w w2 := fun j o hj hn ho => stayB (h j o hj hn ho) k
theorem FrameB.grown {b B : Nat} {w w1 w2 : World} {v : Value} {n : Nat} {xs : List Value} (h : FrameB b w w1) (hown : w1.ownsRow B 5 1 v n xs) (hg : w1.grownBy w2 v.ownBlock) : FrameB b w w2 := fun j o hj hn ho => by
  have h1 := h j o hj hn ho
  refine (hg.block j (Array.getElem?_eq_some_iff.1 h1).1 (fun e => ?_)).trans h1
  rcases hown.2 with ⟨rfl, -⟩ | ⟨g, cap, cur, rfl, -, hr, -⟩
  · simp [Value.ownBlock] at e
  · simp only [Value.ownBlock, Option.some.injEq] at e
    subst e
    rw [hr] at h1
    exact ho _ _ (Option.some.inj h1).symm
theorem Bld.row {w : World} {B b : Nat} {l : List UInt8} (h : Bld w B b l) : ∃ cs, w.heap[b]? = some (.cells cs 69 (0, 0)) := by
  rcases h with ⟨-, v, h, -⟩ | ⟨-, v, h, -⟩
  · exact ⟨_, h⟩
  · exact ⟨_, h⟩

theorem bld_check (B b : Nat) (l : List UInt8) (w : World) (h : Bld w B b l) :
    Calls Tryd.prog 47 #[.pointer (some ⟨b, 0, none⟩)] w fun e w' => e = .returned (.tuple #[]) ∧ Lib.BuilderAt 69 5 B b (.pointer (some ⟨b, 0, none⟩)) (Lib.byteCells l) w' ∧ Below B w w' ∧ w'.heap.size = w.heap.size ∧ FrameB b w w' := by
  rcases h with h | h
  · refine (bld_fresh b w h.cell0 h.shape h.frozen0).mono ?_
    rintro e w' ⟨rfl, rfl⟩
    exact ⟨rfl, h.used _, (Below.refl B w).setCell (p := ⟨b, 0, none⟩) h.1 _, by simp [World.setCell], (FrameB.refl b w).set 0 _⟩
  · refine (bld_used b w h.cell0).mono ?_
    rintro e w' ⟨rfl, rfl⟩
    exact ⟨rfl, h, Below.refl B _, rfl, FrameB.refl _ _⟩

set_option maxRecDepth 100000 in
set_option maxHeartbeats 1000000 in
theorem bld_byte (B b : Nat) (l : List UInt8) (c : UInt8) (w : World) (h : Bld w B b l) (hlen : l.length + 1 ≤ 140737488355328) (hBw : B ≤ w.heap.size) :
    Calls Tryd.prog 30 #[.pointer (some ⟨b, 0, none⟩), .int .u8 (c.toNat : Int)] w fun e w' => e = .returned .nilIface ∧ Bld w' B b (l ++ [c]) ∧ Below B w w' ∧ FrameB b w w' := by
  obtain ⟨i0, hi, hz0, hz1, hz2⟩ := info_parts info_u8b
  have hk := Lib.hid (bld_check B b l w h)
  have HL : Hid ((Lib.byteCells l).length = l.length) := by show _ = _; simp [Lib.byteCells]
  go_enter Tryd.func30, Tryd.ntmps30
  go_wp2_with (fail)
  refine hk.out.mono ?_
  rintro e w1 ⟨rfl, h1, hb1, hs, hf⟩
  have HFR := Lib.hid hf
  clear hf
  have HS := Lib.hid hs
  clear hs
  obtain ⟨hB, v, hbk, hown, hne⟩ := h1
  have c0 : w1.cell? ⟨b, 0, none⟩ = some (.pointer (some ⟨b, 0, none⟩)) := by rw [Lib.cell_of_heap hbk]; rfl
  have c1 : w1.cell? ⟨b, 1, none⟩ = some v := by rw [Lib.cell_of_heap hbk]; rfl
  go_wp2_with (at_builtin; refine wpList_append_own _ rfl _ _ 39 rfl B 5 i0 (.int .u8 0) 1 1 Tryd.underlying39 hi hz0 hz1 hz2 rfl (by decide) _ _ _ rfl (hown.alloc _) ⟨w1.heap.size, 0, none⟩ 1 1 [.int .u8 (c.toNat : Int)] rfl rfl ?c1 ?c2 ?c3 ?c4 ?c5 ?_)
  case c1 =>
    intro j u hj
    match j, hj with
    | 0, hj => simp at hj; subst hj; simp [Addr.add]
  case c2 => intro u hu; simp at hu; subst hu; rfl
  case c3 => have := HL.out; unfold maxLen; omega
  case c4 => have := HL.out; omega
  case c5 => have := HS.out; simp; omega
  intro v' w2 hown' hgrow _
  have hlt : b < w1.heap.size := (Array.getElem?_eq_some_iff.1 hbk).1
  have hb2 : w2.heap[b]? = some (.cells #[.pointer (some ⟨b, 0, none⟩), v] 69 (0, 0)) := by
    rw [hgrow.block b (by simp; omega) (fun e => hne e.symm), Lib.alloc_old w1 _ b hlt]
    exact hbk
  have d0 : w2.cell? ⟨b, 0, none⟩ = some (.pointer (some ⟨b, 0, none⟩)) := by rw [Lib.cell_of_heap hb2]; rfl
  have d1 : w2.cell? ⟨b, 1, none⟩ = some v := by rw [Lib.cell_of_heap hb2]; rfl
  have f1 : w2.frozen? ⟨b, 1, none⟩ = false := Lib.frozen_of_heap hb2 1
  obtain ⟨g, cap, rfl⟩ : ∃ g cap, v' = .slice (some ⟨g, 0, none⟩) ((Lib.byteCells l).length + 1) cap := by
    rcases hown'.2 with ⟨_, h0⟩ | ⟨g, cap, cur, hv, _⟩
    · omega
    · exact ⟨g, cap, hv⟩
  go_wp2
  go_ret
  refine ⟨rfl, .inr ?_, ?_, ((HFR.out.below (bel_allocB _ _)).grown (hown.alloc _) hgrow).set 1 _⟩
  · have := Lib.BuilderAt.put (T := 69) (e := 5) hB hb2 (bs' := Lib.byteCells l ++ [.int .u8 (c.toNat : Int)]) (by simpa using hown') neB_u8
    simpa [Lib.byteCells] using this
  · have := HS.out
    exact ((hb1.alloc (by omega) _).grown hgrow (by simp; omega) (fun k hk => (hown.lt k hk).1)).setCell (p := ⟨b, 1, none⟩) hB _

set_option maxRecDepth 100000 in
set_option maxHeartbeats 1000000 in
theorem bld_string (B b : Nat) (l s : List UInt8) (w : World) (h : Bld w B b l) (hlen : l.length + s.length ≤ 140737488355328) (hBw : B ≤ w.heap.size) :
    Calls Tryd.prog 29 #[.pointer (some ⟨b, 0, none⟩), .string ⟨s.toArray⟩] w fun e w' => e = .returned (.tuple #[.int .i64 (s.length : Int), .nilIface]) ∧ Bld w' B b (l ++ s) ∧ Below B w w' ∧ FrameB b w w' := by
  obtain ⟨i0, hi, hz0, hz1, hz2⟩ := info_parts info_u8b
  have hk := Lib.hid (bld_check B b l w h)
  have HL : Hid ((Lib.byteCells l).length = l.length) := by show _ = _; simp [Lib.byteCells]
  have HZ : Hid ((⟨s.toArray⟩ : ByteArray).size = s.length) := by show _ = _; simp [ByteArray.size]
  go_enter Tryd.func29, Tryd.ntmps29
  go_wp2_with (fail)
  refine hk.out.mono ?_
  rintro e w1 ⟨rfl, h1, hb1, hs, hf⟩
  have HFR := Lib.hid hf
  clear hf
  have HS := Lib.hid hs
  clear hs
  obtain ⟨hB, v, hbk, hown, hne⟩ := h1
  have c0 : w1.cell? ⟨b, 0, none⟩ = some (.pointer (some ⟨b, 0, none⟩)) := by rw [Lib.cell_of_heap hbk]; rfl
  have c1 : w1.cell? ⟨b, 1, none⟩ = some v := by rw [Lib.cell_of_heap hbk]; rfl
  go_wp2_with (at_builtin; refine Lib.wpList_append_own_string _ rfl _ _ 39 9 rfl B 5 i0 Tryd.underlying39 Tryd.underlying9 hi hz0 hz1 hz2 _ _ _ rfl hown ⟨s.toArray⟩ rfl ?c3 ?c4 ?c5 ?_)
  case c3 => have := HL.out; have := HZ.out; unfold maxLen; omega
  case c4 => have := HL.out; have := HZ.out; omega
  case c5 => have := HS.out; omega
  intro v' w2 hown' hgrow _
  have hlt : b < w1.heap.size := (Array.getElem?_eq_some_iff.1 hbk).1
  have hb2 : w2.heap[b]? = some (.cells #[.pointer (some ⟨b, 0, none⟩), v] 69 (0, 0)) := by
    rw [hgrow.block b hlt (fun e => hne e.symm)]
    exact hbk
  have d0 : w2.cell? ⟨b, 0, none⟩ = some (.pointer (some ⟨b, 0, none⟩)) := by rw [Lib.cell_of_heap hb2]; rfl
  have d1 : w2.cell? ⟨b, 1, none⟩ = some v := by rw [Lib.cell_of_heap hb2]; rfl
  have f1 : w2.frozen? ⟨b, 1, none⟩ = false := Lib.frozen_of_heap hb2 1
  obtain ⟨ao, n', cap, rfl⟩ : ∃ ao n' cap, v' = .slice ao n' cap := by
    rcases hown'.2 with ⟨hv, _⟩ | ⟨g, cap, cur, hv, _⟩
    · exact ⟨_, _, _, hv⟩
    · exact ⟨_, _, _, hv⟩
  go_wp2
  go_ret2
  refine ⟨by rw [← HZ.out]; rfl, .inr ?_, ?_, (HFR.out.grown hown hgrow).set 1 _⟩
  · have := Lib.BuilderAt.put (T := 69) (e := 5) hB hb2 (bs' := Lib.byteCells l ++ Lib.strCells ⟨s.toArray⟩) (by rw [List.length_append, Lib.strCells_length]; exact hown') neB_u8
    simpa [Lib.byteCells, Lib.strCells] using this
  · have := HS.out
    exact (hb1.grown hgrow (by omega) (fun k hk => (hown.lt k hk).1)).setCell (p := ⟨b, 1, none⟩) hB _

theorem bld_text (B b : Nat) (l : List UInt8) (w : World) (h : Bld w B b l) (hBw : B ≤ w.heap.size) :
    Calls Tryd.prog 31 #[.pointer (some ⟨b, 0, none⟩)] w fun e w' => e = .returned (.string ⟨l.toArray⟩) ∧ Below B w w' ∧ FrameB b w w' := by
  refine (Tryd.Builder_String_any_k B b l w (Lib.IsBuilderF.of h) hBw).mono ?_
  rintro e w' ⟨rfl, -, hB, hk⟩
  exact ⟨rfl, hB, fun j o hj hn ho => hk j o hj (fun e => hn (Option.some.inj e)) ho⟩

end Go.Proofs.YtaeoghagpeihkaaDoor

namespace Go.Proofs.YtaeoghagpeihkaaDoor
open Go.RowKit

theorem strCells_bytes (ts : List UInt8) : Lib.strCells ⟨ts.toArray⟩ = ts.map byteV := by
  simp [Lib.strCells]
/-- append(s, text...) : s of the call's own -/
theorem wpList_append_text {w : World} {ops : Array Oper} {rest : List Oper} {o : Oper} {a : Act} {Q : Exit → Act → World → Prop} (hgd : o.guard = none) (s x : Operand)
    (ho : o.op = .call { callee := .builtin .append, args := #[s, x], argTypes := #[39, 9] })
    (base : Nat) (v : Value) (xs : List UInt8) (hs : a.eval s = v) (hown : Own w base v xs) (ts : List UInt8) (hx : a.eval x = .string ⟨ts.toArray⟩)
    (hlen : xs.length + ts.length ≤ 140737488355328) (hbase : base ≤ w.heap.size)
    (h : ∀ v' w', Own w' base v' (xs ++ ts) → w.grownBy w' v.ownBlock → wpList Tryd.prog ops Q rest (a.put o.dst v') w') : wpList Tryd.prog ops Q (o :: rest) a w := by
  obtain ⟨i0, hi, hz0, hz1, hz2⟩ := info_parts info_u8
  have hsz : (⟨ts.toArray⟩ : ByteArray).size = ts.length := rfl
  refine Lib.wpList_append_own_string _ hgd s x _ _ ho base 5 i0 Tryd.underlying39 Tryd.underlying9 hi hz0 hz1 hz2 v xs.length (xs.map byteV) hs hown ⟨ts.toArray⟩ hx (by rw [hsz]; unfold maxLen; omega) (by rw [hsz]; omega) hbase ?_
  intro v' w' ho' hg _
  refine h v' w' ?_ hg
  rw [hsz, strCells_bytes] at ho'
  show World.ownsRow _ _ _ _ _ _ _
  rw [List.length_append, List.map_append]
  exact ho'
def lnF (xs : List Stp) : List UInt8 := xs.flatMap (fun s => lineF s ++ [10])
theorem lnF_len {xs : List Stp} (h : ∀ s ∈ xs, Stp64 s ∧ s.name.length ≤ 1048576) : (lnF xs).length ≤ xs.length * 16800000 := by
  unfold lnF
  induction xs with
  | nil => simp
  | cons s xs ih =>
    have h1 := h s List.mem_cons_self
    have h2 := lineF_len h1.1 h1.2
    have h3 := ih fun x hx => h x (List.mem_cons_of_mem _ hx)
    simp only [List.flatMap_cons, List.length_append, List.length_cons, List.length_nil]
    omega
theorem lnF_take (xs : List Stp) (i : Nat) (h : i < xs.length) : lnF (xs.take (i + 1)) = lnF (xs.take i) ++ (lineF xs[i] ++ [10]) := by
  unfold lnF
  rw [List.take_succ_eq_append_getElem h, List.flatMap_append]
  simp

set_option maxRecDepth 100000 in
set_option maxHeartbeats 4000000 in
theorem rprint_any (v : Value) (xs : List Stp) (w : World) (hv : Sps w w.heap.size v xs) (hx : SmS xs) (ht : TabT w) :
    Calls Tryd.prog 16 #[v] w fun e w' => e = .returned (.string ⟨(printF xs).toArray⟩) ∧ Below w.heap.size w w' := by
  obtain ⟨ao, cp, rfl, -, -⟩ := hv.slice
  have HV := Lib.hid hv
  have HX := Lib.hid hx.2
  have HT := Lib.hid ht
  obtain ⟨R, hR⟩ : ∃ R, R = printF xs := ⟨_, rfl⟩
  rw [← hR]
  have HR := Lib.hid hR
  obtain ⟨n, hn⟩ : ∃ n, n = xs.length := ⟨_, rfl⟩
  have hnm : n ≤ 1048576 := by rw [hn]; exact hx.1
  rw [← hn] at HV ⊢
  have HN := Lib.hid hn
  clear hv hx ht hR hn
  go_enter Tryd.func16, Tryd.ntmps16
  go_wp2_with (fail)
  go_loopw [3, 4] (fun bv iv wr => ∃ (i nb cb : Nat) (ab : Option Addr), i ≤ n ∧ iv = .int .i64 (i : Int) ∧ bv = .slice ab nb cb ∧ nb ≤ 17616076800000 ∧ Hid (nb = (lnF (xs.take i)).length) ∧ Hid (Own wr w.heap.size (.slice ab nb cb) (lnF (xs.take i))) ∧ Hid (∀ j (h : j < xs.length), j < i → fitS xs[j] = true) ∧ Hid (Below w.heap.size w wr)) (fun _ iv _ => n - (intOf iv).toNat)
  case atStart => exact ⟨0, 0, 0, none, Nat.zero_le _, rfl, rfl, Nat.zero_le _, by show _ = _; rw [List.take_zero]; rfl, by show Own _ _ _ _; rw [List.take_zero]; exact Own.nil _ _, (fun j _ h => by omega), Below.refl _ _⟩
  case round =>
    obtain ⟨i, nb, cb, ab, hi, rfl, rfl, hnb, HNB, HO, HF, HB⟩ := hrel
    by_cases hlt : i < n
    · have hix : i < xs.length := by rw [← HN.out]; exact hlt
      obtain ⟨b, off, hb, -, hr⟩ := (HV.out.below HB.out (Nat.le_refl _)).at i hix
      subst hb
      have hmem : xs[i] ∈ xs := List.getElem_mem _
      have hsm := HX.out _ hmem
      have hll := lineF_len hsm.1 hsm.2
      have HTK := Lib.hid (lnF_take xs i hix)
      have hcur : (lnF (xs.take (i + 1))).length ≤ 17616076800000 := by
        have h1 := lnF_len (xs := xs.take (i + 1)) fun s hs => HX.out s (List.mem_of_mem_take hs)
        have h2 : (xs.take (i + 1)).length ≤ 1048576 := Nat.le_trans (List.length_take_le _ _) (by omega)
        have h3 := Nat.mul_le_mul_right 16800000 h2
        omega
      have HBAD : Hid (lineF xs[i] = [] → R = []) := fun h => by rw [HR.out]; exact printF_bad hmem h
      have HFIT : Hid (lineF xs[i] ≠ [] → ∀ j (h : j < xs.length), j < i + 1 → fitS xs[j] = true) := fun h j hj hji => by
        by_cases e : j = i
        · subst e; exact lineF_fit h
        · exact HF.out j hj (by omega)
      have HL := Lib.hid (rline_any xs[i] hsm.1 (by have := hsm.2; omega) wr (HT.out.below HB.out))
      obtain ⟨s, hs⟩ : ∃ s, s = xs[i] := ⟨_, rfl⟩
      rw [← hs] at hr HL hll HTK HBAD HFIT
      have c0 : wr.cell? ⟨b, off + i * 6, none⟩ = some (.int .i64 s.kind) := hr 0 _ rfl
      have c1 : wr.cell? ⟨b, off + i * 6 + 1, none⟩ = some (.int .i64 s.a) := hr 1 _ rfl
      have c2 : wr.cell? ⟨b, off + i * 6 + 2, none⟩ = some (.int .i64 s.b) := hr 2 _ rfl
      have c3 : wr.cell? ⟨b, off + i * 6 + 3, none⟩ = some (.string ⟨s.name.toArray⟩) := hr 3 _ rfl
      have c4 : wr.cell? ⟨b, off + i * 6 + 4, none⟩ = some (.int .i64 s.k) := hr 4 _ rfl
      have c5 : wr.cell? ⟨b, off + i * 6 + 5, none⟩ = some (.int .i64 s.n) := hr 5 _ rfl
      obtain ⟨ls, hls⟩ : ∃ l, l = lineF s := ⟨_, rfl⟩
      rw [← hls] at HL hll HTK HBAD HFIT
      unfold stepC at HL
      rw [HTK.out] at hcur
      simp only [List.length_append, List.length_cons, List.length_nil] at hcur
      have hkn : 0 ≤ (i : Int) ∧ (i : Int) < (n : Int) := by omega
      clear hr hsm hmem hs hls hix
      go_wp2_with (fail)
      with_reducible refine HL.out.mono ?_
      rintro e w2 ⟨rfl, hB2⟩
      have HB2 := Lib.hid (HB.out.trans (hB2.mono HB.out.size))
      have HO2 := Lib.hid (HO.out.below hB2)
      clear HL hB2 c0 c1 c2 c3 c4 c5
      by_cases hle : ls = []
      · have hr := HBAD.out hle
        subst hr
        subst hle
        go_wp2_with (fail)
        go_ret
        exact ⟨rfl, HB2.out⟩
      · have hlf : (ls == []) = false := by simpa using hle
        have HFI := Lib.hid (HFIT.out hle)
        clear HBAD HFIT hle
        go_wp2_with (at_builtin; (refine wpList_append_text rfl _ _ rfl w.heap.size _ _ rfl HO2.out ls rfl (by rw [← HNB.out]; omega) HB2.out.size ?_))
        intro b3 w3 ho3 hg3
        have HB3 := Lib.hid (HB2.out.grown hg3 HB2.out.size (fun j e => (HO2.out.lt j e).1))
        obtain ⟨a3, c3, hb3, -⟩ := ho3.bts
        obtain ⟨n3, hn3⟩ : ∃ n, n = (lnF (xs.take i) ++ ls).length := ⟨_, rfl⟩
        rw [← hn3] at hb3
        subst hb3
        have HN3 := Lib.hid hn3
        have HO3 := Lib.hid (owns_below ho3 (new_block w3 (.cells #[.int .u8 10] 5)).1 : Own _ w.heap.size (.slice a3 n3 c3) (lnF (xs.take i) ++ ls))
        have HB4 := Lib.hid (HB3.out.trans ((new_block w3 (.cells #[.int .u8 10] 5)).1.mono HB3.out.size))
        clear ho3 hg3 hn3
        go_wp2_with (at_builtin; (refine wpList_append_bts rfl _ _ rfl w.heap.size _ _ rfl HO3.out _ [10] (w3.heap.size + 1) rfl ((Bts.lit _ w3.heap.size _ 5 (0, 0) [10] 1 1 (heap_alloc_new w3 _) rfl (by omega) (by decide) (lit1 10)).mono (by simp)) (by rw [List.length_append, ← HNB.out]; simp; omega) HB4.out.size ?_))
        intro b5 w5 ho5 hg5 _
        have HB5 := Lib.hid (HB4.out.grown hg5 HB4.out.size (fun j e => (HO3.out.lt j e).1))
        rw [← HTK.out] at ho5
        obtain ⟨a5, c5, hb5, -⟩ := ho5.bts
        obtain ⟨n5, hn5⟩ : ∃ n, n = (lnF (xs.take (i + 1))).length := ⟨_, rfl⟩
        rw [← hn5] at hb5
        subst hb5
        have HN5 := Lib.hid hn5
        have HO5 := Lib.hid ho5
        clear ho5 hg5 hn5
        go_wp2_with (fail)
        go_roundw
        case rel => exact ⟨i + 1, n5, c5, a5, by omega, by go_num, rfl, by rw [HN5.out, HTK.out]; simp only [List.length_append, List.length_cons, List.length_nil]; omega, HN5, HO5, HFI, HB5⟩
        case measure => simp [intOf] <;> omega
    · obtain rfl : i = n := by omega
      have hr : R = lnF (xs.take i) := by
        rw [HR.out, List.take_of_length_le (by rw [← HN.out]; omega)]
        exact printF_all fun s hs => by
          obtain ⟨j, hj, rfl⟩ := List.mem_iff_getElem.1 hs
          exact HF.out j hj (by rw [HN.out]; exact hj)
      have hst := HO.out.bts.strB
      rw [← hr] at hst
      go_wp2_with (fail)
      go_ret
      exact ⟨by rw [hr]; rfl, HB.out⟩

set_option maxRecDepth 100000 in
set_option maxHeartbeats 4000000 in
theorem print_any (v : Value) (xs : List Stp) (w : World) (hv : Sps w w.heap.size v xs) (hx : SmS xs) (ht : TabT w) :
    Calls Tryd.prog 13 #[v] w fun e w' => e = .returned (.string ⟨(printF xs).toArray⟩) ∧ Below w.heap.size w w' := by
  obtain ⟨ao, cp, rfl, -, -⟩ := hv.slice
  have HV := Lib.hid hv
  have HX := Lib.hid hx.2
  have HT := Lib.hid ht
  obtain ⟨R, hR⟩ : ∃ R, R = printF xs := ⟨_, rfl⟩
  rw [← hR]
  have HR := Lib.hid hR
  obtain ⟨n, hn⟩ : ∃ n, n = xs.length := ⟨_, rfl⟩
  have hnm : n ≤ 1048576 := by rw [hn]; exact hx.1
  rw [← hn] at HV ⊢
  have HN := Lib.hid hn
  have HD0 := Lib.hid (Bld.new w w.heap.size (Nat.le_refl _))
  have HB0 := Lib.hid (new_block w (.cells #[.pointer none, .slice none 0 0] 69)).1
  clear hv hx ht hR hn
  go_enter Tryd.func13, Tryd.ntmps13
  go_wp2_with (fail)
  obtain ⟨bb, hbb⟩ : ∃ b, b = w.heap.size := ⟨_, rfl⟩
  rw [← hbb]
  have HBB := Lib.hid hbb
  clear hbb
  go_loopw [9] (fun iv wr => ∃ i : Nat, i ≤ n ∧ iv = .int .i64 (i : Int) ∧ Hid (Bld wr w.heap.size bb (lnF (xs.take i))) ∧ Hid (∀ j (h : j < xs.length), j < i → fitS xs[j] = true) ∧ Hid (Below w.heap.size w wr)) (fun iv _ => n - (intOf iv).toNat)
  case atStart => exact ⟨0, Nat.zero_le _, rfl, by show Bld _ _ _ _; rw [List.take_zero, HBB.out]; exact HD0.out, (fun j _ h => by omega), HB0.out⟩
  case round =>
    obtain ⟨i, hi, rfl, HD, HF, HB⟩ := hrel
    by_cases hlt : i < n
    · have hix : i < xs.length := by rw [← HN.out]; exact hlt
      obtain ⟨b, off, hb, -, hr⟩ := (HV.out.below HB.out (Nat.le_refl _)).at i hix
      subst hb
      have hmem : xs[i] ∈ xs := List.getElem_mem _
      have hsm := HX.out _ hmem
      have hll := lineF_len hsm.1 hsm.2
      have HTK := Lib.hid (lnF_take xs i hix)
      have hcur : (lnF (xs.take (i + 1))).length ≤ 17616076800000 := by
        have h1 := lnF_len (xs := xs.take (i + 1)) fun s hs => HX.out s (List.mem_of_mem_take hs)
        have h2 : (xs.take (i + 1)).length ≤ 1048576 := Nat.le_trans (List.length_take_le _ _) (by omega)
        have h3 := Nat.mul_le_mul_right 16800000 h2
        omega
      have HBAD : Hid (lineF xs[i] = [] → R = []) := fun h => by rw [HR.out]; exact printF_bad hmem h
      have HFIT : Hid (lineF xs[i] ≠ [] → ∀ j (h : j < xs.length), j < i + 1 → fitS xs[j] = true) := fun h j hj hji => by
        by_cases e : j = i
        · subst e; exact lineF_fit h
        · exact HF.out j hj (by omega)
      obtain ⟨s, hs⟩ : ∃ s, s = xs[i] := ⟨_, rfl⟩
      obtain ⟨g1, -⟩ := new_block wr (.cells #[.int .i64 s.kind, .int .i64 s.a, .int .i64 s.b, .string ⟨s.name.toArray⟩, .int .i64 s.k, .int .i64 s.n] 35)
      have HB1 := Lib.hid (HB.out.trans (g1.mono HB.out.size))
      have HD1 := Lib.hid (HD.out.below g1)
      have HL := Lib.hid (line_any xs[i] hsm.1 (by have := hsm.2; omega) (wr.alloc (.cells #[.int .i64 s.kind, .int .i64 s.a, .int .i64 s.b, .string ⟨s.name.toArray⟩, .int .i64 s.k, .int .i64 s.n] 35)) (HT.out.below HB1.out))
      rw [← hs] at hr hll HTK HBAD HFIT
      simp only [← hs] at HL
      have c0 : wr.cell? ⟨b, off + i * 6, none⟩ = some (.int .i64 s.kind) := hr 0 _ rfl
      have c1 : wr.cell? ⟨b, off + i * 6 + 1, none⟩ = some (.int .i64 s.a) := hr 1 _ rfl
      have c2 : wr.cell? ⟨b, off + i * 6 + 2, none⟩ = some (.int .i64 s.b) := hr 2 _ rfl
      have c3 : wr.cell? ⟨b, off + i * 6 + 3, none⟩ = some (.string ⟨s.name.toArray⟩) := hr 3 _ rfl
      have c4 : wr.cell? ⟨b, off + i * 6 + 4, none⟩ = some (.int .i64 s.k) := hr 4 _ rfl
      have c5 : wr.cell? ⟨b, off + i * 6 + 5, none⟩ = some (.int .i64 s.n) := hr 5 _ rfl
      obtain ⟨ls, hls⟩ : ∃ l, l = lineF s := ⟨_, rfl⟩
      rw [← hls] at HL hll HTK HBAD HFIT
      unfold stepC at HL
      rw [HTK.out] at hcur
      simp only [List.length_append, List.length_cons, List.length_nil] at hcur
      have hkn : 0 ≤ (i : Int) ∧ (i : Int) < (n : Int) := by omega
      have HCU := Lib.hid hcur
      clear hr hsm hmem hs hls hix g1 hcur
      go_wp2_with (fail)
      with_reducible refine HL.out.mono ?_
      rintro e w2 ⟨rfl, hB2⟩
      have HB2 := Lib.hid (HB1.out.trans (hB2.mono HB1.out.size))
      have HD2 := Lib.hid (HD1.out.below hB2)
      clear HL hB2 c0 c1 c2 c3 c4 c5
      by_cases hle : ls = []
      · have hr := HBAD.out hle
        subst hr
        subst hle
        go_wp2_with (fail)
        go_ret
        exact ⟨rfl, HB2.out⟩
      · have hlf : (ls == []) = false := by simpa using hle
        have HFI := Lib.hid (HFIT.out hle)
        have HW1 := Lib.hid (bld_string w.heap.size bb (lnF (xs.take i)) ls w2 HD2.out (by have := HCU.out; omega) HB2.out.size)
        clear HBAD HFIT hle
        go_wp2_with (fail)
        with_reducible refine HW1.out.mono ?_
        rintro e w3 ⟨rfl, hD3, hB3, -⟩
        have HB3 := Lib.hid (HB2.out.trans hB3)
        have hw2 := bld_byte w.heap.size bb (lnF (xs.take i) ++ ls) 10 w3 hD3 (by have := HCU.out; simp only [List.length_append]; omega) HB3.out.size
        change Calls Tryd.prog _ #[_, .int .u8 10] _ _ at hw2
        have HW2 := Lib.hid hw2
        clear HW1 hD3 hB3 hw2
        go_wp2_with (fail)
        with_reducible refine HW2.out.mono ?_
        rintro e w4 ⟨rfl, hD4, hB4, -⟩
        have HB4 := Lib.hid (HB3.out.trans hB4)
        rw [List.append_assoc, ← HTK.out] at hD4
        have HD4 := Lib.hid hD4
        clear HW2 hD4 hB4
        go_wp2_with (fail)
        go_roundw
        case rel => exact ⟨i + 1, by omega, by go_num, HD4, HFI, HB4⟩
        case measure => simp [intOf] <;> omega
    · obtain rfl : i = n := by omega
      have hr : R = lnF (xs.take i) := by
        rw [HR.out, List.take_of_length_le (by rw [← HN.out]; omega)]
        exact printF_all fun s hs => by
          obtain ⟨j, hj, rfl⟩ := List.mem_iff_getElem.1 hs
          exact HF.out j hj (by rw [HN.out]; exact hj)
      rw [← hr] at HD
      have HW1 := Lib.hid (bld_text w.heap.size bb R wr HD.out HB.out.size)
      go_wp2_with (fail)
      with_reducible refine HW1.out.mono ?_
      rintro e w3 ⟨rfl, hB3, -⟩
      have HB3 := Lib.hid (HB.out.trans hB3)
      clear HW1 hB3
      go_wp2_with (fail)
      go_ret
      exact ⟨by rw [hr]; rfl, HB3.out⟩

end Go.Proofs.YtaeoghagpeihkaaDoor

namespace Go.Proofs.YtaeoghagpeihkaaDoor
open Go.RowKit

theorem ex1 : parseF [108, 105, 110, 107, 32, 48, 32, 49, 32, 35, 32, 120, 10, 10, 32, 32, 116, 105, 99, 107, 32, 48] = ([(⟨1, 0, 1, [], 0, 0⟩ : Stp), (⟨6, 0, 0, [], 0, 0⟩ : Stp)], 0, 0) := by kernel_rfl
theorem ex2 : parseF [10, 102, 111, 111] = ([], 2, 61) := by kernel_rfl
theorem ex3 : printF [(⟨1, 0, 1, [], 0, 0⟩ : Stp), (⟨6, 0, 0, [], 0, 0⟩ : Stp)] = [108, 105, 110, 107, 32, 48, 32, 49, 10, 116, 105, 99, 107, 32, 48, 10] := by kernel_rfl
theorem ex4 : lineF (⟨5, 3, 0, [97, 32, 98, 35], 0, -7⟩ : Stp) = [115, 101, 116, 32, 51, 32, 34, 97, 32, 98, 35, 34, 32, 45, 55] := by kernel_rfl
theorem sms2 : SmS [(⟨1, 0, 1, [], 0, 0⟩ : Stp), (⟨6, 0, 0, [], 0, 0⟩ : Stp)] := ⟨by decide, by
  intro s hs
  rcases List.mem_cons.1 hs with rfl | hs
  · exact ⟨⟨by unfold I64s; decide, by unfold I64s; decide, by unfold I64s; decide, by unfold I64s; decide⟩, by decide⟩
  · rcases List.mem_cons.1 hs with rfl | hs
    · exact ⟨⟨by unfold I64s; decide, by unfold I64s; decide, by unfold I64s; decide, by unfold I64s; decide⟩, by decide⟩
    · cases hs⟩
theorem st64_3 : Stp64 (⟨5, 3, 0, [97, 32, 98, 35], 0, -7⟩ : Stp) := ⟨by unfold I64s; decide, by unfold I64s; decide, by unfold I64s; decide, by unfold I64s; decide⟩

set_option maxRecDepth 100000 in
set_option maxHeartbeats 4000000 in
theorem awake_any (w : World) (ht : TabT w) (he : ErrT w) : Calls Tryd.prog 11 #[] w fun e w' => e = .returned (.bool true) ∧ Below w.heap.size w w' := by
  have HT := Lib.hid ht
  have HEE := Lib.hid he
  have hc1 := parse_any ⟨#[108, 105, 110, 107, 32, 48, 32, 49, 32, 35, 32, 120, 10, 10, 32, 32, 116, 105, 99, 107, 32, 48]⟩ w ht he (by decide)
  simp only [ex1] at hc1
  have HC1 := Lib.hid hc1
  clear ht he hc1
  go_enter Tryd.func11, Tryd.ntmps11
  go_wp2_with (fail)
  with_reducible refine HC1.out.mono ?_
  rintro e w1 ⟨v, rfl, ho1, hB1⟩
  obtain ⟨ab, cap, rfl⟩ := owns_form ho1
  have HB1 := Lib.hid hB1
  have HO1 := Lib.hid ho1
  obtain ⟨g2, k2⟩ := new_block w1 (.cells #[.int .i64 0, .int .i64 0] 25)
  have HB2 := Lib.hid (HB1.out.trans (g2.mono HB1.out.size))
  have HO2 : Hid (OwnS (w1.alloc (.cells #[.int .i64 0, .int .i64 0] 25)) w.heap.size (.slice ab 2 cap) [(⟨1, 0, 1, [], 0, 0⟩ : Stp), (⟨6, 0, 0, [], 0, 0⟩ : Stp)]) := owns_below ho1 g2
  have HX2 := Lib.hid k2
  have hc2 := parse_any ⟨#[10, 102, 111, 111]⟩ (w1.alloc (.cells #[.int .i64 0, .int .i64 0] 25)) (HT.out.below HB2.out) (HEE.out.below HB2.out) (by decide)
  simp only [ex2] at hc2
  have HC2 := Lib.hid hc2
  clear HC1 ho1 hB1 hc2 g2 k2
  go_wp2_with (fail)
  with_reducible refine HC2.out.mono ?_
  rintro e w3 ⟨v2, rfl, -, hB3⟩
  have HB3 := Lib.hid (HB2.out.trans (hB3.mono HB2.out.size))
  obtain ⟨g4, k4⟩ := new_block w3 (.cells #[.int .i64 2, .int .i64 61] 25)
  have HB4 := Lib.hid (HB3.out.trans (g4.mono HB3.out.size))
  have ho4 : OwnS (w3.alloc (.cells #[.int .i64 2, .int .i64 61] 25)) w.heap.size (.slice ab 2 cap) [(⟨1, 0, 1, [], 0, 0⟩ : Stp), (⟨6, 0, 0, [], 0, 0⟩ : Stp)] := owns_below (owns_below HO2.out hB3) g4
  have hx4 := stays (stays HX2.out hB3) g4
  have c0 := cell_of_row _ _ 0 _ _ _ hx4
  have c1 := cell_of_row _ _ 1 _ _ _ hx4
  have e0 := cell_of_row _ _ 0 _ _ _ k4
  have e1 := cell_of_row _ _ 1 _ _ _ k4
  have hsp := ho4.sps
  obtain ⟨b, off, hb, -, hr⟩ := hsp.at 0 (by decide)
  subst hb
  have l0 := hr 0 _ rfl
  have l1 := hr 1 _ rfl
  have l2 := hr 2 _ rfl
  have l3 := hr 3 _ rfl
  have l4 := hr 4 _ rfl
  have l5 := hr 5 _ rfl
  simp only [Nat.zero_mul, Nat.add_zero] at l0 l1 l2 l3 l4 l5
  have hp := print_any _ _ _ hsp sms2 (HT.out.below HB4.out)
  rw [ex3] at hp
  have HP := Lib.hid hp
  have HO4 := Lib.hid ho4
  have HX4 := Lib.hid hx4
  have HE4 := Lib.hid k4
  clear HC2 hB3 g4 k4 ho4 hx4 hsp hr hp HO1 HO2 HX2
  go_wp2_with (fail)
  with_reducible refine HP.out.mono ?_
  rintro e w5 ⟨rfl, hB5⟩
  have HB5 := Lib.hid (HB4.out.trans (hB5.mono HB4.out.size))
  have he5 := stays HE4.out hB5
  have e0 := cell_of_row _ _ 0 _ _ _ he5
  have e1 := cell_of_row _ _ 1 _ _ _ he5
  have hl := line_any (⟨5, 3, 0, [97, 32, 98, 35], 0, -7⟩ : Stp) st64_3 (by decide) w5 (HT.out.below HB5.out)
  rw [ex4] at hl
  simp only [stepC] at hl
  have HL := Lib.hid hl
  clear HP hB5 he5 hl c0 c1 l0 l1 l2 l3 l4 l5
  go_wp2_with (fail)
  with_reducible refine HL.out.mono ?_
  rintro e w6 ⟨rfl, hB6⟩
  have HB6 := Lib.hid (HB5.out.trans (hB6.mono HB5.out.size))
  clear HL hB6
  go_wp2_with (fail)
  go_ret
  exact ⟨rfl, HB6.out⟩

end Go.Proofs.YtaeoghagpeihkaaDoor

