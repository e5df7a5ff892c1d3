/- The program's step (by program: wip/tools/gen_sstp.py). -/
import Derived.Test.YtaeoghagpeihkaaDoorSI
import Derived.Test.YtaeoghagpeihkaaDoorSJ
set_option linter.unusedSimpArgs false
set_option linter.unusedVariables false
namespace Go.Proofs.YtaeoghagpeihkaaDoor
open Go.RowKit

def wordC (t : Tok) : List Value := [.string ⟨t.t.toArray⟩, .bool t.q, .bool false]
/-- a row of words in memory -/
def WordAt (w : World) (lb : Nat) (ts : List Tok) : Prop := ∃ cur : Array Value, w.heap[lb]? = some (.cells cur 54 (0, 0)) ∧ ∀ (j : Nat) (c : Value), (ts.flatMap wordC)[j]? = some c → cur[j]? = some c
theorem WordAt.below {w w' : World} {lb : Nat} {ts : List Tok} (h : WordAt w lb ts) (hb : Below w.heap.size w w') : WordAt w' lb ts := by
  obtain ⟨cur, h1, h2⟩ := h
  exact ⟨cur, stays h1 hb, h2⟩
theorem word_at {w : World} {B : Nat} {v : Value} {ts : List Tok} (h : w.ownsRow B 54 3 v ts.length (ts.flatMap wordC)) (hne : ts ≠ []) : ∃ lb cap, v = .slice (some ⟨lb, 0, none⟩) ts.length cap ∧ ts.length ≤ cap ∧ WordAt w lb ts := by
  obtain ⟨h1, ⟨-, h0⟩ | ⟨g, cap, cur, rfl, -, hg, hc, -, -, hx⟩⟩ := h
  · exact absurd (List.eq_nil_of_length_eq_zero h0) hne
  · refine ⟨g, cap, rfl, hc, cur, hg, fun j c hj => ?_⟩
    rw [← hx, List.getElem?_take] at hj
    split at hj
    · simpa using hj
    · cases hj
theorem word_flat0 : ∀ (ts : List Tok) (i : Nat) (h : i < ts.length), (ts.flatMap wordC)[i * 3]? = some (.string ⟨ts[i].t.toArray⟩) ∧ (ts.flatMap wordC)[i * 3 + 1]? = some (.bool ts[i].q) ∧ (ts.flatMap wordC)[i * 3 + 2]? = some (.bool false) := by
  intro ts
  induction ts with
  | nil => intro i h; cases h
  | cons t r ih =>
    intro i h
    cases i with
    | zero => exact ⟨rfl, rfl, rfl⟩
    | succ i =>
      have := ih i (by simpa using h)
      rw [List.flatMap_cons, show (i + 1) * 3 = i * 3 + 1 + 1 + 1 by omega]
      exact ⟨by simpa [wordC] using this.1, by simpa [wordC] using this.2.1, by simpa [wordC] using this.2.2⟩
theorem WordAt.cells {w : World} {lb : Nat} {ts : List Tok} (h : WordAt w lb ts) (i : Nat) (hi : i < ts.length) : w.cell? ⟨lb, i * 3, none⟩ = some (.string ⟨ts[i].t.toArray⟩) ∧ w.cell? ⟨lb, i * 3 + 1, none⟩ = some (.bool ts[i].q) ∧ w.cell? ⟨lb, i * 3 + 2, none⟩ = some (.bool false) := by
  obtain ⟨cur, h1, h2⟩ := h
  have h3 := word_flat0 ts i hi
  exact ⟨(cell_of_row _ _ _ _ _ _ h1).trans (h2 _ _ h3.1), (cell_of_row _ _ _ _ _ _ h1).trans (h2 _ _ h3.2.1), (cell_of_row _ _ _ _ _ _ h1).trans (h2 _ _ h3.2.2)⟩
set_option maxRecDepth 100000 in
theorem results_stp_any {rb : Nat} {c : Value} {cs : Array Value} {W : World} {tmps : Array Value} (h2 : tmps.getD 2 undef = .pointer (some ⟨rb, 0, none⟩)) (h3 : tmps.getD 3 undef = c) (hs : cs.size = 6 := by rfl) (h : W.heap[rb]? = some (.cells cs 35 (0, 0))) : (results Tryd.f23 tmps).run Tryd.prog W = .ok (.tuple #[.agg cs, c]) W := by
  rw [results_cell_tmp (p := 2) (u := 3) (ty := 35) Tryd.results23, h2, h3]
  have hl := run_loadVar_row (P := Tryd.prog) W rb 35 35 cs (0, 0) (.struct (Tryd.prog.fieldsOf 35)) h (by kernel_rfl) rfl (by rw [hs]; kernel_rfl)
  show ((loadVar 35 ⟨rb, 0, none⟩).run Tryd.prog W).andThen _ = _
  rw [hl]
  rfl
theorem kind_word {t : List UInt8} (h : ¬ kindF t = 0) : wordF (kindF t) = t ∧ wordF (kindF t) ≠ [] := by
  rcases kindF_cases t with h1 | h1
  · exact absurd h1 h
  · exact h1
theorem kind_zero : wordF 0 = [] := by decide

set_option maxRecDepth 100000 in
set_option maxHeartbeats 8000000 in
theorem step_any (w0 : Tok) (ts : List Tok) (lb cap : Nat) (w : World) (hcap : ts.length + 1 ≤ cap ∧ ts.length ≤ 100000000) (hT : WordAt w lb (w0 :: ts)) (hlen : ∀ t ∈ w0 :: ts, t.t.length ≤ 100000000) (ht : TabT w) (he : ErrT w) : Calls Tryd.prog 23 #[(.slice (some ⟨lb, 0, none⟩) (ts.length + 1) cap)] w fun e w' => ∃ cs er, e = .returned (.tuple #[.agg cs, .int .i64 er]) ∧ StepR (stepF (w0 :: ts)) cs er ∧ Below w.heap.size w w' := by
  obtain ⟨g1, j1⟩ := new_block w (.cells #[.int .i64 0, .int .i64 0, .int .i64 0, .string ⟨#[]⟩, .int .i64 0, .int .i64 0] 35)
  have HB1 := Lib.hid g1
  have HR1 : Hid ((w.alloc (.cells #[.int .i64 0, .int .i64 0, .int .i64 0, .string ⟨#[]⟩, .int .i64 0, .int .i64 0] 35)).heap[w.heap.size]? = some (.cells (stepC zeroS) 35 (0, 0))) := j1
  have HTW := Lib.hid hT
  have HT := Lib.hid ht
  have HEE := Lib.hid he
  have HLEN := Lib.hid hlen
  have hcap1 : ts.length + 1 ≤ cap := hcap.1
  have hcap2 : ts.length ≤ 100000000 := hcap.2
  obtain ⟨q, wt⟩ := w0
  have hc0 := (hT.below g1).cells 0 (by simp)
  have l0 : (w.alloc (.cells #[.int .i64 0, .int .i64 0, .int .i64 0, .string ⟨#[]⟩, .int .i64 0, .int .i64 0] 35)).cell? ⟨lb, 0, none⟩ = some (.string ⟨wt.toArray⟩) := hc0.1
  have HW1 := Lib.hid (byword_any wt (w.alloc (.cells #[.int .i64 0, .int .i64 0, .int .i64 0, .string ⟨#[]⟩, .int .i64 0, .int .i64 0] 35)))
  clear g1 j1 hT ht he hlen hcap hc0
  by_cases hkz : kindF wt = 0
  · have HE : Hid (stepF (⟨q, wt⟩ :: ts) = (zeroS, 61)) := by show (if q = true ∨ kindF wt = 0 then _ else _) = _; rw [if_pos (.inr hkz)]
    obtain ⟨e1, e2⟩ := shapeV_no kind_zero
    rw [hkz, e1, e2] at HW1
    clear hkz e1 e2
    go_enter Tryd.func23, Tryd.ntmps23
    go_wp2_with (fail)
    with_reducible refine HW1.out.mono ?_
    rintro e w1 ⟨rfl, hB1⟩
    obtain ⟨g3, j3⟩ := new_block w1 (.cells #[.int .i64 0, .string ⟨#[]⟩, .string ⟨#[]⟩] 63)
    have HB2 := Lib.hid (HB1.out.trans (hB1.mono HB1.out.size))
    have HB := Lib.hid (HB2.out.trans (g3.mono HB2.out.size))
    have HR := Lib.hid (stays (stays HR1.out hB1) g3)
    obtain ⟨rb, hrb⟩ : ∃ b, b = w.heap.size := ⟨_, rfl⟩
    rw [← hrb] at HR
    have HRB := Lib.hid hrb
    rw [← hrb]
    clear hrb HW1 hB1 g3 j3 l0
    go_upto_region 3 with (fail)
    refine wp_region_lit ?_
    refine wpList_run (v := .agg (stepC zeroS)) (w' := w1.alloc (.cells #[.int .i64 0, .string ⟨#[]⟩, .string ⟨#[]⟩] 63)) rfl (by kernel_rfl) ?_
    refine wpList_skip (w' := (w1.alloc (.cells #[.int .i64 0, .string ⟨#[]⟩, .string ⟨#[]⟩] 63)).setCells rb 0 (stepC zeroS).toList) rfl rfl (exec_store 35 _ _ rfl _ _ rfl rfl (run_store_row _ rb 0 _ _ 35 (stepC zeroS) HR.out (by simp [stepC]) (by kernel_rfl) (by simp [stepC, Value.oneCell']))) ?_
    refine wpList_run (v := .int .i64 61) (w' := (w1.alloc (.cells #[.int .i64 0, .string ⟨#[]⟩, .string ⟨#[]⟩] 63)).setCells rb 0 (stepC zeroS).toList) rfl (by kernel_rfl) ?_
    refine wpList_nil ?_
    go_simp
    go_wp2
    have hst := setCells_block 35 rb (stepC zeroS).toList 0 _ _ HR.out
    exact bodyPost_ret (v := .tuple #[.agg (stepC zeroS), .int .i64 61]) (results_stp_any rfl rfl (by rfl) hst) rfl ⟨_, _, rfl, ⟨by rw [HE.out]; rfl, _, rfl, fun h => by rw [HE.out] at h; cases h⟩, setCells_below (by rw [HRB.out]; exact Nat.le_refl _) _ _ _ _ HB.out⟩
  · have HNZ : Hid (¬ kindF wt = 0) := hkz
    obtain ⟨kw1, kw2⟩ := kind_word hkz
    obtain ⟨e1, e2⟩ := shapeV_ok kw2
    rw [e1, e2, kw1] at HW1
    have HF0 : Hid (∀ (i : Nat) (h : i < (shapeF (kindF wt)).length) (h2 : i < (⟨(argsP (kindF wt)).toArray⟩ : ByteArray).size), (⟨(argsP (kindF wt)).toArray⟩ : ByteArray)[i]'h2 = ltF ((shapeF (kindF wt))[i]'h)) := fun i h h2 => argsP_at (kindF wt) i h h2
    have hfz := argsP_len (kindF wt)
    have hLET : ∀ c ∈ shapeF (kindF wt), c = 97 ∨ c = 98 ∨ c = 115 ∨ c = 107 ∨ c = 110 ∨ c = 109 := (shape_all (kindF wt)).2
    have hsl : (shapeF (kindF wt)).length ≤ 4 := shape_len (kindF wt)
    obtain ⟨kk, hkk⟩ : ∃ k, k = kindF wt := ⟨_, rfl⟩
    rw [← hkk] at HW1 hLET hsl hfz
    simp only [← hkk] at HF0
    obtain ⟨fl, hfl⟩ : ∃ l, l = shapeF kk := ⟨_, rfl⟩
    obtain ⟨fs, hfs⟩ : ∃ b, b = (⟨(argsP kk).toArray⟩ : ByteArray) := ⟨_, rfl⟩
    have HF2 : Hid (∀ (i : Nat) (h : i < fl.length) (h2 : i < fs.size), fs[i]'h2 = ltF (fl[i]'h)) := by subst hfs; subst hfl; exact HF0.out
    rw [← hfs] at HW1 hfz
    rw [← hfl] at hLET hsl hfz
    have HLET := Lib.hid hLET
    have HFL : Hid (shapeF (kindF wt) = fl ∧ kindF wt = kk) := ⟨by rw [hfl, hkk], hkk.symm⟩
    clear kw1 kw2 e1 e2 HF0 hLET hfl hfs hkk hkz
    go_enter Tryd.func23, Tryd.ntmps23
    go_wp2_with (fail)
    with_reducible refine HW1.out.mono ?_
    rintro e w1 ⟨rfl, hB1⟩
    obtain ⟨g3, j3⟩ := new_block w1 (.cells #[.int .i64 kk, .string ⟨wt.toArray⟩, .string fs] 63)
    have HB2 := Lib.hid (HB1.out.trans (hB1.mono HB1.out.size))
    have HB3 := Lib.hid (HB2.out.trans (g3.mono HB2.out.size))
    have HR3 := Lib.hid (stays (stays HR1.out hB1) g3)
    have HX3 := Lib.hid j3
    have hc3 := (HTW.out.below HB3.out).cells 0 (by simp)
    have l1 : (w1.alloc (.cells #[.int .i64 kk, .string ⟨wt.toArray⟩, .string fs] 63)).cell? ⟨lb, 1, none⟩ = some (.bool q) := hc3.2.1
    have x0 : (w1.alloc (.cells #[.int .i64 kk, .string ⟨wt.toArray⟩, .string fs] 63)).cell? ⟨w1.heap.size, 0, none⟩ = some (.int .i64 kk) := (cell_of_row _ _ 0 _ _ _ j3).trans rfl
    have x2 : (w1.alloc (.cells #[.int .i64 kk, .string ⟨wt.toArray⟩, .string fs] 63)).cell? ⟨w1.heap.size, 2, none⟩ = some (.string fs) := (cell_of_row _ _ 2 _ _ _ j3).trans rfl
    have HLT : Hid (w.heap.size < w1.heap.size) := (Array.getElem?_eq_some_iff.1 (stays HR1.out hB1)).1
    obtain ⟨rb, hrb⟩ : ∃ b, b = w.heap.size := ⟨_, rfl⟩
    rw [← hrb] at HR3
    have HRB := Lib.hid hrb
    rw [← hrb]
    clear HW1 hB1 g3 j3 l0 hc3 hrb
    cases q with
    | true =>
      have HE : Hid (stepF (⟨true, wt⟩ :: ts) = (zeroS, 61)) := by show stepF _ = _; simp [stepF]
      go_upto_region 3 with (fail)
      refine wp_region_lit ?_
      refine wpList_run (v := .agg (stepC zeroS)) (w' := w1.alloc (.cells #[.int .i64 kk, .string ⟨wt.toArray⟩, .string fs] 63)) rfl (by kernel_rfl) ?_
      refine wpList_skip (w' := (w1.alloc (.cells #[.int .i64 kk, .string ⟨wt.toArray⟩, .string fs] 63)).setCells rb 0 (stepC zeroS).toList) rfl rfl (exec_store 35 _ _ rfl _ _ rfl rfl (run_store_row _ rb 0 _ _ 35 (stepC zeroS) HR3.out (by simp [stepC]) (by kernel_rfl) (by simp [stepC, Value.oneCell']))) ?_
      refine wpList_run (v := .int .i64 61) (w' := (w1.alloc (.cells #[.int .i64 kk, .string ⟨wt.toArray⟩, .string fs] 63)).setCells rb 0 (stepC zeroS).toList) rfl (by kernel_rfl) ?_
      refine wpList_nil ?_
      go_simp
      go_wp2
      have hst := setCells_block 35 rb (stepC zeroS).toList 0 _ _ HR3.out
      exact bodyPost_ret (v := .tuple #[.agg (stepC zeroS), .int .i64 61]) (results_stp_any rfl rfl (by rfl) hst) rfl ⟨_, _, rfl, ⟨by rw [HE.out]; rfl, _, rfl, fun h => by rw [HE.out] at h; cases h⟩, setCells_below (by rw [HRB.out]; exact Nat.le_refl _) _ _ _ _ HB3.out⟩
    | false =>
      by_cases hl : fl.length = ts.length
      · have HSL : Hid ((shapeF (kindF wt)).length = ts.length ∧ shapeF (kindF wt) = fl ∧ (⟨kk, 0, 0, [], 0, 0⟩ : Stp) = ⟨kindF wt, 0, 0, [], 0, 0⟩) := ⟨by rw [HFL.out.1]; exact hl, HFL.out.1, by rw [HFL.out.2]⟩
        obtain ⟨s0, hs0⟩ : ∃ s : Stp, s = ⟨kk, 0, 0, [], 0, 0⟩ := ⟨_, rfl⟩
        rw [← hs0] at HSL
        have hln : ((ts.length + 1 : Nat) : Int) - 1 = (fs.size : Int) := by omega
        have hfs2 : fs.size = ts.length := by omega
        obtain ⟨g4, j4⟩ := new_block (w1.alloc (.cells #[.int .i64 kk, .string ⟨wt.toArray⟩, .string fs] 63)) (.cells #[.int .i64 kk, .int .i64 0, .int .i64 0, .string ⟨#[]⟩, .int .i64 0, .int .i64 0] 35)
        have HB := Lib.hid (HB3.out.trans (g4.mono HB3.out.size))
        have HR := Lib.hid (stays HR3.out g4)
        have HX := Lib.hid (stays HX3.out g4)
        have HS : Hid (((w1.alloc (.cells #[.int .i64 kk, .string ⟨wt.toArray⟩, .string fs] 63)).alloc (.cells #[.int .i64 kk, .int .i64 0, .int .i64 0, .string ⟨#[]⟩, .int .i64 0, .int .i64 0] 35)).heap[(w1.alloc (.cells #[.int .i64 kk, .string ⟨wt.toArray⟩, .string fs] 63)).heap.size]? = some (.cells (stepC ⟨kk, 0, 0, [], 0, 0⟩) 35 (0, 0))) := j4
        have hsz : (w1.alloc (.cells #[.int .i64 kk, .string ⟨wt.toArray⟩, .string fs] 63)).heap.size = w1.heap.size + 1 := by show (Array.push _ _).size = _; exact Array.size_push _
        rw [hsz, ← hs0] at HS
        have HS0 := Lib.hid hs0
        clear g4 j4 hsz hs0
        by_cases hcp : cap = 1
        · subst hcp
          go_wp2_with (fail)
          obtain ⟨xb, hxb⟩ : ∃ b, b = w1.heap.size := ⟨_, rfl⟩
          obtain ⟨sb, hsb⟩ : ∃ b, b = w1.heap.size + 1 := ⟨_, rfl⟩
          rw [← hsb] at HS
          rw [← hxb] at HX
          have HSB : Hid (w.heap.size ≤ sb) := by show _ ≤ _; have := HLT.out; omega
          have HD1 : Hid (rb ≠ sb) := by show _ ≠ _; have := HLT.out; have := HRB.out; omega
          have HD2 : Hid (xb ≠ sb) := by show _ ≠ _; omega
          rw [← hsb, ← hxb]
          clear hxb hsb x0 x2 l1
          go_loopw [42] (fun iv wr => ∃ (i : Nat) (st : Stp), i ≤ ts.length ∧ iv = .int .i64 (i : Int) ∧ Hid (Below w.heap.size w wr) ∧ Hid (wr.heap[rb]? = some (.cells (stepC zeroS) 35 (0, 0))) ∧ Hid (wr.heap[xb]? = some (.cells #[.int .i64 kk, .string ⟨wt.toArray⟩, .string fs] 63 (0, 0))) ∧ Hid (wr.heap[sb]? = some (.cells (stepC st) 35 (0, 0))) ∧ Hid (argsF fl ts s0 = argsF (fl.drop i) (ts.drop i) st)) (fun iv _ => ts.length - (intOf iv).toNat)
          case atStart => exact ⟨0, s0, Nat.zero_le _, rfl, HB.out, HR.out, HX.out, HS.out, rfl⟩
          case round =>
            clear HB HR HX HS
            obtain ⟨i, st, hi, rfl, HB, HR, HX, HS, HA⟩ := hrel
            by_cases hlt2 : i < ts.length
            · exact absurd hlt2 (by omega)
            · obtain rfl : i = ts.length := by omega
              have HE : Hid (stepF (⟨false, wt⟩ :: ts) = (st, 0)) := step_0 HNZ.out HSL.out (by rw [HA.out, List.drop_eq_nil_of_le (by omega), List.drop_eq_nil_of_le (by omega)]; rfl)
              go_upto_region 26 with (fail)
              refine wp_region_lit ?_
              refine wpList_run (w' := wr) rfl (exec_load_row 35 _ rfl sb _ _ (.struct (Tryd.prog.fieldsOf 35)) rfl HS.out (by kernel_rfl) rfl (by kernel_rfl)) ?_
              refine wpList_skip (w' := wr.setCells rb 0 (stepC st).toList) rfl rfl (exec_store 35 _ _ rfl _ _ rfl rfl (run_store_row _ rb 0 _ _ 35 (stepC st) HR.out (by simp [stepC]) (by kernel_rfl) (by simp [stepC, Value.oneCell']))) ?_
              refine wpList_run (v := .int .i64 0) (w' := wr.setCells rb 0 (stepC st).toList) rfl (by kernel_rfl) ?_
              refine wpList_nil ?_
              go_simp
              go_wp2
              have hst := setCells_block 35 rb (stepC st).toList 0 _ _ HR.out
              exact bodyPost_ret (v := .tuple #[.agg (stepC st), .int .i64 0]) (results_stp_any rfl rfl (by rfl) hst) rfl ⟨_, _, rfl, ⟨by rw [HE.out]; rfl, _, rfl, fun _ => by rw [HE.out]⟩, setCells_below (by rw [HRB.out]; exact Nat.le_refl _) _ _ _ _ HB.out⟩
        · go_wp2_with (fail)
          obtain ⟨xb, hxb⟩ : ∃ b, b = w1.heap.size := ⟨_, rfl⟩
          obtain ⟨sb, hsb⟩ : ∃ b, b = w1.heap.size + 1 := ⟨_, rfl⟩
          rw [← hsb] at HS
          rw [← hxb] at HX
          have HSB : Hid (w.heap.size ≤ sb) := by show _ ≤ _; have := HLT.out; omega
          have HD1 : Hid (rb ≠ sb) := by show _ ≠ _; have := HLT.out; have := HRB.out; omega
          have HD2 : Hid (xb ≠ sb) := by show _ ≠ _; omega
          rw [← hsb, ← hxb]
          clear hxb hsb x0 x2 l1
          go_loopw [42] (fun iv wr => ∃ (i : Nat) (st : Stp), i ≤ ts.length ∧ iv = .int .i64 (i : Int) ∧ Hid (Below w.heap.size w wr) ∧ Hid (wr.heap[rb]? = some (.cells (stepC zeroS) 35 (0, 0))) ∧ Hid (wr.heap[xb]? = some (.cells #[.int .i64 kk, .string ⟨wt.toArray⟩, .string fs] 63 (0, 0))) ∧ Hid (wr.heap[sb]? = some (.cells (stepC st) 35 (0, 0))) ∧ Hid (argsF fl ts s0 = argsF (fl.drop i) (ts.drop i) st)) (fun iv _ => ts.length - (intOf iv).toNat)
          case atStart => exact ⟨0, s0, Nat.zero_le _, rfl, HB.out, HR.out, HX.out, HS.out, rfl⟩
          case round =>
            clear HB HR HX HS
            obtain ⟨i, st, hi, rfl, HB, HR, HX, HS, HA⟩ := hrel
            by_cases hlt2 : i < ts.length
            · have hif : i < fs.size := by omega
              obtain ⟨c, hcc⟩ : ∃ c, fl[i]'(by omega) = c := ⟨_, rfl⟩
              have hc : fs[i] = ltF c := by rw [← hcc]; exact HF2.out i (by omega) hif
              have hlet := HLET.out c (by rw [← hcc]; exact List.getElem_mem _)
              obtain ⟨tk, htk⟩ : ∃ t, ts[i] = t := ⟨_, rfl⟩
              obtain ⟨tq, tt⟩ := tk
              have hT := (HTW.out.below HB.out).cells (i + 1) (by simp; omega)
              have hge : (({ q := false, t := wt } : Tok) :: ts)[i + 1]'(by simp; omega) = ⟨tq, tt⟩ := htk
              rw [hge] at hT
              have l0 : wr.cell? ⟨lb, 3 + i * 3, none⟩ = some (.string ⟨tt.toArray⟩) := by rw [show 3 + i * 3 = (i + 1) * 3 by omega]; exact hT.1
              have l1 : wr.cell? ⟨lb, 3 + i * 3 + 1, none⟩ = some (.bool tq) := by rw [show 3 + i * 3 + 1 = (i + 1) * 3 + 1 by omega]; exact hT.2.1
              have l2 : wr.cell? ⟨lb, 3 + i * 3 + 2, none⟩ = some (.bool false) := by rw [show 3 + i * 3 + 2 = (i + 1) * 3 + 2 by omega]; exact hT.2.2
              have htl : tt.length ≤ 100000000 := HLEN.out ⟨tq, tt⟩ (by rw [← htk]; exact List.mem_cons_of_mem _ (List.getElem_mem _))
              have HPA : Hid (argsF fl ts s0 = match putF c ⟨tq, tt⟩ st with | none => none | some s' => argsF (fl.drop (i + 1)) (ts.drop (i + 1)) s') := by
                show _ = _
                rw [HA.out, List.drop_eq_getElem_cons (show i < fl.length by omega), List.drop_eq_getElem_cons hlt2, hcc, htk]
                rfl
              have hin : 0 ≤ (i : Int) ∧ (i : Int) < (ts.length : Int) := by omega
              obtain ⟨g2, k2⟩ := new_block wr (.cells #[.string ⟨tt.toArray⟩, .bool tq, .bool false] 54)
              have HB2 := Lib.hid (HB.out.trans (g2.mono HB.out.size))
              have HR2 := Lib.hid (stays HR.out g2)
              have HX2 := Lib.hid (stays HX.out g2)
              have HS2 := Lib.hid (stays HS.out g2)
              have HW2 := Lib.hid k2
              obtain ⟨p, hp⟩ : ∃ p, p = numF tt := ⟨_, rfl⟩
              clear hT hge htk hcc g2 k2
              go_upto_region 10 with (fail)
              obtain ⟨W2, hW2⟩ : ∃ W, W = (wr.alloc (.cells #[.string ⟨tt.toArray⟩, .bool tq, .bool false] 54)) := ⟨_, rfl⟩
              obtain ⟨wbx, hwbx⟩ : ∃ b, b = wr.heap.size := ⟨_, rfl⟩
              rw [← hwbx] at HW2 ⊢
              rw [← hW2] at HB2 HR2 HX2 HS2 HW2 ⊢
              clear l0 l1 l2 hW2 hwbx HB HR HX HS
              have x2 : W2.cell? ⟨xb, 2, none⟩ = some (.string fs) := (cell_of_row _ _ 2 _ _ _ HX2.out).trans rfl
              have w0 : W2.cell? ⟨wbx, 0, none⟩ = some (.string ⟨tt.toArray⟩) := (cell_of_row _ _ 0 _ _ _ HW2.out).trans rfl
              have w1 : W2.cell? ⟨wbx, 1, none⟩ = some (.bool tq) := (cell_of_row _ _ 1 _ _ _ HW2.out).trans rfl
              have w2 : W2.cell? ⟨wbx, 2, none⟩ = some (.bool false) := (cell_of_row _ _ 2 _ _ _ HW2.out).trans rfl
              rcases hlet with h | h | h | h | h | h
              · have hltf : ltF c = 97 := by rw [h]; decide
                rw [hltf] at hc
                subst h
                clear hltf
                have HNB := Lib.hid (number_any tq false tt W2 (HT.out.below HB2.out) (HEE.out.below HB2.out) htl)
                have HP := Lib.hid hp
                rw [← hp] at HNB
                clear hp
                go_wp2_with (fail)
                with_reducible refine HNB.out.mono ?_
                rintro e w3 ⟨n, b, rfl, ⟨hb, hbn⟩, hB3⟩
                have HB3 := Lib.hid (HB2.out.trans (hB3.mono HB2.out.size))
                have HR3 := Lib.hid (stays HR2.out hB3)
                have HX3 := Lib.hid (stays HX2.out hB3)
                have HS3 := Lib.hid (stays HS2.out hB3)
                have x23 : w3.cell? ⟨xb, 2, none⟩ = some (.string fs) := (cell_of_row _ _ 2 _ _ _ HX3.out).trans rfl
                clear HNB hB3 x2 w0 w1 w2
                cases b with
                | false =>
                  have HPN : Hid (putF 97 ⟨tq, tt⟩ st = none) := by
                    show _ = _
                    cases tq with
                    | true => rfl
                    | false =>
                      cases p with
                      | none => simp [putF, HP.out.symm]
                      | some m => simp at hb
                  clear hb hbn
                  have HE : Hid (stepF (⟨false, wt⟩ :: ts) = (zeroS, 31)) := by
                    have hput : putF 97 ⟨tq, tt⟩ st = none := HPN.out
                    have h := HPA.out
                    rw [hput] at h
                    exact step_31 HNZ.out HSL.out h
                  go_upto_region 16 with (fail)
                  refine wp_region_lit ?_
                  refine wpList_run (v := .agg (stepC zeroS)) (w' := w3) rfl (by kernel_rfl) ?_
                  refine wpList_skip (w' := (w3).setCells rb 0 (stepC zeroS).toList) rfl rfl (exec_store 35 _ _ rfl _ _ rfl rfl (run_store_row _ rb 0 _ _ 35 (stepC zeroS) HR3.out (by simp [stepC]) (by kernel_rfl) (by simp [stepC, Value.oneCell']))) ?_
                  refine wpList_run (v := .int .i64 31) (w' := (w3).setCells rb 0 (stepC zeroS).toList) rfl (by kernel_rfl) ?_
                  refine wpList_nil ?_
                  go_simp
                  go_wp2
                  have hst := setCells_block 35 rb (stepC zeroS).toList 0 _ _ HR3.out
                  exact bodyPost_ret (v := .tuple #[.agg (stepC zeroS), .int .i64 31]) (results_stp_any rfl rfl (by rfl) hst) rfl ⟨_, _, rfl, ⟨by rw [HE.out]; rfl, _, rfl, fun h => by rw [HE.out] at h; cases h⟩, setCells_below (by rw [HRB.out]; exact Nat.le_refl _) _ _ _ _ HB3.out⟩
                | true =>
                  have hpn := hbn rfl
                  have htq : tq = false := by
                    cases tq with
                    | false => rfl
                    | true => rw [Bool.not_true, Bool.and_false] at hb; cases hb
                  subst htq
                  have HP : Hid (numF tt = some n) := by show _ = _; rw [← HP.out]; exact hpn
                  clear hb hbn hpn
                  have HPU : Hid (argsF fl ts s0 = argsF (fl.drop (i + 1)) (ts.drop (i + 1)) ({ st with a := n })) := by
                    have hput : putF 97 ⟨false, tt⟩ st = some ({ st with a := n }) := by simp [putF, HP.out]
                    have h := HPA.out
                    rw [hput] at h
                    exact h
                  have hcs : (w3).cell? ⟨sb, 1, none⟩ = some (.int .i64 st.a) := (cell_of_row _ _ 1 _ _ _ HS3.out).trans rfl
                  have hfz2 : (w3).frozen? ⟨sb, 1, none⟩ = false := frozen_of_row _ _ _ _ _ HS3.out
                  go_wp2_with (fail)
                  go_roundw
                  case rel =>
                    refine ⟨i + 1, { st with a := n }, by omega, by go_num, ?_, ?_, ?_, ?_, HPU⟩
                    · exact Lib.hid (setCells_below HSB.out [.int .i64 n] 1 _ _ HB3.out)
                    · exact Lib.hid ((set_other _ _ _ _ _ HD1.out).trans HR3.out)
                    · exact Lib.hid ((set_other _ _ _ _ _ HD2.out).trans HX3.out)
                    · exact Lib.hid (set_block (w3) sb 1 _ _ (.int .i64 n) HS3.out)
                  case measure => simp [intOf] <;> omega
              · have hltf : ltF c = 98 := by rw [h]; decide
                rw [hltf] at hc
                subst h
                clear hltf
                have HNB := Lib.hid (number_any tq false tt W2 (HT.out.below HB2.out) (HEE.out.below HB2.out) htl)
                have HP := Lib.hid hp
                rw [← hp] at HNB
                clear hp
                go_wp2_with (fail)
                with_reducible refine HNB.out.mono ?_
                rintro e w3 ⟨n, b, rfl, ⟨hb, hbn⟩, hB3⟩
                have HB3 := Lib.hid (HB2.out.trans (hB3.mono HB2.out.size))
                have HR3 := Lib.hid (stays HR2.out hB3)
                have HX3 := Lib.hid (stays HX2.out hB3)
                have HS3 := Lib.hid (stays HS2.out hB3)
                have x23 : w3.cell? ⟨xb, 2, none⟩ = some (.string fs) := (cell_of_row _ _ 2 _ _ _ HX3.out).trans rfl
                clear HNB hB3 x2 w0 w1 w2
                cases b with
                | false =>
                  have HPN : Hid (putF 98 ⟨tq, tt⟩ st = none) := by
                    show _ = _
                    cases tq with
                    | true => rfl
                    | false =>
                      cases p with
                      | none => simp [putF, HP.out.symm]
                      | some m => simp at hb
                  clear hb hbn
                  have HE : Hid (stepF (⟨false, wt⟩ :: ts) = (zeroS, 31)) := by
                    have hput : putF 98 ⟨tq, tt⟩ st = none := HPN.out
                    have h := HPA.out
                    rw [hput] at h
                    exact step_31 HNZ.out HSL.out h
                  go_upto_region 16 with (fail)
                  refine wp_region_lit ?_
                  refine wpList_run (v := .agg (stepC zeroS)) (w' := w3) rfl (by kernel_rfl) ?_
                  refine wpList_skip (w' := (w3).setCells rb 0 (stepC zeroS).toList) rfl rfl (exec_store 35 _ _ rfl _ _ rfl rfl (run_store_row _ rb 0 _ _ 35 (stepC zeroS) HR3.out (by simp [stepC]) (by kernel_rfl) (by simp [stepC, Value.oneCell']))) ?_
                  refine wpList_run (v := .int .i64 31) (w' := (w3).setCells rb 0 (stepC zeroS).toList) rfl (by kernel_rfl) ?_
                  refine wpList_nil ?_
                  go_simp
                  go_wp2
                  have hst := setCells_block 35 rb (stepC zeroS).toList 0 _ _ HR3.out
                  exact bodyPost_ret (v := .tuple #[.agg (stepC zeroS), .int .i64 31]) (results_stp_any rfl rfl (by rfl) hst) rfl ⟨_, _, rfl, ⟨by rw [HE.out]; rfl, _, rfl, fun h => by rw [HE.out] at h; cases h⟩, setCells_below (by rw [HRB.out]; exact Nat.le_refl _) _ _ _ _ HB3.out⟩
                | true =>
                  have hpn := hbn rfl
                  have htq : tq = false := by
                    cases tq with
                    | false => rfl
                    | true => rw [Bool.not_true, Bool.and_false] at hb; cases hb
                  subst htq
                  have HP : Hid (numF tt = some n) := by show _ = _; rw [← HP.out]; exact hpn
                  clear hb hbn hpn
                  have HPU : Hid (argsF fl ts s0 = argsF (fl.drop (i + 1)) (ts.drop (i + 1)) ({ st with b := n })) := by
                    have hput : putF 98 ⟨false, tt⟩ st = some ({ st with b := n }) := by simp [putF, HP.out]
                    have h := HPA.out
                    rw [hput] at h
                    exact h
                  have hcs : (w3).cell? ⟨sb, 2, none⟩ = some (.int .i64 st.b) := (cell_of_row _ _ 2 _ _ _ HS3.out).trans rfl
                  have hfz2 : (w3).frozen? ⟨sb, 2, none⟩ = false := frozen_of_row _ _ _ _ _ HS3.out
                  go_wp2_with (fail)
                  go_roundw
                  case rel =>
                    refine ⟨i + 1, { st with b := n }, by omega, by go_num, ?_, ?_, ?_, ?_, HPU⟩
                    · exact Lib.hid (setCells_below HSB.out [.int .i64 n] 2 _ _ HB3.out)
                    · exact Lib.hid ((set_other _ _ _ _ _ HD1.out).trans HR3.out)
                    · exact Lib.hid ((set_other _ _ _ _ _ HD2.out).trans HX3.out)
                    · exact Lib.hid (set_block (w3) sb 2 _ _ (.int .i64 n) HS3.out)
                  case measure => simp [intOf] <;> omega
              · have hltf : ltF c = 113 := by rw [h]; decide
                rw [hltf] at hc
                subst h
                clear hltf
                cases tq with
                | true =>
                  have HPU : Hid (argsF fl ts s0 = argsF (fl.drop (i + 1)) (ts.drop (i + 1)) ({ st with name := tt })) := by
                    have hput : putF 115 ⟨true, tt⟩ st = some ({ st with name := tt }) := by rfl
                    have h := HPA.out
                    rw [hput] at h
                    exact h
                  have hcs : (W2).cell? ⟨sb, 3, none⟩ = some (.string ⟨st.name.toArray⟩) := (cell_of_row _ _ 3 _ _ _ HS2.out).trans rfl
                  have hfz2 : (W2).frozen? ⟨sb, 3, none⟩ = false := frozen_of_row _ _ _ _ _ HS2.out
                  go_wp2_with (fail)
                  go_roundw
                  case rel =>
                    refine ⟨i + 1, { st with name := tt }, by omega, by go_num, ?_, ?_, ?_, ?_, HPU⟩
                    · exact Lib.hid (setCells_below HSB.out [.string ⟨tt.toArray⟩] 3 _ _ HB2.out)
                    · exact Lib.hid ((set_other _ _ _ _ _ HD1.out).trans HR2.out)
                    · exact Lib.hid ((set_other _ _ _ _ _ HD2.out).trans HX2.out)
                    · exact Lib.hid (set_block (W2) sb 3 _ _ (.string ⟨tt.toArray⟩) HS2.out)
                  case measure => simp [intOf] <;> omega
                | false =>
                  have HE : Hid (stepF (⟨false, wt⟩ :: ts) = (zeroS, 31)) := by
                    have hput : putF 115 ⟨false, tt⟩ st = none := by rfl
                    have h := HPA.out
                    rw [hput] at h
                    exact step_31 HNZ.out HSL.out h
                  go_upto_region 12 with (fail)
                  refine wp_region_lit ?_
                  refine wpList_run (v := .agg (stepC zeroS)) (w' := W2) rfl (by kernel_rfl) ?_
                  refine wpList_skip (w' := (W2).setCells rb 0 (stepC zeroS).toList) rfl rfl (exec_store 35 _ _ rfl _ _ rfl rfl (run_store_row _ rb 0 _ _ 35 (stepC zeroS) HR2.out (by simp [stepC]) (by kernel_rfl) (by simp [stepC, Value.oneCell']))) ?_
                  refine wpList_run (v := .int .i64 31) (w' := (W2).setCells rb 0 (stepC zeroS).toList) rfl (by kernel_rfl) ?_
                  refine wpList_nil ?_
                  go_simp
                  go_wp2
                  have hst := setCells_block 35 rb (stepC zeroS).toList 0 _ _ HR2.out
                  exact bodyPost_ret (v := .tuple #[.agg (stepC zeroS), .int .i64 31]) (results_stp_any rfl rfl (by rfl) hst) rfl ⟨_, _, rfl, ⟨by rw [HE.out]; rfl, _, rfl, fun h => by rw [HE.out] at h; cases h⟩, setCells_below (by rw [HRB.out]; exact Nat.le_refl _) _ _ _ _ HB2.out⟩
              · have hltf : ltF c = 107 := by rw [h]; decide
                rw [hltf] at hc
                subst h
                clear hltf
                have HNB := Lib.hid (number_any tq false tt W2 (HT.out.below HB2.out) (HEE.out.below HB2.out) htl)
                have HP := Lib.hid hp
                rw [← hp] at HNB
                clear hp
                go_wp2_with (fail)
                with_reducible refine HNB.out.mono ?_
                rintro e w3 ⟨n, b, rfl, ⟨hb, hbn⟩, hB3⟩
                have HB3 := Lib.hid (HB2.out.trans (hB3.mono HB2.out.size))
                have HR3 := Lib.hid (stays HR2.out hB3)
                have HX3 := Lib.hid (stays HX2.out hB3)
                have HS3 := Lib.hid (stays HS2.out hB3)
                have x23 : w3.cell? ⟨xb, 2, none⟩ = some (.string fs) := (cell_of_row _ _ 2 _ _ _ HX3.out).trans rfl
                clear HNB hB3 x2 w0 w1 w2
                cases b with
                | false =>
                  have HPN : Hid (putF 107 ⟨tq, tt⟩ st = none) := by
                    show _ = _
                    cases tq with
                    | true => rfl
                    | false =>
                      cases p with
                      | none => simp [putF, HP.out.symm]
                      | some m => simp at hb
                  clear hb hbn
                  have HE : Hid (stepF (⟨false, wt⟩ :: ts) = (zeroS, 31)) := by
                    have hput : putF 107 ⟨tq, tt⟩ st = none := HPN.out
                    have h := HPA.out
                    rw [hput] at h
                    exact step_31 HNZ.out HSL.out h
                  go_upto_region 16 with (fail)
                  refine wp_region_lit ?_
                  refine wpList_run (v := .agg (stepC zeroS)) (w' := w3) rfl (by kernel_rfl) ?_
                  refine wpList_skip (w' := (w3).setCells rb 0 (stepC zeroS).toList) rfl rfl (exec_store 35 _ _ rfl _ _ rfl rfl (run_store_row _ rb 0 _ _ 35 (stepC zeroS) HR3.out (by simp [stepC]) (by kernel_rfl) (by simp [stepC, Value.oneCell']))) ?_
                  refine wpList_run (v := .int .i64 31) (w' := (w3).setCells rb 0 (stepC zeroS).toList) rfl (by kernel_rfl) ?_
                  refine wpList_nil ?_
                  go_simp
                  go_wp2
                  have hst := setCells_block 35 rb (stepC zeroS).toList 0 _ _ HR3.out
                  exact bodyPost_ret (v := .tuple #[.agg (stepC zeroS), .int .i64 31]) (results_stp_any rfl rfl (by rfl) hst) rfl ⟨_, _, rfl, ⟨by rw [HE.out]; rfl, _, rfl, fun h => by rw [HE.out] at h; cases h⟩, setCells_below (by rw [HRB.out]; exact Nat.le_refl _) _ _ _ _ HB3.out⟩
                | true =>
                  have hpn := hbn rfl
                  have htq : tq = false := by
                    cases tq with
                    | false => rfl
                    | true => rw [Bool.not_true, Bool.and_false] at hb; cases hb
                  subst htq
                  have HP : Hid (numF tt = some n) := by show _ = _; rw [← HP.out]; exact hpn
                  clear hb hbn hpn
                  have HPU : Hid (argsF fl ts s0 = argsF (fl.drop (i + 1)) (ts.drop (i + 1)) ({ st with k := n })) := by
                    have hput : putF 107 ⟨false, tt⟩ st = some ({ st with k := n }) := by simp [putF, HP.out]
                    have h := HPA.out
                    rw [hput] at h
                    exact h
                  have hcs : (w3).cell? ⟨sb, 4, none⟩ = some (.int .i64 st.k) := (cell_of_row _ _ 4 _ _ _ HS3.out).trans rfl
                  have hfz2 : (w3).frozen? ⟨sb, 4, none⟩ = false := frozen_of_row _ _ _ _ _ HS3.out
                  go_wp2_with (fail)
                  go_roundw
                  case rel =>
                    refine ⟨i + 1, { st with k := n }, by omega, by go_num, ?_, ?_, ?_, ?_, HPU⟩
                    · exact Lib.hid (setCells_below HSB.out [.int .i64 n] 4 _ _ HB3.out)
                    · exact Lib.hid ((set_other _ _ _ _ _ HD1.out).trans HR3.out)
                    · exact Lib.hid ((set_other _ _ _ _ _ HD2.out).trans HX3.out)
                    · exact Lib.hid (set_block (w3) sb 4 _ _ (.int .i64 n) HS3.out)
                  case measure => simp [intOf] <;> omega
              · have hltf : ltF c = 105 := by rw [h]; decide
                rw [hltf] at hc
                subst h
                clear hltf
                have HNB := Lib.hid (number_any tq false tt W2 (HT.out.below HB2.out) (HEE.out.below HB2.out) htl)
                have HP := Lib.hid hp
                rw [← hp] at HNB
                clear hp
                go_wp2_with (fail)
                with_reducible refine HNB.out.mono ?_
                rintro e w3 ⟨n, b, rfl, ⟨hb, hbn⟩, hB3⟩
                have HB3 := Lib.hid (HB2.out.trans (hB3.mono HB2.out.size))
                have HR3 := Lib.hid (stays HR2.out hB3)
                have HX3 := Lib.hid (stays HX2.out hB3)
                have HS3 := Lib.hid (stays HS2.out hB3)
                have x23 : w3.cell? ⟨xb, 2, none⟩ = some (.string fs) := (cell_of_row _ _ 2 _ _ _ HX3.out).trans rfl
                clear HNB hB3 x2 w0 w1 w2
                cases b with
                | false =>
                  have HPN : Hid (putF 110 ⟨tq, tt⟩ st = none) := by
                    show _ = _
                    cases tq with
                    | true => rfl
                    | false =>
                      cases p with
                      | none => simp [putF, HP.out.symm]
                      | some m => simp at hb
                  clear hb hbn
                  have HE : Hid (stepF (⟨false, wt⟩ :: ts) = (zeroS, 31)) := by
                    have hput : putF 110 ⟨tq, tt⟩ st = none := HPN.out
                    have h := HPA.out
                    rw [hput] at h
                    exact step_31 HNZ.out HSL.out h
                  go_upto_region 16 with (fail)
                  refine wp_region_lit ?_
                  refine wpList_run (v := .agg (stepC zeroS)) (w' := w3) rfl (by kernel_rfl) ?_
                  refine wpList_skip (w' := (w3).setCells rb 0 (stepC zeroS).toList) rfl rfl (exec_store 35 _ _ rfl _ _ rfl rfl (run_store_row _ rb 0 _ _ 35 (stepC zeroS) HR3.out (by simp [stepC]) (by kernel_rfl) (by simp [stepC, Value.oneCell']))) ?_
                  refine wpList_run (v := .int .i64 31) (w' := (w3).setCells rb 0 (stepC zeroS).toList) rfl (by kernel_rfl) ?_
                  refine wpList_nil ?_
                  go_simp
                  go_wp2
                  have hst := setCells_block 35 rb (stepC zeroS).toList 0 _ _ HR3.out
                  exact bodyPost_ret (v := .tuple #[.agg (stepC zeroS), .int .i64 31]) (results_stp_any rfl rfl (by rfl) hst) rfl ⟨_, _, rfl, ⟨by rw [HE.out]; rfl, _, rfl, fun h => by rw [HE.out] at h; cases h⟩, setCells_below (by rw [HRB.out]; exact Nat.le_refl _) _ _ _ _ HB3.out⟩
                | true =>
                  have hpn := hbn rfl
                  have htq : tq = false := by
                    cases tq with
                    | false => rfl
                    | true => rw [Bool.not_true, Bool.and_false] at hb; cases hb
                  subst htq
                  have HP : Hid (numF tt = some n) := by show _ = _; rw [← HP.out]; exact hpn
                  clear hb hbn hpn
                  have HPU : Hid (argsF fl ts s0 = argsF (fl.drop (i + 1)) (ts.drop (i + 1)) ({ st with n := n })) := by
                    have hput : putF 110 ⟨false, tt⟩ st = some ({ st with n := n }) := by simp [putF, HP.out]
                    have h := HPA.out
                    rw [hput] at h
                    exact h
                  have hcs : (w3).cell? ⟨sb, 5, none⟩ = some (.int .i64 st.n) := (cell_of_row _ _ 5 _ _ _ HS3.out).trans rfl
                  have hfz2 : (w3).frozen? ⟨sb, 5, none⟩ = false := frozen_of_row _ _ _ _ _ HS3.out
                  go_wp2_with (fail)
                  go_roundw
                  case rel =>
                    refine ⟨i + 1, { st with n := n }, by omega, by go_num, ?_, ?_, ?_, ?_, HPU⟩
                    · exact Lib.hid (setCells_below HSB.out [.int .i64 n] 5 _ _ HB3.out)
                    · exact Lib.hid ((set_other _ _ _ _ _ HD1.out).trans HR3.out)
                    · exact Lib.hid ((set_other _ _ _ _ _ HD2.out).trans HX3.out)
                    · exact Lib.hid (set_block (w3) sb 5 _ _ (.int .i64 n) HS3.out)
                  case measure => simp [intOf] <;> omega
              · have hltf : ltF c = 112 := by rw [h]; decide
                rw [hltf] at hc
                subst h
                clear hltf
                have HNB := Lib.hid (number_any tq false tt W2 (HT.out.below HB2.out) (HEE.out.below HB2.out) htl)
                have HP := Lib.hid hp
                rw [← hp] at HNB
                clear hp
                go_wp2_with (fail)
                with_reducible refine HNB.out.mono ?_
                rintro e w3 ⟨n, b, rfl, ⟨hb, hbn⟩, hB3⟩
                have HB3 := Lib.hid (HB2.out.trans (hB3.mono HB2.out.size))
                have HR3 := Lib.hid (stays HR2.out hB3)
                have HX3 := Lib.hid (stays HX2.out hB3)
                have HS3 := Lib.hid (stays HS2.out hB3)
                have x23 : w3.cell? ⟨xb, 2, none⟩ = some (.string fs) := (cell_of_row _ _ 2 _ _ _ HX3.out).trans rfl
                clear HNB hB3 x2 w0 w1 w2
                cases b with
                | false =>
                  have HPN : Hid (putF 109 ⟨tq, tt⟩ st = none) := by
                    show _ = _
                    cases tq with
                    | true => rfl
                    | false =>
                      cases p with
                      | none => simp [putF, HP.out.symm]
                      | some m => simp at hb
                  clear hb hbn
                  have HE : Hid (stepF (⟨false, wt⟩ :: ts) = (zeroS, 31)) := by
                    have hput : putF 109 ⟨tq, tt⟩ st = none := HPN.out
                    have h := HPA.out
                    rw [hput] at h
                    exact step_31 HNZ.out HSL.out h
                  go_upto_region 16 with (fail)
                  refine wp_region_lit ?_
                  refine wpList_run (v := .agg (stepC zeroS)) (w' := w3) rfl (by kernel_rfl) ?_
                  refine wpList_skip (w' := (w3).setCells rb 0 (stepC zeroS).toList) rfl rfl (exec_store 35 _ _ rfl _ _ rfl rfl (run_store_row _ rb 0 _ _ 35 (stepC zeroS) HR3.out (by simp [stepC]) (by kernel_rfl) (by simp [stepC, Value.oneCell']))) ?_
                  refine wpList_run (v := .int .i64 31) (w' := (w3).setCells rb 0 (stepC zeroS).toList) rfl (by kernel_rfl) ?_
                  refine wpList_nil ?_
                  go_simp
                  go_wp2
                  have hst := setCells_block 35 rb (stepC zeroS).toList 0 _ _ HR3.out
                  exact bodyPost_ret (v := .tuple #[.agg (stepC zeroS), .int .i64 31]) (results_stp_any rfl rfl (by rfl) hst) rfl ⟨_, _, rfl, ⟨by rw [HE.out]; rfl, _, rfl, fun h => by rw [HE.out] at h; cases h⟩, setCells_below (by rw [HRB.out]; exact Nat.le_refl _) _ _ _ _ HB3.out⟩
                | true =>
                  have hpn := hbn rfl
                  have htq : tq = false := by
                    cases tq with
                    | false => rfl
                    | true => rw [Bool.not_true, Bool.and_false] at hb; cases hb
                  subst htq
                  have HP : Hid (numF tt = some n) := by show _ = _; rw [← HP.out]; exact hpn
                  clear hb hbn hpn
                  by_cases hn : n < 0
                  · have HE : Hid (stepF (⟨false, wt⟩ :: ts) = (zeroS, 31)) := by
                      have hput : putF 109 ⟨false, tt⟩ st = none := by simp [putF, HP.out, hn]
                      have h := HPA.out
                      rw [hput] at h
                      exact step_31 HNZ.out HSL.out h
                    go_upto_region 16 with (fail)
                    refine wp_region_lit ?_
                    refine wpList_run (v := .agg (stepC zeroS)) (w' := w3) rfl (by kernel_rfl) ?_
                    refine wpList_skip (w' := (w3).setCells rb 0 (stepC zeroS).toList) rfl rfl (exec_store 35 _ _ rfl _ _ rfl rfl (run_store_row _ rb 0 _ _ 35 (stepC zeroS) HR3.out (by simp [stepC]) (by kernel_rfl) (by simp [stepC, Value.oneCell']))) ?_
                    refine wpList_run (v := .int .i64 31) (w' := (w3).setCells rb 0 (stepC zeroS).toList) rfl (by kernel_rfl) ?_
                    refine wpList_nil ?_
                    go_simp
                    go_wp2
                    have hst := setCells_block 35 rb (stepC zeroS).toList 0 _ _ HR3.out
                    exact bodyPost_ret (v := .tuple #[.agg (stepC zeroS), .int .i64 31]) (results_stp_any rfl rfl (by rfl) hst) rfl ⟨_, _, rfl, ⟨by rw [HE.out]; rfl, _, rfl, fun h => by rw [HE.out] at h; cases h⟩, setCells_below (by rw [HRB.out]; exact Nat.le_refl _) _ _ _ _ HB3.out⟩
                  · have HPU : Hid (argsF fl ts s0 = argsF (fl.drop (i + 1)) (ts.drop (i + 1)) ({ st with n := n })) := by
                      have hput : putF 109 ⟨false, tt⟩ st = some ({ st with n := n }) := by simp [putF, HP.out, hn]
                      have h := HPA.out
                      rw [hput] at h
                      exact h
                    have hcs : (w3).cell? ⟨sb, 5, none⟩ = some (.int .i64 st.n) := (cell_of_row _ _ 5 _ _ _ HS3.out).trans rfl
                    have hfz2 : (w3).frozen? ⟨sb, 5, none⟩ = false := frozen_of_row _ _ _ _ _ HS3.out
                    go_wp2_with (fail)
                    go_roundw
                    case rel =>
                      refine ⟨i + 1, { st with n := n }, by omega, by go_num, ?_, ?_, ?_, ?_, HPU⟩
                      · exact Lib.hid (setCells_below HSB.out [.int .i64 n] 5 _ _ HB3.out)
                      · exact Lib.hid ((set_other _ _ _ _ _ HD1.out).trans HR3.out)
                      · exact Lib.hid ((set_other _ _ _ _ _ HD2.out).trans HX3.out)
                      · exact Lib.hid (set_block (w3) sb 5 _ _ (.int .i64 n) HS3.out)
                    case measure => simp [intOf] <;> omega
            · obtain rfl : i = ts.length := by omega
              have HE : Hid (stepF (⟨false, wt⟩ :: ts) = (st, 0)) := step_0 HNZ.out HSL.out (by rw [HA.out, List.drop_eq_nil_of_le (by omega), List.drop_eq_nil_of_le (by omega)]; rfl)
              go_upto_region 26 with (fail)
              refine wp_region_lit ?_
              refine wpList_run (w' := wr) rfl (exec_load_row 35 _ rfl sb _ _ (.struct (Tryd.prog.fieldsOf 35)) rfl HS.out (by kernel_rfl) rfl (by kernel_rfl)) ?_
              refine wpList_skip (w' := wr.setCells rb 0 (stepC st).toList) rfl rfl (exec_store 35 _ _ rfl _ _ rfl rfl (run_store_row _ rb 0 _ _ 35 (stepC st) HR.out (by simp [stepC]) (by kernel_rfl) (by simp [stepC, Value.oneCell']))) ?_
              refine wpList_run (v := .int .i64 0) (w' := wr.setCells rb 0 (stepC st).toList) rfl (by kernel_rfl) ?_
              refine wpList_nil ?_
              go_simp
              go_wp2
              have hst := setCells_block 35 rb (stepC st).toList 0 _ _ HR.out
              exact bodyPost_ret (v := .tuple #[.agg (stepC st), .int .i64 0]) (results_stp_any rfl rfl (by rfl) hst) rfl ⟨_, _, rfl, ⟨by rw [HE.out]; rfl, _, rfl, fun _ => by rw [HE.out]⟩, setCells_below (by rw [HRB.out]; exact Nat.le_refl _) _ _ _ _ HB.out⟩
      · have hln : ¬ ((ts.length + 1 : Nat) : Int) - 1 = (fs.size : Int) := by omega
        have HE : Hid (stepF (⟨false, wt⟩ :: ts) = (zeroS, 31)) := by
          show (if false = true ∨ kindF wt = 0 then _ else if (shapeF (kindF wt)).length ≠ ts.length then _ else _) = _
          rw [if_neg (by simp; exact HNZ.out), if_pos (by rw [HFL.out.1]; exact hl)]
        go_upto_region 5 with (fail)
        refine wp_region_lit ?_
        refine wpList_run (v := .agg (stepC zeroS)) (w' := w1.alloc (.cells #[.int .i64 kk, .string ⟨wt.toArray⟩, .string fs] 63)) rfl (by kernel_rfl) ?_
        refine wpList_skip (w' := (w1.alloc (.cells #[.int .i64 kk, .string ⟨wt.toArray⟩, .string fs] 63)).setCells rb 0 (stepC zeroS).toList) rfl rfl (exec_store 35 _ _ rfl _ _ rfl rfl (run_store_row _ rb 0 _ _ 35 (stepC zeroS) HR3.out (by simp [stepC]) (by kernel_rfl) (by simp [stepC, Value.oneCell']))) ?_
        refine wpList_run (v := .int .i64 31) (w' := (w1.alloc (.cells #[.int .i64 kk, .string ⟨wt.toArray⟩, .string fs] 63)).setCells rb 0 (stepC zeroS).toList) rfl (by kernel_rfl) ?_
        refine wpList_nil ?_
        go_simp
        go_wp2
        have hst := setCells_block 35 rb (stepC zeroS).toList 0 _ _ HR3.out
        exact bodyPost_ret (v := .tuple #[.agg (stepC zeroS), .int .i64 31]) (results_stp_any rfl rfl (by rfl) hst) rfl ⟨_, _, rfl, ⟨by rw [HE.out]; rfl, _, rfl, fun h => by rw [HE.out] at h; cases h⟩, setCells_below (by rw [HRB.out]; exact Nat.le_refl _) _ _ _ _ HB3.out⟩

end Go.Proofs.YtaeoghagpeihkaaDoor

