/- The document's step (by program: wip/tools/gen_sstep.py). -/
import Derived.Test.YtaeoghagpeihkaaDoorSG
import Derived.Test.YtaeoghagpeihkaaDoorSA
set_option linter.unusedSimpArgs false
set_option linter.unusedVariables false
namespace Go.Proofs.YtaeoghagpeihkaaDoor
open Go.RowKit

def stepC (s : Stp) : Array Value := #[.int .i64 s.kind, .int .i64 s.a, .int .i64 s.b, .string ⟨s.name.toArray⟩, .int .i64 s.k, .int .i64 s.n]
/-- what step answers -/
def StepR (p : Stp × Nat) (cs : Array Value) (e : Int) : Prop := e = (p.2 : Int) ∧ ∃ s, cs = stepC s ∧ (p.2 = 0 → s = p.1)
/-- a row of words in memory -/
def TokAt (w : World) (lb : Nat) (ts : List Tok) : Prop := ∃ cur : Array Value, w.heap[lb]? = some (.cells cur 90 (0, 0)) ∧ ∀ (j : Nat) (c : Value), (ts.flatMap tokC)[j]? = some c → cur[j]? = some c
theorem TokAt.below {w w' : World} {lb : Nat} {ts : List Tok} (h : TokAt w lb ts) (hb : Below w.heap.size w w') : TokAt w' lb ts := by
  obtain ⟨cur, h1, h2⟩ := h
  exact ⟨cur, stays h1 hb, h2⟩
theorem tok_at {w : World} {B : Nat} {v : Value} {ts : List Tok} (h : w.ownsRow B 90 2 v ts.length (ts.flatMap tokC)) (hne : ts ≠ []) : ∃ lb cap, v = .slice (some ⟨lb, 0, none⟩) ts.length cap ∧ ts.length ≤ cap ∧ TokAt w lb ts := by
  obtain ⟨h1, ⟨-, h0⟩ | ⟨g, cap, cur, rfl, -, hg, hc, -, -, hx⟩⟩ := h
  · exact absurd (List.eq_nil_of_length_eq_zero h0) hne
  · refine ⟨g, cap, rfl, hc, cur, hg, fun j c hj => ?_⟩
    rw [← hx, List.getElem?_take] at hj
    split at hj
    · simpa using hj
    · cases hj
theorem tok_flat0 : ∀ (ts : List Tok) (i : Nat) (h : i < ts.length), (ts.flatMap tokC)[i * 2]? = some (.bool ts[i].q) ∧ (ts.flatMap tokC)[i * 2 + 1]? = some (.string ⟨ts[i].t.toArray⟩) := by
  intro ts
  induction ts with
  | nil => intro i h; cases h
  | cons t r ih =>
    intro i h
    cases i with
    | zero => exact ⟨rfl, rfl⟩
    | succ i =>
      have := ih i (by simpa using h)
      rw [List.flatMap_cons, show (i + 1) * 2 = i * 2 + 1 + 1 by omega]
      exact ⟨by simpa [tokC] using this.1, by simpa [tokC] using this.2⟩
theorem TokAt.cells {w : World} {lb : Nat} {ts : List Tok} (h : TokAt w lb ts) (i : Nat) (hi : i < ts.length) : w.cell? ⟨lb, i * 2, none⟩ = some (.bool ts[i].q) ∧ w.cell? ⟨lb, i * 2 + 1, none⟩ = some (.string ⟨ts[i].t.toArray⟩) := by
  obtain ⟨cur, h1, h2⟩ := h
  have h3 := tok_flat0 ts i hi
  exact ⟨(cell_of_row _ _ _ _ _ _ h1).trans (h2 _ _ h3.1), (cell_of_row _ _ _ _ _ _ h1).trans (h2 _ _ h3.2)⟩
theorem kind_range (t : List UInt8) : 0 ≤ kindF t ∧ kindF t ≤ 15 := by
  rcases kindF_cases t with h | ⟨-, h⟩
  · omega
  · have := wordF_kind h
    omega
theorem kind_iff {t : List UInt8} {k : Nat} (h1 : 1 ≤ k) (h2 : k < 16) : wordF (k : Int) = t ↔ kindF t = (k : Int) := by
  constructor
  · rintro rfl
    have h := word_small (k - 1) (by omega)
    rw [show ((k - 1 : Nat) : Int) + 1 = (k : Int) by omega] at h
    exact h.2
  · intro e
    rcases kindF_cases t with h | ⟨h, -⟩
    · omega
    · rw [e] at h; exact h
theorem shape_all (k : Int) : (shapeF k).length ≤ 4 ∧ ∀ c ∈ shapeF k, c = 97 ∨ c = 98 ∨ c = 115 ∨ c = 107 ∨ c = 110 ∨ c = 109 := by
  by_cases h : 1 ≤ k ∧ k ≤ 15
  · rcases (show k = 1 ∨ k = 2 ∨ k = 3 ∨ k = 4 ∨ k = 5 ∨ k = 6 ∨ k = 7 ∨ k = 8 ∨ k = 9 ∨ k = 10 ∨ k = 11 ∨ k = 12 ∨ k = 13 ∨ k = 14 ∨ k = 15 by omega) with rfl | rfl | rfl | rfl | rfl | rfl | rfl | rfl | rfl | rfl | rfl | rfl | rfl | rfl | rfl <;> decide
  · have e : shapeF k = [] := by
      unfold shapeF
      rw [if_neg (by omega), if_neg (by omega), if_neg (by omega), if_neg (by omega), if_neg (by omega), if_neg (by omega), if_neg (by omega), if_neg (by omega), if_neg (by omega), if_neg (by omega), if_neg (by omega), if_neg (by omega), if_neg (by omega), if_neg (by omega), if_neg (by omega)]
    rw [e]
    exact ⟨by decide, fun c hc => by cases hc⟩
theorem shape_len (k : Int) : (shapeF k).length ≤ 4 := (shape_all k).1
/-- the kind found among those below k -/
def kAt (w0 : Tok) (k : Nat) : Int := if w0.q = true then 0 else if kindF w0.t < (k : Int) then kindF w0.t else 0
theorem kAt_nil (m : Nat) : kAt ⟨false, []⟩ m = 0 := by
  unfold kAt
  rw [show kindF [] = 0 by decide]
  split
  · rfl
  · split <;> rfl
set_option maxRecDepth 100000 in
theorem results_step_any {rb : Nat} {c : Value} {cs : Array Value} {W : World} {tmps : Array Value} (h2 : tmps.getD 2 undef = .pointer (some ⟨rb, 0, none⟩)) (h3 : tmps.getD 3 undef = c) (hs : cs.size = 6 := by rfl) (h : W.heap[rb]? = some (.cells cs 35 (0, 0))) : (results Tryd.f25 tmps).run Tryd.prog W = .ok (.tuple #[.agg cs, c]) W := by
  rw [results_cell_tmp (p := 2) (u := 3) (ty := 35) Tryd.results25, h2, h3]
  have hl := run_loadVar_row (P := Tryd.prog) W rb 35 35 cs (0, 0) (.struct (Tryd.prog.fieldsOf 35)) h (by kernel_rfl) rfl (by rw [hs]; kernel_rfl)
  show ((loadVar 35 ⟨rb, 0, none⟩).run Tryd.prog W).andThen _ = _
  rw [hl]
  rfl

theorem step_31 {wt : List UInt8} {ts : List Tok} {fl : List UInt8} {s0 : Stp} (h0 : ¬ kindF wt = 0) (h1 : (shapeF (kindF wt)).length = ts.length ∧ shapeF (kindF wt) = fl ∧ s0 = ⟨kindF wt, 0, 0, [], 0, 0⟩) (h2 : argsF fl ts s0 = none) : stepF (⟨false, wt⟩ :: ts) = (zeroS, 31) := by
  obtain ⟨h1, rfl, rfl⟩ := h1
  show (if false = true ∨ kindF wt = 0 then _ else if (shapeF (kindF wt)).length ≠ ts.length then _ else match argsF (shapeF (kindF wt)) ts ⟨kindF wt, 0, 0, [], 0, 0⟩ with | none => _ | some s => _) = _
  rw [if_neg (by simp; exact h0), if_neg (by simp; exact h1), h2]
theorem step_0 {wt : List UInt8} {ts : List Tok} {fl : List UInt8} {s0 st : Stp} (h0 : ¬ kindF wt = 0) (h1 : (shapeF (kindF wt)).length = ts.length ∧ shapeF (kindF wt) = fl ∧ s0 = ⟨kindF wt, 0, 0, [], 0, 0⟩) (h2 : argsF fl ts s0 = some st) : stepF (⟨false, wt⟩ :: ts) = (st, 0) := by
  obtain ⟨h1, rfl, rfl⟩ := h1
  show (if false = true ∨ kindF wt = 0 then _ else if (shapeF (kindF wt)).length ≠ ts.length then _ else match argsF (shapeF (kindF wt)) ts ⟨kindF wt, 0, 0, [], 0, 0⟩ with | none => _ | some s => _) = _
  rw [if_neg (by simp; exact h0), if_neg (by simp; exact h1), h2]

set_option maxRecDepth 100000 in
set_option maxHeartbeats 8000000 in
theorem rstep_any (w0 : Tok) (ts : List Tok) (lb cap : Nat) (w : World) (hcap : ts.length + 1 ≤ cap ∧ ts.length ≤ 100000000) (hT : TokAt w lb (w0 :: ts)) (hlen : ∀ t ∈ w0 :: ts, t.t.length ≤ 100000000) : Calls Tryd.prog 25 #[(.slice (some ⟨lb, 0, none⟩) (ts.length + 1) cap)] w fun e w' => ∃ cs er, e = .returned (.tuple #[.agg cs, .int .i64 er]) ∧ StepR (stepF (w0 :: ts)) cs er ∧ Below w.heap.size w w' := by
  obtain ⟨g1, j1⟩ := new_block w (.cells (stepC zeroS) 35)
  obtain ⟨g2, j2⟩ := new_block (w.alloc (.cells (stepC zeroS) 35)) (.cells (stepC zeroS) 35)
  have HB0 := Lib.hid (g1.trans (g2.mono g1.size))
  have HR0 := Lib.hid (stays j1 g2)
  have HS0 := Lib.hid j2
  have hsz : (w.alloc (.cells (stepC zeroS) 35)).heap.size = w.heap.size + 1 := by show (Array.push _ _).size = _; exact Array.size_push _
  have HT := Lib.hid hT
  have HLEN := Lib.hid hlen
  have hcap1 : ts.length + 1 ≤ cap := hcap.1
  have hcap2 : ts.length ≤ 100000000 := hcap.2
  rw [hsz] at HS0
  clear g1 g2 j1 j2 hT hlen hsz hcap
  go_enter Tryd.func25, Tryd.ntmps25
  go_wp2_with (fail)
  obtain ⟨rb, hrb⟩ : ∃ b, b = w.heap.size := ⟨_, rfl⟩
  obtain ⟨sb, hsb⟩ : ∃ b, b = w.heap.size + 1 := ⟨_, rfl⟩
  rw [← hsb] at HS0
  rw [← hrb] at HR0
  have HRB := Lib.hid hrb
  have HSB := Lib.hid hsb
  rw [← hsb, ← hrb]
  clear hrb hsb
  obtain ⟨q, wt⟩ := w0
  go_loopw [5] (fun iv wr => ∃ k : Nat, 1 ≤ k ∧ k ≤ 16 ∧ iv = .int .i64 (k : Int) ∧ Hid (Below w.heap.size w wr) ∧ Hid (wr.heap[rb]? = some (.cells (stepC zeroS) 35 (0, 0))) ∧ Hid (wr.heap[sb]? = some (.cells (stepC ⟨kAt ⟨q, wt⟩ k, 0, 0, [], 0, 0⟩) 35 (0, 0)))) (fun iv _ => 16 - (intOf iv).toNat)
  case atStart =>
    have hk1 : kAt ⟨q, wt⟩ 1 = 0 := by
      unfold kAt
      have := kind_range wt
      split
      · rfl
      · split
        · show kindF wt = 0; rename_i h; have h : kindF wt < ((1 : Nat) : Int) := h; omega
        · rfl
    exact ⟨1, Nat.le_refl _, by omega, rfl, HB0.out, HR0.out, by show _ = _; rw [hk1]; exact HS0.out⟩
  case round =>
    obtain ⟨k, hk1, hk, rfl, HB, HR, HS⟩ := hrel
    have hT := HT.out.below HB.out
    have hc := hT.cells 0 (by simp)
    have HC0 : Hid (wr.cell? ⟨lb, 0, none⟩ = some (.bool q)) := hc.1
    have HC1 : Hid (wr.cell? ⟨lb, 1, none⟩ = some (.string ⟨wt.toArray⟩)) := hc.2
    clear hT hc
    by_cases hlt : k < 16
    · cases q with
      | true =>
        go_upto_region 5 with (fail)
        refine wpIn_wide (n := 5).1 (wpIn_flowM (F0 := Fence.wide) (n0 := 5) (fun _ => trivial) (fun h => by cases h) (by kernel_rfl) (by kernel_rfl) 21 21 (by kernel_rfl) (fun j => ([0, 1, 2, 3, 4, 5, 6, 7, 8, 9, 10, 11, 12, 13, 14, 15, 16, 17, 18, 19, 20] : List Nat).getD j 0) (fun j => ([16, 17, 18, 19, 20, 21, 22, 23, 24, 25, 26, 27, 28, 29, 30, 31, 32, 33, 34, 35, 36] : List Nat).getD j 0) (by kernel_rfl) (by kernel_rfl) (by kernel_rfl) (by kernel_rfl) (by kernel_rfl) (by kernel_rfl) (by kernel_rfl) (fun j zv => ([(fun zv => zv = (.slice (some ⟨lb, 0, none⟩) (ts.length + 1) cap)), (fun zv => zv = (.pointer (some ⟨lb, 0, none⟩))), (fun zv => zv = (.pointer (some ⟨lb, 0, none⟩))), (fun zv => zv = (.bool true)), (fun zv => zv = (.bool false)), (fun zv => zv = (.bool false)), (fun zv => zv = undef), (fun zv => zv = undef), (fun zv => zv = undef), (fun zv => zv = undef), (fun zv => zv = undef), (fun zv => zv = (.bool false)), (fun zv => zv = (.bool false)), (fun zv => zv = undef), (fun zv => zv = undef), (fun zv => zv = undef), (fun zv => zv = undef), (fun zv => zv = undef), (fun zv => zv = undef), (fun zv => zv = undef), (fun zv => zv = (.bool false))] : List (Value → Prop)).getD j (fun _ => True) zv) (fun _ _ W => W = wr.drew) ?h0z ?stepz ?finz)
        case h0z => exact fun _ => rfl
        case stepz =>
          intro i o a W d vs hi ho hdi hJ hf hr hF
          replace hi : i < 21 := hi
          rcases (show i = 0 ∨ i = 1 ∨ i = 2 ∨ i = 3 ∨ i = 4 ∨ i = 5 ∨ i = 6 ∨ i = 7 ∨ i = 8 ∨ i = 9 ∨ i = 10 ∨ i = 11 ∨ i = 12 ∨ i = 13 ∨ i = 14 ∨ i = 15 ∨ i = 16 ∨ i = 17 ∨ i = 18 ∨ i = 19 ∨ i = 20 by omega) with rfl | rfl | rfl | rfl | rfl | rfl | rfl | rfl | rfl | rfl | rfl | rfl | rfl | rfl | rfl | rfl | rfl | rfl | rfl | rfl | rfl
          · replace ho := op_at ho (by rfl)
            subst ho
            have f0 : a.tmps.getD 0 undef = (.slice (some ⟨lb, 0, none⟩) (ts.length + 1) cap) := hf 0 (by kernel_rfl)
            exact .inl ⟨(fun k b h => by cases h), .inl ⟨0, by decide, rfl, (.slice (some ⟨lb, 0, none⟩) (ts.length + 1) cap), W, (by simp [go_sem, Act.eval, f0]), rfl, hJ⟩⟩
          · replace ho := op_at ho (by rfl)
            subst ho
            have d0 : a.tmps.getD 16 undef = (.slice (some ⟨lb, 0, none⟩) (ts.length + 1) cap) := by have h1 := hF 0 (by decide) (hr 0 (by kernel_rfl)); exact h1.2.trans h1.1
            exact .inl ⟨(fun k b h => by cases h), .inl ⟨1, by decide, rfl, (.pointer (some ⟨lb, 0, none⟩)), W, (by simp [go_sem, Act.eval, d0]), rfl, hJ⟩⟩
          · replace ho := op_at ho (by rfl)
            subst ho
            have d1 : a.tmps.getD 17 undef = (.pointer (some ⟨lb, 0, none⟩)) := by have h1 := hF 1 (by decide) (hr 1 (by kernel_rfl)); exact h1.2.trans h1.1
            exact .inl ⟨(fun k b h => by cases h), .inl ⟨2, by decide, rfl, (.pointer (some ⟨lb, 0, none⟩)), W, (by simp [go_sem, Act.eval, d1]), rfl, hJ⟩⟩
          · replace ho := op_at ho (by rfl)
            subst ho
            have d2 : a.tmps.getD 18 undef = (.pointer (some ⟨lb, 0, none⟩)) := by have h1 := hF 2 (by decide) (hr 2 (by kernel_rfl)); exact h1.2.trans h1.1
            exact .inl ⟨(fun k b h => by cases h), .inl ⟨3, by decide, rfl, (.bool true), W, (by subst hJ; have hc := HC0.out; simp [go_sem, Act.eval, d2, hc]), rfl, hJ⟩⟩
          · replace ho := op_at ho (by rfl)
            subst ho
            have d3 : a.tmps.getD 19 undef = (.bool true) := by have h1 := hF 3 (by decide) (hr 3 (by kernel_rfl)); exact h1.2.trans h1.1
            exact .inl ⟨(fun k b h => by cases h), .inl ⟨4, by decide, rfl, (.bool false), W, (by simp [go_sem, Act.eval, d3]), rfl, hJ⟩⟩
          · replace ho := op_at ho (by rfl)
            subst ho
            have d4 : a.tmps.getD 20 undef = (.bool false) := by have h1 := hF 4 (by decide) (hr 4 (by kernel_rfl)); exact h1.2.trans h1.1
            exact .inl ⟨(fun k b h => by cases h), .inl ⟨5, by decide, rfl, (.bool false), W, (by simp [go_sem, Act.eval, d4]), rfl, hJ⟩⟩
          · replace ho := op_at ho (by rfl)
            subst ho
            have d5 : a.tmps.getD 21 undef = (.bool false) := by have h1 := hF 5 (by decide) (hr 5 (by kernel_rfl)); exact h1.2.trans h1.1
            exact .inr ⟨5, true, 5, rfl, by decide, rfl, (fun hc => by have hc2 := d5.symm.trans hc; first | (cases hc2; done) | simp [undef] at hc2), .inl ⟨6, by decide, rfl, rfl, hJ⟩⟩
          · replace ho := op_at ho (by rfl)
            subst ho
            have d5 : a.tmps.getD 21 undef = (.bool false) := by have h1 := hF 5 (by decide) (hr 5 (by kernel_rfl)); exact h1.2.trans h1.1
            exact .inr ⟨5, true, 5, rfl, by decide, rfl, (fun hc => by have hc2 := d5.symm.trans hc; first | (cases hc2; done) | simp [undef] at hc2), .inl ⟨7, by decide, rfl, rfl, hJ⟩⟩
          · replace ho := op_at ho (by rfl)
            subst ho
            have d5 : a.tmps.getD 21 undef = (.bool false) := by have h1 := hF 5 (by decide) (hr 5 (by kernel_rfl)); exact h1.2.trans h1.1
            exact .inr ⟨5, true, 5, rfl, by decide, rfl, (fun hc => by have hc2 := d5.symm.trans hc; first | (cases hc2; done) | simp [undef] at hc2), .inl ⟨8, by decide, rfl, rfl, hJ⟩⟩
          · replace ho := op_at ho (by rfl)
            subst ho
            have d5 : a.tmps.getD 21 undef = (.bool false) := by have h1 := hF 5 (by decide) (hr 5 (by kernel_rfl)); exact h1.2.trans h1.1
            exact .inr ⟨5, true, 5, rfl, by decide, rfl, (fun hc => by have hc2 := d5.symm.trans hc; first | (cases hc2; done) | simp [undef] at hc2), .inl ⟨9, by decide, rfl, rfl, hJ⟩⟩
          · replace ho := op_at ho (by rfl)
            subst ho
            have d5 : a.tmps.getD 21 undef = (.bool false) := by have h1 := hF 5 (by decide) (hr 5 (by kernel_rfl)); exact h1.2.trans h1.1
            exact .inr ⟨5, true, 5, rfl, by decide, rfl, (fun hc => by have hc2 := d5.symm.trans hc; first | (cases hc2; done) | simp [undef] at hc2), .inl ⟨10, by decide, rfl, rfl, hJ⟩⟩
          · replace ho := op_at ho (by rfl)
            subst ho
            have d5 : a.tmps.getD 21 undef = (.bool false) := by have h1 := hF 5 (by decide) (hr 5 (by kernel_rfl)); exact h1.2.trans h1.1
            have d10 : a.tmps.getD 26 undef = undef := by have h1 := hF 10 (by decide) (hr 10 (by kernel_rfl)); exact h1.2.trans h1.1
            exact .inl ⟨(fun k b h => by cases h), .inl ⟨11, by decide, rfl, (.bool false), W, (by simp [go_sem, Act.eval, d5, d10]), rfl, hJ⟩⟩
          · replace ho := op_at ho (by rfl)
            subst ho
            have d11 : a.tmps.getD 27 undef = (.bool false) := by have h1 := hF 11 (by decide) (hr 11 (by kernel_rfl)); exact h1.2.trans h1.1
            exact .inl ⟨(fun k b h => by cases h), .inl ⟨12, by decide, rfl, (.bool false), W, (by simp [go_sem, Act.eval, d11]), rfl, hJ⟩⟩
          · replace ho := op_at ho (by rfl)
            subst ho
            have d12 : a.tmps.getD 28 undef = (.bool false) := by have h1 := hF 12 (by decide) (hr 12 (by kernel_rfl)); exact h1.2.trans h1.1
            exact .inr ⟨12, true, 12, rfl, by decide, rfl, (fun hc => by have hc2 := d12.symm.trans hc; first | (cases hc2; done) | simp [undef] at hc2), .inl ⟨13, by decide, rfl, rfl, hJ⟩⟩
          · replace ho := op_at ho (by rfl)
            subst ho
            have d12 : a.tmps.getD 28 undef = (.bool false) := by have h1 := hF 12 (by decide) (hr 12 (by kernel_rfl)); exact h1.2.trans h1.1
            exact .inr ⟨12, true, 12, rfl, by decide, rfl, (fun hc => by have hc2 := d12.symm.trans hc; first | (cases hc2; done) | simp [undef] at hc2), .inl ⟨14, by decide, rfl, rfl, hJ⟩⟩
          · replace ho := op_at ho (by rfl)
            subst ho
            have d12 : a.tmps.getD 28 undef = (.bool false) := by have h1 := hF 12 (by decide) (hr 12 (by kernel_rfl)); exact h1.2.trans h1.1
            exact .inr ⟨12, true, 12, rfl, by decide, rfl, (fun hc => by have hc2 := d12.symm.trans hc; first | (cases hc2; done) | simp [undef] at hc2), .inl ⟨15, by decide, rfl, rfl, hJ⟩⟩
          · replace ho := op_at ho (by rfl)
            subst ho
            have d12 : a.tmps.getD 28 undef = (.bool false) := by have h1 := hF 12 (by decide) (hr 12 (by kernel_rfl)); exact h1.2.trans h1.1
            exact .inr ⟨12, true, 12, rfl, by decide, rfl, (fun hc => by have hc2 := d12.symm.trans hc; first | (cases hc2; done) | simp [undef] at hc2), .inl ⟨16, by decide, rfl, rfl, hJ⟩⟩
          · replace ho := op_at ho (by rfl)
            subst ho
            have d12 : a.tmps.getD 28 undef = (.bool false) := by have h1 := hF 12 (by decide) (hr 12 (by kernel_rfl)); exact h1.2.trans h1.1
            exact .inr ⟨12, true, 12, rfl, by decide, rfl, (fun hc => by have hc2 := d12.symm.trans hc; first | (cases hc2; done) | simp [undef] at hc2), .inl ⟨17, by decide, rfl, rfl, hJ⟩⟩
          · replace ho := op_at ho (by rfl)
            subst ho
            have d12 : a.tmps.getD 28 undef = (.bool false) := by have h1 := hF 12 (by decide) (hr 12 (by kernel_rfl)); exact h1.2.trans h1.1
            exact .inr ⟨12, true, 12, rfl, by decide, rfl, (fun hc => by have hc2 := d12.symm.trans hc; first | (cases hc2; done) | simp [undef] at hc2), .inl ⟨18, by decide, rfl, rfl, hJ⟩⟩
          · replace ho := op_at ho (by rfl)
            subst ho
            have d12 : a.tmps.getD 28 undef = (.bool false) := by have h1 := hF 12 (by decide) (hr 12 (by kernel_rfl)); exact h1.2.trans h1.1
            exact .inr ⟨12, true, 12, rfl, by decide, rfl, (fun hc => by have hc2 := d12.symm.trans hc; first | (cases hc2; done) | simp [undef] at hc2), .inl ⟨19, by decide, rfl, rfl, hJ⟩⟩
          · replace ho := op_at ho (by rfl)
            subst ho
            have d12 : a.tmps.getD 28 undef = (.bool false) := by have h1 := hF 12 (by decide) (hr 12 (by kernel_rfl)); exact h1.2.trans h1.1
            have d19 : a.tmps.getD 35 undef = undef := by have h1 := hF 19 (by decide) (hr 19 (by kernel_rfl)); exact h1.2.trans h1.1
            exact .inl ⟨(fun k b h => by cases h), .inl ⟨20, by decide, rfl, (.bool false), W, (by simp [go_sem, Act.eval, d12, d19]), rfl, hJ⟩⟩
        case finz =>
          intro d vs Wz hall hJ hF
          have h0 : vs 0 = (.slice (some ⟨lb, 0, none⟩) (ts.length + 1) cap) := hF 0 (by decide)
          have h1 : vs 1 = (.pointer (some ⟨lb, 0, none⟩)) := hF 1 (by decide)
          have h2 : vs 2 = (.pointer (some ⟨lb, 0, none⟩)) := hF 2 (by decide)
          have h3 : vs 3 = (.bool true) := hF 3 (by decide)
          have h4 : vs 4 = (.bool false) := hF 4 (by decide)
          have h5 : vs 5 = (.bool false) := hF 5 (by decide)
          have h6 : vs 6 = undef := hF 6 (by decide)
          have h7 : vs 7 = undef := hF 7 (by decide)
          have h8 : vs 8 = undef := hF 8 (by decide)
          have h9 : vs 9 = undef := hF 9 (by decide)
          have h10 : vs 10 = undef := hF 10 (by decide)
          have h11 : vs 11 = (.bool false) := hF 11 (by decide)
          have h12 : vs 12 = (.bool false) := hF 12 (by decide)
          have h13 : vs 13 = undef := hF 13 (by decide)
          have h14 : vs 14 = undef := hF 14 (by decide)
          have h15 : vs 15 = undef := hF 15 (by decide)
          have h16 : vs 16 = undef := hF 16 (by decide)
          have h17 : vs 17 = undef := hF 17 (by decide)
          have h18 : vs 18 = undef := hF 18 (by decide)
          have h19 : vs 19 = undef := hF 19 (by decide)
          have h20 : vs 20 = (.bool false) := hF 20 (by decide)
          clear hF
          show (_ : Exit → Act → World → Prop) Exit.normal (puts _ vs 21 _) Wz
          simp only [puts, h0, h1, h2, h3, h4, h5, h6, h7, h8, h9, h10, h11, h12, h13, h14, h15, h16, h17, h18, h19, h20, List.getD_cons_zero, List.getD_cons_succ]
          clear h0 h1 h2 h3 h4 h5 h6 h7 h8 h9 h10 h11 h12 h13 h14 h15 h16 h17 h18 h19 h20
          subst hJ
          go_simp
          go_wp2_with (fail)
          go_roundw
          case rel => exact ⟨k + 1, by omega, by omega, by go_num, HB.out.drew, HR.out, HS.out⟩
          case measure => simp [intOf] <;> omega
      | false =>
        by_cases hw0 : wt = []
        · have HWT := Lib.hid hw0
          subst hw0
          go_upto_region 5 with (fail)
          refine wpIn_wide (n := 5).1 (wpIn_flowM (F0 := Fence.wide) (n0 := 5) (fun _ => trivial) (fun h => by cases h) (by kernel_rfl) (by kernel_rfl) 21 21 (by kernel_rfl) (fun j => ([0, 1, 2, 3, 4, 5, 6, 7, 8, 9, 10, 11, 12, 13, 14, 15, 16, 17, 18, 19, 20] : List Nat).getD j 0) (fun j => ([16, 17, 18, 19, 20, 21, 22, 23, 24, 25, 26, 27, 28, 29, 30, 31, 32, 33, 34, 35, 36] : List Nat).getD j 0) (by kernel_rfl) (by kernel_rfl) (by kernel_rfl) (by kernel_rfl) (by kernel_rfl) (by kernel_rfl) (by kernel_rfl) (fun j zv => ([(fun zv => zv = (.slice (some ⟨lb, 0, none⟩) (ts.length + 1) cap)), (fun zv => zv = (.pointer (some ⟨lb, 0, none⟩))), (fun zv => zv = (.pointer (some ⟨lb, 0, none⟩))), (fun zv => zv = (.bool false)), (fun zv => zv = (.bool true)), (fun zv => zv = (.bool true)), (fun zv => zv = (.slice (some ⟨lb, 0, none⟩) (ts.length + 1) cap)), (fun zv => zv = (.pointer (some ⟨lb, 0, none⟩))), (fun zv => zv = (.pointer (some ⟨lb, 1, none⟩))), (fun zv => zv = (.string ⟨#[]⟩)), (fun zv => zv = (.bool false)), (fun zv => zv = (.bool false)), (fun zv => zv = (.bool false)), (fun zv => zv = undef), (fun zv => zv = undef), (fun zv => zv = undef), (fun zv => zv = undef), (fun zv => zv = undef), (fun zv => zv = undef), (fun zv => zv = undef), (fun zv => zv = (.bool false))] : List (Value → Prop)).getD j (fun _ => True) zv) (fun _ _ W => W = wr.drew) ?h0z ?stepz ?finz)
          case h0z => exact fun _ => rfl
          case stepz =>
            intro i o a W d vs hi ho hdi hJ hf hr hF
            replace hi : i < 21 := hi
            rcases (show i = 0 ∨ i = 1 ∨ i = 2 ∨ i = 3 ∨ i = 4 ∨ i = 5 ∨ i = 6 ∨ i = 7 ∨ i = 8 ∨ i = 9 ∨ i = 10 ∨ i = 11 ∨ i = 12 ∨ i = 13 ∨ i = 14 ∨ i = 15 ∨ i = 16 ∨ i = 17 ∨ i = 18 ∨ i = 19 ∨ i = 20 by omega) with rfl | rfl | rfl | rfl | rfl | rfl | rfl | rfl | rfl | rfl | rfl | rfl | rfl | rfl | rfl | rfl | rfl | rfl | rfl | rfl | rfl
            · replace ho := op_at ho (by rfl)
              subst ho
              have f0 : a.tmps.getD 0 undef = (.slice (some ⟨lb, 0, none⟩) (ts.length + 1) cap) := hf 0 (by kernel_rfl)
              exact .inl ⟨(fun k b h => by cases h), .inl ⟨0, by decide, rfl, (.slice (some ⟨lb, 0, none⟩) (ts.length + 1) cap), W, (by simp [go_sem, Act.eval, f0]), rfl, hJ⟩⟩
            · replace ho := op_at ho (by rfl)
              subst ho
              have d0 : a.tmps.getD 16 undef = (.slice (some ⟨lb, 0, none⟩) (ts.length + 1) cap) := by have h1 := hF 0 (by decide) (hr 0 (by kernel_rfl)); exact h1.2.trans h1.1
              exact .inl ⟨(fun k b h => by cases h), .inl ⟨1, by decide, rfl, (.pointer (some ⟨lb, 0, none⟩)), W, (by simp [go_sem, Act.eval, d0]), rfl, hJ⟩⟩
            · replace ho := op_at ho (by rfl)
              subst ho
              have d1 : a.tmps.getD 17 undef = (.pointer (some ⟨lb, 0, none⟩)) := by have h1 := hF 1 (by decide) (hr 1 (by kernel_rfl)); exact h1.2.trans h1.1
              exact .inl ⟨(fun k b h => by cases h), .inl ⟨2, by decide, rfl, (.pointer (some ⟨lb, 0, none⟩)), W, (by simp [go_sem, Act.eval, d1]), rfl, hJ⟩⟩
            · replace ho := op_at ho (by rfl)
              subst ho
              have d2 : a.tmps.getD 18 undef = (.pointer (some ⟨lb, 0, none⟩)) := by have h1 := hF 2 (by decide) (hr 2 (by kernel_rfl)); exact h1.2.trans h1.1
              exact .inl ⟨(fun k b h => by cases h), .inl ⟨3, by decide, rfl, (.bool false), W, (by subst hJ; have hc := HC0.out; simp [go_sem, Act.eval, d2, hc]), rfl, hJ⟩⟩
            · replace ho := op_at ho (by rfl)
              subst ho
              have d3 : a.tmps.getD 19 undef = (.bool false) := by have h1 := hF 3 (by decide) (hr 3 (by kernel_rfl)); exact h1.2.trans h1.1
              exact .inl ⟨(fun k b h => by cases h), .inl ⟨4, by decide, rfl, (.bool true), W, (by simp [go_sem, Act.eval, d3]), rfl, hJ⟩⟩
            · replace ho := op_at ho (by rfl)
              subst ho
              have d4 : a.tmps.getD 20 undef = (.bool true) := by have h1 := hF 4 (by decide) (hr 4 (by kernel_rfl)); exact h1.2.trans h1.1
              exact .inl ⟨(fun k b h => by cases h), .inl ⟨5, by decide, rfl, (.bool true), W, (by simp [go_sem, Act.eval, d4]), rfl, hJ⟩⟩
            · replace ho := op_at ho (by rfl)
              subst ho
              have d5 : a.tmps.getD 21 undef = (.bool true) := by have h1 := hF 5 (by decide) (hr 5 (by kernel_rfl)); exact h1.2.trans h1.1
              have f0 : a.tmps.getD 0 undef = (.slice (some ⟨lb, 0, none⟩) (ts.length + 1) cap) := hf 0 (by kernel_rfl)
              exact .inl ⟨(fun k b h => by cases h; exact ⟨5, by decide, rfl, d5⟩), .inl ⟨6, by decide, rfl, (.slice (some ⟨lb, 0, none⟩) (ts.length + 1) cap), W, (by simp [go_sem, Act.eval, d5, f0]), rfl, hJ⟩⟩
            · replace ho := op_at ho (by rfl)
              subst ho
              have d6 : a.tmps.getD 22 undef = (.slice (some ⟨lb, 0, none⟩) (ts.length + 1) cap) := by have h1 := hF 6 (by decide) (hr 6 (by kernel_rfl)); exact h1.2.trans h1.1
              have d5 : a.tmps.getD 21 undef = (.bool true) := by have h1 := hF 5 (by decide) (hr 5 (by kernel_rfl)); exact h1.2.trans h1.1
              exact .inl ⟨(fun k b h => by cases h; exact ⟨5, by decide, rfl, d5⟩), .inl ⟨7, by decide, rfl, (.pointer (some ⟨lb, 0, none⟩)), W, (by simp [go_sem, Act.eval, d6]), rfl, hJ⟩⟩
            · replace ho := op_at ho (by rfl)
              subst ho
              have d7 : a.tmps.getD 23 undef = (.pointer (some ⟨lb, 0, none⟩)) := by have h1 := hF 7 (by decide) (hr 7 (by kernel_rfl)); exact h1.2.trans h1.1
              have d5 : a.tmps.getD 21 undef = (.bool true) := by have h1 := hF 5 (by decide) (hr 5 (by kernel_rfl)); exact h1.2.trans h1.1
              exact .inl ⟨(fun k b h => by cases h; exact ⟨5, by decide, rfl, d5⟩), .inl ⟨8, by decide, rfl, (.pointer (some ⟨lb, 1, none⟩)), W, (by simp [go_sem, Act.eval, d7, d5]), rfl, hJ⟩⟩
            · replace ho := op_at ho (by rfl)
              subst ho
              have d8 : a.tmps.getD 24 undef = (.pointer (some ⟨lb, 1, none⟩)) := by have h1 := hF 8 (by decide) (hr 8 (by kernel_rfl)); exact h1.2.trans h1.1
              have d5 : a.tmps.getD 21 undef = (.bool true) := by have h1 := hF 5 (by decide) (hr 5 (by kernel_rfl)); exact h1.2.trans h1.1
              exact .inl ⟨(fun k b h => by cases h; exact ⟨5, by decide, rfl, d5⟩), .inl ⟨9, by decide, rfl, (.string ⟨#[]⟩), W, (by subst hJ; have hc := HC1.out; simp [go_sem, Act.eval, d8, hc]), rfl, hJ⟩⟩
            · replace ho := op_at ho (by rfl)
              subst ho
              have d9 : a.tmps.getD 25 undef = (.string ⟨#[]⟩) := by have h1 := hF 9 (by decide) (hr 9 (by kernel_rfl)); exact h1.2.trans h1.1
              have d5 : a.tmps.getD 21 undef = (.bool true) := by have h1 := hF 5 (by decide) (hr 5 (by kernel_rfl)); exact h1.2.trans h1.1
              exact .inl ⟨(fun k b h => by cases h; exact ⟨5, by decide, rfl, d5⟩), .inl ⟨10, by decide, rfl, (.bool false), W, (by simp [go_sem, Act.eval, d9]), rfl, hJ⟩⟩
            · replace ho := op_at ho (by rfl)
              subst ho
              have d5 : a.tmps.getD 21 undef = (.bool true) := by have h1 := hF 5 (by decide) (hr 5 (by kernel_rfl)); exact h1.2.trans h1.1
              have d10 : a.tmps.getD 26 undef = (.bool false) := by have h1 := hF 10 (by decide) (hr 10 (by kernel_rfl)); exact h1.2.trans h1.1
              exact .inl ⟨(fun k b h => by cases h), .inl ⟨11, by decide, rfl, (.bool false), W, (by simp [go_sem, Act.eval, d5, d10]), rfl, hJ⟩⟩
            · replace ho := op_at ho (by rfl)
              subst ho
              have d11 : a.tmps.getD 27 undef = (.bool false) := by have h1 := hF 11 (by decide) (hr 11 (by kernel_rfl)); exact h1.2.trans h1.1
              exact .inl ⟨(fun k b h => by cases h), .inl ⟨12, by decide, rfl, (.bool false), W, (by simp [go_sem, Act.eval, d11]), rfl, hJ⟩⟩
            · replace ho := op_at ho (by rfl)
              subst ho
              have d12 : a.tmps.getD 28 undef = (.bool false) := by have h1 := hF 12 (by decide) (hr 12 (by kernel_rfl)); exact h1.2.trans h1.1
              exact .inr ⟨12, true, 12, rfl, by decide, rfl, (fun hc => by have hc2 := d12.symm.trans hc; first | (cases hc2; done) | simp [undef] at hc2), .inl ⟨13, by decide, rfl, rfl, hJ⟩⟩
            · replace ho := op_at ho (by rfl)
              subst ho
              have d12 : a.tmps.getD 28 undef = (.bool false) := by have h1 := hF 12 (by decide) (hr 12 (by kernel_rfl)); exact h1.2.trans h1.1
              exact .inr ⟨12, true, 12, rfl, by decide, rfl, (fun hc => by have hc2 := d12.symm.trans hc; first | (cases hc2; done) | simp [undef] at hc2), .inl ⟨14, by decide, rfl, rfl, hJ⟩⟩
            · replace ho := op_at ho (by rfl)
              subst ho
              have d12 : a.tmps.getD 28 undef = (.bool false) := by have h1 := hF 12 (by decide) (hr 12 (by kernel_rfl)); exact h1.2.trans h1.1
              exact .inr ⟨12, true, 12, rfl, by decide, rfl, (fun hc => by have hc2 := d12.symm.trans hc; first | (cases hc2; done) | simp [undef] at hc2), .inl ⟨15, by decide, rfl, rfl, hJ⟩⟩
            · replace ho := op_at ho (by rfl)
              subst ho
              have d12 : a.tmps.getD 28 undef = (.bool false) := by have h1 := hF 12 (by decide) (hr 12 (by kernel_rfl)); exact h1.2.trans h1.1
              exact .inr ⟨12, true, 12, rfl, by decide, rfl, (fun hc => by have hc2 := d12.symm.trans hc; first | (cases hc2; done) | simp [undef] at hc2), .inl ⟨16, by decide, rfl, rfl, hJ⟩⟩
            · replace ho := op_at ho (by rfl)
              subst ho
              have d12 : a.tmps.getD 28 undef = (.bool false) := by have h1 := hF 12 (by decide) (hr 12 (by kernel_rfl)); exact h1.2.trans h1.1
              exact .inr ⟨12, true, 12, rfl, by decide, rfl, (fun hc => by have hc2 := d12.symm.trans hc; first | (cases hc2; done) | simp [undef] at hc2), .inl ⟨17, by decide, rfl, rfl, hJ⟩⟩
            · replace ho := op_at ho (by rfl)
              subst ho
              have d12 : a.tmps.getD 28 undef = (.bool false) := by have h1 := hF 12 (by decide) (hr 12 (by kernel_rfl)); exact h1.2.trans h1.1
              exact .inr ⟨12, true, 12, rfl, by decide, rfl, (fun hc => by have hc2 := d12.symm.trans hc; first | (cases hc2; done) | simp [undef] at hc2), .inl ⟨18, by decide, rfl, rfl, hJ⟩⟩
            · replace ho := op_at ho (by rfl)
              subst ho
              have d12 : a.tmps.getD 28 undef = (.bool false) := by have h1 := hF 12 (by decide) (hr 12 (by kernel_rfl)); exact h1.2.trans h1.1
              exact .inr ⟨12, true, 12, rfl, by decide, rfl, (fun hc => by have hc2 := d12.symm.trans hc; first | (cases hc2; done) | simp [undef] at hc2), .inl ⟨19, by decide, rfl, rfl, hJ⟩⟩
            · replace ho := op_at ho (by rfl)
              subst ho
              have d12 : a.tmps.getD 28 undef = (.bool false) := by have h1 := hF 12 (by decide) (hr 12 (by kernel_rfl)); exact h1.2.trans h1.1
              have d19 : a.tmps.getD 35 undef = undef := by have h1 := hF 19 (by decide) (hr 19 (by kernel_rfl)); exact h1.2.trans h1.1
              exact .inl ⟨(fun k b h => by cases h), .inl ⟨20, by decide, rfl, (.bool false), W, (by simp [go_sem, Act.eval, d12, d19]), rfl, hJ⟩⟩
          case finz =>
            intro d vs Wz hall hJ hF
            have h0 : vs 0 = (.slice (some ⟨lb, 0, none⟩) (ts.length + 1) cap) := hF 0 (by decide)
            have h1 : vs 1 = (.pointer (some ⟨lb, 0, none⟩)) := hF 1 (by decide)
            have h2 : vs 2 = (.pointer (some ⟨lb, 0, none⟩)) := hF 2 (by decide)
            have h3 : vs 3 = (.bool false) := hF 3 (by decide)
            have h4 : vs 4 = (.bool true) := hF 4 (by decide)
            have h5 : vs 5 = (.bool true) := hF 5 (by decide)
            have h6 : vs 6 = (.slice (some ⟨lb, 0, none⟩) (ts.length + 1) cap) := hF 6 (by decide)
            have h7 : vs 7 = (.pointer (some ⟨lb, 0, none⟩)) := hF 7 (by decide)
            have h8 : vs 8 = (.pointer (some ⟨lb, 1, none⟩)) := hF 8 (by decide)
            have h9 : vs 9 = (.string ⟨#[]⟩) := hF 9 (by decide)
            have h10 : vs 10 = (.bool false) := hF 10 (by decide)
            have h11 : vs 11 = (.bool false) := hF 11 (by decide)
            have h12 : vs 12 = (.bool false) := hF 12 (by decide)
            have h13 : vs 13 = undef := hF 13 (by decide)
            have h14 : vs 14 = undef := hF 14 (by decide)
            have h15 : vs 15 = undef := hF 15 (by decide)
            have h16 : vs 16 = undef := hF 16 (by decide)
            have h17 : vs 17 = undef := hF 17 (by decide)
            have h18 : vs 18 = undef := hF 18 (by decide)
            have h19 : vs 19 = undef := hF 19 (by decide)
            have h20 : vs 20 = (.bool false) := hF 20 (by decide)
            clear hF
            show (_ : Exit → Act → World → Prop) Exit.normal (puts _ vs 21 _) Wz
            simp only [puts, h0, h1, h2, h3, h4, h5, h6, h7, h8, h9, h10, h11, h12, h13, h14, h15, h16, h17, h18, h19, h20, List.getD_cons_zero, List.getD_cons_succ]
            clear h0 h1 h2 h3 h4 h5 h6 h7 h8 h9 h10 h11 h12 h13 h14 h15 h16 h17 h18 h19 h20
            subst hJ
            go_simp
            go_wp2_with (fail)
            go_roundw
            case rel => exact ⟨k + 1, by omega, by omega, by go_num, HB.out.drew, HR.out, Lib.hid (by have h := HS.out; rw [kAt_nil] at h; rw [kAt_nil]; exact h)⟩
            case measure => simp [intOf] <;> omega
        · have HWT : Hid (¬ wt = []) := hw0
          obtain ⟨bw, hbw⟩ : ∃ b, b = decide (wordF (k : Int) = wt) := ⟨_, rfl⟩
          have HBW : Hid ((wordF (k : Int) == wt) = bw) := by show _ = _; rw [hbw]; by_cases h : wordF (k : Int) = wt <;> simp [h]
          have HKI : Hid (bw = true ↔ kindF wt = (k : Int)) := by show _ ↔ _; rw [hbw, decide_eq_true_iff]; exact kind_iff hk1 hlt
          clear hbw hw0
          go_upto_region 5 with (fail)
          refine wpIn_wide (n := 5).1 (wpIn_flowM (F0 := Fence.wide) (n0 := 5) (fun _ => trivial) (fun h => by cases h) (by kernel_rfl) (by kernel_rfl) 21 21 (by kernel_rfl) (fun j => ([0, 1, 2, 3, 4, 5, 6, 7, 8, 9, 10, 11, 12, 13, 14, 15, 16, 17, 18, 19, 20] : List Nat).getD j 0) (fun j => ([16, 17, 18, 19, 20, 21, 22, 23, 24, 25, 26, 27, 28, 29, 30, 31, 32, 33, 34, 35, 36] : List Nat).getD j 0) (by kernel_rfl) (by kernel_rfl) (by kernel_rfl) (by kernel_rfl) (by kernel_rfl) (by kernel_rfl) (by kernel_rfl) (fun j zv => ([(fun zv => zv = (.slice (some ⟨lb, 0, none⟩) (ts.length + 1) cap)), (fun zv => zv = (.pointer (some ⟨lb, 0, none⟩))), (fun zv => zv = (.pointer (some ⟨lb, 0, none⟩))), (fun zv => zv = (.bool false)), (fun zv => zv = (.bool true)), (fun zv => zv = (.bool true)), (fun zv => zv = (.slice (some ⟨lb, 0, none⟩) (ts.length + 1) cap)), (fun zv => zv = (.pointer (some ⟨lb, 0, none⟩))), (fun zv => zv = (.pointer (some ⟨lb, 1, none⟩))), (fun zv => zv = (.string ⟨wt.toArray⟩)), (fun zv => zv = (.bool true)), (fun zv => zv = (.bool true)), (fun zv => zv = (.bool true)), (fun zv => zv = (.int .i64 (k : Int))), (fun zv => zv = (.string ⟨(wordF (k : Int)).toArray⟩)), (fun zv => zv = (.slice (some ⟨lb, 0, none⟩) (ts.length + 1) cap)), (fun zv => zv = (.pointer (some ⟨lb, 0, none⟩))), (fun zv => zv = (.pointer (some ⟨lb, 1, none⟩))), (fun zv => zv = (.string ⟨wt.toArray⟩)), (fun zv => zv = (.bool bw)), (fun zv => zv = (.bool bw))] : List (Value → Prop)).getD j (fun _ => True) zv) (fun _ _ W => W = wr.drew) ?h0z ?stepz ?finz)
          case h0z => exact fun _ => rfl
          case stepz =>
            intro i o a W d vs hi ho hdi hJ hf hr hF
            replace hi : i < 21 := hi
            rcases (show i = 0 ∨ i = 1 ∨ i = 2 ∨ i = 3 ∨ i = 4 ∨ i = 5 ∨ i = 6 ∨ i = 7 ∨ i = 8 ∨ i = 9 ∨ i = 10 ∨ i = 11 ∨ i = 12 ∨ i = 13 ∨ i = 14 ∨ i = 15 ∨ i = 16 ∨ i = 17 ∨ i = 18 ∨ i = 19 ∨ i = 20 by omega) with rfl | rfl | rfl | rfl | rfl | rfl | rfl | rfl | rfl | rfl | rfl | rfl | rfl | rfl | rfl | rfl | rfl | rfl | rfl | rfl | rfl
            · replace ho := op_at ho (by rfl)
              subst ho
              have f0 : a.tmps.getD 0 undef = (.slice (some ⟨lb, 0, none⟩) (ts.length + 1) cap) := hf 0 (by kernel_rfl)
              exact .inl ⟨(fun k b h => by cases h), .inl ⟨0, by decide, rfl, (.slice (some ⟨lb, 0, none⟩) (ts.length + 1) cap), W, (by simp [go_sem, Act.eval, f0]), rfl, hJ⟩⟩
            · replace ho := op_at ho (by rfl)
              subst ho
              have d0 : a.tmps.getD 16 undef = (.slice (some ⟨lb, 0, none⟩) (ts.length + 1) cap) := by have h1 := hF 0 (by decide) (hr 0 (by kernel_rfl)); exact h1.2.trans h1.1
              exact .inl ⟨(fun k b h => by cases h), .inl ⟨1, by decide, rfl, (.pointer (some ⟨lb, 0, none⟩)), W, (by simp [go_sem, Act.eval, d0]), rfl, hJ⟩⟩
            · replace ho := op_at ho (by rfl)
              subst ho
              have d1 : a.tmps.getD 17 undef = (.pointer (some ⟨lb, 0, none⟩)) := by have h1 := hF 1 (by decide) (hr 1 (by kernel_rfl)); exact h1.2.trans h1.1
              exact .inl ⟨(fun k b h => by cases h), .inl ⟨2, by decide, rfl, (.pointer (some ⟨lb, 0, none⟩)), W, (by simp [go_sem, Act.eval, d1]), rfl, hJ⟩⟩
            · replace ho := op_at ho (by rfl)
              subst ho
              have d2 : a.tmps.getD 18 undef = (.pointer (some ⟨lb, 0, none⟩)) := by have h1 := hF 2 (by decide) (hr 2 (by kernel_rfl)); exact h1.2.trans h1.1
              exact .inl ⟨(fun k b h => by cases h), .inl ⟨3, by decide, rfl, (.bool false), W, (by subst hJ; have hc := HC0.out; simp [go_sem, Act.eval, d2, hc]), rfl, hJ⟩⟩
            · replace ho := op_at ho (by rfl)
              subst ho
              have d3 : a.tmps.getD 19 undef = (.bool false) := by have h1 := hF 3 (by decide) (hr 3 (by kernel_rfl)); exact h1.2.trans h1.1
              exact .inl ⟨(fun k b h => by cases h), .inl ⟨4, by decide, rfl, (.bool true), W, (by simp [go_sem, Act.eval, d3]), rfl, hJ⟩⟩
            · replace ho := op_at ho (by rfl)
              subst ho
              have d4 : a.tmps.getD 20 undef = (.bool true) := by have h1 := hF 4 (by decide) (hr 4 (by kernel_rfl)); exact h1.2.trans h1.1
              exact .inl ⟨(fun k b h => by cases h), .inl ⟨5, by decide, rfl, (.bool true), W, (by simp [go_sem, Act.eval, d4]), rfl, hJ⟩⟩
            · replace ho := op_at ho (by rfl)
              subst ho
              have d5 : a.tmps.getD 21 undef = (.bool true) := by have h1 := hF 5 (by decide) (hr 5 (by kernel_rfl)); exact h1.2.trans h1.1
              have f0 : a.tmps.getD 0 undef = (.slice (some ⟨lb, 0, none⟩) (ts.length + 1) cap) := hf 0 (by kernel_rfl)
              exact .inl ⟨(fun k b h => by cases h; exact ⟨5, by decide, rfl, d5⟩), .inl ⟨6, by decide, rfl, (.slice (some ⟨lb, 0, none⟩) (ts.length + 1) cap), W, (by simp [go_sem, Act.eval, d5, f0]), rfl, hJ⟩⟩
            · replace ho := op_at ho (by rfl)
              subst ho
              have d6 : a.tmps.getD 22 undef = (.slice (some ⟨lb, 0, none⟩) (ts.length + 1) cap) := by have h1 := hF 6 (by decide) (hr 6 (by kernel_rfl)); exact h1.2.trans h1.1
              have d5 : a.tmps.getD 21 undef = (.bool true) := by have h1 := hF 5 (by decide) (hr 5 (by kernel_rfl)); exact h1.2.trans h1.1
              exact .inl ⟨(fun k b h => by cases h; exact ⟨5, by decide, rfl, d5⟩), .inl ⟨7, by decide, rfl, (.pointer (some ⟨lb, 0, none⟩)), W, (by simp [go_sem, Act.eval, d6]), rfl, hJ⟩⟩
            · replace ho := op_at ho (by rfl)
              subst ho
              have d7 : a.tmps.getD 23 undef = (.pointer (some ⟨lb, 0, none⟩)) := by have h1 := hF 7 (by decide) (hr 7 (by kernel_rfl)); exact h1.2.trans h1.1
              have d5 : a.tmps.getD 21 undef = (.bool true) := by have h1 := hF 5 (by decide) (hr 5 (by kernel_rfl)); exact h1.2.trans h1.1
              exact .inl ⟨(fun k b h => by cases h; exact ⟨5, by decide, rfl, d5⟩), .inl ⟨8, by decide, rfl, (.pointer (some ⟨lb, 1, none⟩)), W, (by simp [go_sem, Act.eval, d7, d5]), rfl, hJ⟩⟩
            · replace ho := op_at ho (by rfl)
              subst ho
              have d8 : a.tmps.getD 24 undef = (.pointer (some ⟨lb, 1, none⟩)) := by have h1 := hF 8 (by decide) (hr 8 (by kernel_rfl)); exact h1.2.trans h1.1
              have d5 : a.tmps.getD 21 undef = (.bool true) := by have h1 := hF 5 (by decide) (hr 5 (by kernel_rfl)); exact h1.2.trans h1.1
              exact .inl ⟨(fun k b h => by cases h; exact ⟨5, by decide, rfl, d5⟩), .inl ⟨9, by decide, rfl, (.string ⟨wt.toArray⟩), W, (by subst hJ; have hc := HC1.out; simp [go_sem, Act.eval, d8, hc]), rfl, hJ⟩⟩
            · replace ho := op_at ho (by rfl)
              subst ho
              have d9 : a.tmps.getD 25 undef = (.string ⟨wt.toArray⟩) := by have h1 := hF 9 (by decide) (hr 9 (by kernel_rfl)); exact h1.2.trans h1.1
              have d5 : a.tmps.getD 21 undef = (.bool true) := by have h1 := hF 5 (by decide) (hr 5 (by kernel_rfl)); exact h1.2.trans h1.1
              exact .inl ⟨(fun k b h => by cases h; exact ⟨5, by decide, rfl, d5⟩), .inl ⟨10, by decide, rfl, (.bool true), W, (by simp [go_sem, Act.eval, d9, HWT.out]), rfl, hJ⟩⟩
            · replace ho := op_at ho (by rfl)
              subst ho
              have d5 : a.tmps.getD 21 undef = (.bool true) := by have h1 := hF 5 (by decide) (hr 5 (by kernel_rfl)); exact h1.2.trans h1.1
              have d10 : a.tmps.getD 26 undef = (.bool true) := by have h1 := hF 10 (by decide) (hr 10 (by kernel_rfl)); exact h1.2.trans h1.1
              exact .inl ⟨(fun k b h => by cases h), .inl ⟨11, by decide, rfl, (.bool true), W, (by simp [go_sem, Act.eval, d5, d10]), rfl, hJ⟩⟩
            · replace ho := op_at ho (by rfl)
              subst ho
              have d11 : a.tmps.getD 27 undef = (.bool true) := by have h1 := hF 11 (by decide) (hr 11 (by kernel_rfl)); exact h1.2.trans h1.1
              exact .inl ⟨(fun k b h => by cases h), .inl ⟨12, by decide, rfl, (.bool true), W, (by simp [go_sem, Act.eval, d11]), rfl, hJ⟩⟩
            · replace ho := op_at ho (by rfl)
              subst ho
              have d12 : a.tmps.getD 28 undef = (.bool true) := by have h1 := hF 12 (by decide) (hr 12 (by kernel_rfl)); exact h1.2.trans h1.1
              have f5 : a.tmps.getD 5 undef = (.int .i64 (k : Int)) := hf 5 (by kernel_rfl)
              exact .inl ⟨(fun k b h => by cases h; exact ⟨12, by decide, rfl, d12⟩), .inl ⟨13, by decide, rfl, (.int .i64 (k : Int)), W, (by simp [go_sem, Act.eval, d12, f5]), rfl, hJ⟩⟩
            · replace ho := op_at ho (by rfl)
              subst ho
              have d13 : a.tmps.getD 29 undef = (.int .i64 (k : Int)) := by have h1 := hF 13 (by decide) (hr 13 (by kernel_rfl)); exact h1.2.trans h1.1
              have d12 : a.tmps.getD 28 undef = (.bool true) := by have h1 := hF 12 (by decide) (hr 12 (by kernel_rfl)); exact h1.2.trans h1.1
              refine .inl ⟨(fun k b h => by cases h; exact ⟨12, by decide, rfl, d12⟩), .inr (.inr ⟨14, by decide, rfl, 20, #[.int .i64 (k : Int)], W, (by simp [go_sem, Act.eval, d13, d12]), ?_⟩)⟩
              exact (callsIn_wide.2 (rword_any (k : Int) W)).mono fun e W' hh => ⟨_, hh.1, rfl, hh.2 ▸ hJ⟩
            · replace ho := op_at ho (by rfl)
              subst ho
              have d12 : a.tmps.getD 28 undef = (.bool true) := by have h1 := hF 12 (by decide) (hr 12 (by kernel_rfl)); exact h1.2.trans h1.1
              have f0 : a.tmps.getD 0 undef = (.slice (some ⟨lb, 0, none⟩) (ts.length + 1) cap) := hf 0 (by kernel_rfl)
              exact .inl ⟨(fun k b h => by cases h; exact ⟨12, by decide, rfl, d12⟩), .inl ⟨15, by decide, rfl, (.slice (some ⟨lb, 0, none⟩) (ts.length + 1) cap), W, (by simp [go_sem, Act.eval, d12, f0]), rfl, hJ⟩⟩
            · replace ho := op_at ho (by rfl)
              subst ho
              have d15 : a.tmps.getD 31 undef = (.slice (some ⟨lb, 0, none⟩) (ts.length + 1) cap) := by have h1 := hF 15 (by decide) (hr 15 (by kernel_rfl)); exact h1.2.trans h1.1
              have d12 : a.tmps.getD 28 undef = (.bool true) := by have h1 := hF 12 (by decide) (hr 12 (by kernel_rfl)); exact h1.2.trans h1.1
              exact .inl ⟨(fun k b h => by cases h; exact ⟨12, by decide, rfl, d12⟩), .inl ⟨16, by decide, rfl, (.pointer (some ⟨lb, 0, none⟩)), W, (by simp [go_sem, Act.eval, d15]), rfl, hJ⟩⟩
            · replace ho := op_at ho (by rfl)
              subst ho
              have d16 : a.tmps.getD 32 undef = (.pointer (some ⟨lb, 0, none⟩)) := by have h1 := hF 16 (by decide) (hr 16 (by kernel_rfl)); exact h1.2.trans h1.1
              have d12 : a.tmps.getD 28 undef = (.bool true) := by have h1 := hF 12 (by decide) (hr 12 (by kernel_rfl)); exact h1.2.trans h1.1
              exact .inl ⟨(fun k b h => by cases h; exact ⟨12, by decide, rfl, d12⟩), .inl ⟨17, by decide, rfl, (.pointer (some ⟨lb, 1, none⟩)), W, (by simp [go_sem, Act.eval, d16, d12]), rfl, hJ⟩⟩
            · replace ho := op_at ho (by rfl)
              subst ho
              have d17 : a.tmps.getD 33 undef = (.pointer (some ⟨lb, 1, none⟩)) := by have h1 := hF 17 (by decide) (hr 17 (by kernel_rfl)); exact h1.2.trans h1.1
              have d12 : a.tmps.getD 28 undef = (.bool true) := by have h1 := hF 12 (by decide) (hr 12 (by kernel_rfl)); exact h1.2.trans h1.1
              exact .inl ⟨(fun k b h => by cases h; exact ⟨12, by decide, rfl, d12⟩), .inl ⟨18, by decide, rfl, (.string ⟨wt.toArray⟩), W, (by subst hJ; have hc := HC1.out; simp [go_sem, Act.eval, d17, hc]), rfl, hJ⟩⟩
            · replace ho := op_at ho (by rfl)
              subst ho
              have d14 : a.tmps.getD 30 undef = (.string ⟨(wordF (k : Int)).toArray⟩) := by have h1 := hF 14 (by decide) (hr 14 (by kernel_rfl)); exact h1.2.trans h1.1
              have d18 : a.tmps.getD 34 undef = (.string ⟨wt.toArray⟩) := by have h1 := hF 18 (by decide) (hr 18 (by kernel_rfl)); exact h1.2.trans h1.1
              have d12 : a.tmps.getD 28 undef = (.bool true) := by have h1 := hF 12 (by decide) (hr 12 (by kernel_rfl)); exact h1.2.trans h1.1
              exact .inl ⟨(fun k b h => by cases h; exact ⟨12, by decide, rfl, d12⟩), .inl ⟨19, by decide, rfl, (.bool bw), W, (by simp [go_sem, Act.eval, d14, d18, HBW.out]), rfl, hJ⟩⟩
            · replace ho := op_at ho (by rfl)
              subst ho
              have d12 : a.tmps.getD 28 undef = (.bool true) := by have h1 := hF 12 (by decide) (hr 12 (by kernel_rfl)); exact h1.2.trans h1.1
              have d19 : a.tmps.getD 35 undef = (.bool bw) := by have h1 := hF 19 (by decide) (hr 19 (by kernel_rfl)); exact h1.2.trans h1.1
              exact .inl ⟨(fun k b h => by cases h), .inl ⟨20, by decide, rfl, (.bool bw), W, (by simp [go_sem, Act.eval, d12, d19]), rfl, hJ⟩⟩
          case finz =>
            intro d vs Wz hall hJ hF
            have h0 : vs 0 = (.slice (some ⟨lb, 0, none⟩) (ts.length + 1) cap) := hF 0 (by decide)
            have h1 : vs 1 = (.pointer (some ⟨lb, 0, none⟩)) := hF 1 (by decide)
            have h2 : vs 2 = (.pointer (some ⟨lb, 0, none⟩)) := hF 2 (by decide)
            have h3 : vs 3 = (.bool false) := hF 3 (by decide)
            have h4 : vs 4 = (.bool true) := hF 4 (by decide)
            have h5 : vs 5 = (.bool true) := hF 5 (by decide)
            have h6 : vs 6 = (.slice (some ⟨lb, 0, none⟩) (ts.length + 1) cap) := hF 6 (by decide)
            have h7 : vs 7 = (.pointer (some ⟨lb, 0, none⟩)) := hF 7 (by decide)
            have h8 : vs 8 = (.pointer (some ⟨lb, 1, none⟩)) := hF 8 (by decide)
            have h9 : vs 9 = (.string ⟨wt.toArray⟩) := hF 9 (by decide)
            have h10 : vs 10 = (.bool true) := hF 10 (by decide)
            have h11 : vs 11 = (.bool true) := hF 11 (by decide)
            have h12 : vs 12 = (.bool true) := hF 12 (by decide)
            have h13 : vs 13 = (.int .i64 (k : Int)) := hF 13 (by decide)
            have h14 : vs 14 = (.string ⟨(wordF (k : Int)).toArray⟩) := hF 14 (by decide)
            have h15 : vs 15 = (.slice (some ⟨lb, 0, none⟩) (ts.length + 1) cap) := hF 15 (by decide)
            have h16 : vs 16 = (.pointer (some ⟨lb, 0, none⟩)) := hF 16 (by decide)
            have h17 : vs 17 = (.pointer (some ⟨lb, 1, none⟩)) := hF 17 (by decide)
            have h18 : vs 18 = (.string ⟨wt.toArray⟩) := hF 18 (by decide)
            have h19 : vs 19 = (.bool bw) := hF 19 (by decide)
            have h20 : vs 20 = (.bool bw) := hF 20 (by decide)
            clear hF
            show (_ : Exit → Act → World → Prop) Exit.normal (puts _ vs 21 _) Wz
            simp only [puts, h0, h1, h2, h3, h4, h5, h6, h7, h8, h9, h10, h11, h12, h13, h14, h15, h16, h17, h18, h19, h20, List.getD_cons_zero, List.getD_cons_succ]
            clear h0 h1 h2 h3 h4 h5 h6 h7 h8 h9 h10 h11 h12 h13 h14 h15 h16 h17 h18 h19 h20
            subst hJ
            go_simp
            have HB1 := Lib.hid HB.out.drew
            have HR1 : Hid (wr.drew.heap[rb]? = some (.cells (stepC zeroS) 35 (0, 0))) := HR.out
            have HS1 : Hid (wr.drew.heap[sb]? = some (.cells (stepC ⟨kAt ⟨false, wt⟩ k, 0, 0, [], 0, 0⟩) 35 (0, 0))) := HS.out
            obtain ⟨W1, hW1⟩ : ∃ W, W = wr.drew := ⟨_, rfl⟩
            rw [← hW1] at HB1 HR1 HS1 ⊢
            clear hW1 HB HR HS
            cases bw with
            | true =>
              have hke : kindF wt = (k : Int) := HKI.out.1 rfl
              have HKE := Lib.hid hke
              have HA : Hid (kAt ⟨false, wt⟩ (k + 1) = (k : Int)) := by show _ = _; unfold kAt; simp only [Bool.false_eq_true, if_false]; rw [hke, if_pos (by omega)]
              have hc0 : W1.cell? ⟨sb, 0, none⟩ = some (.int .i64 (kAt ⟨false, wt⟩ k)) := (cell_of_row _ _ 0 _ _ _ HS1.out).trans rfl
              have hf0 : W1.frozen? ⟨sb, 0, none⟩ = false := frozen_of_row _ _ _ _ _ HS1.out
              have hsbr : Hid (rb ≠ sb) := by show _ ≠ _; rw [HRB.out, HSB.out]; omega
              clear hke
              go_wp2_with (fail)
              go_roundw
              case rel =>
                refine ⟨k + 1, by omega, by omega, by go_num, ?_, ?_, ?_⟩
                · exact Lib.hid (setCells_below (by rw [HSB.out]; omega) [.int .i64 (k : Int)] 0 _ _ HB1.out)
                · exact Lib.hid ((set_other _ _ _ _ _ hsbr.out).trans HR1.out)
                · have h := set_block W1 sb 0 _ _ (.int .i64 (k : Int)) HS1.out
                  rw [HA.out]
                  exact Lib.hid h
              case measure => simp [intOf] <;> omega
            | false =>
              have HA : Hid (kAt ⟨false, wt⟩ (k + 1) = kAt ⟨false, wt⟩ k) := by
                show _ = _
                have hne : ¬ kindF wt = (k : Int) := fun e => by have := HKI.out.2 e; cases this
                unfold kAt
                simp only [Bool.false_eq_true, if_false]
                by_cases h1 : kindF wt < (k : Int)
                · rw [if_pos h1, if_pos (by omega)]
                · rw [if_neg h1, if_neg (by omega)]
              go_wp2_with (fail)
              go_roundw
              case rel => exact ⟨k + 1, by omega, by omega, by go_num, HB1, HR1, by rw [HA.out]; exact HS1⟩
              case measure => simp [intOf] <;> omega
    · obtain rfl : k = 16 := by omega
      obtain ⟨kk, hkk⟩ : ∃ x, x = kAt ⟨q, wt⟩ 16 := ⟨_, rfl⟩
      rw [← hkk] at HS
      have hc0 : wr.cell? ⟨sb, 0, none⟩ = some (.int .i64 kk) := (cell_of_row _ _ 0 _ _ _ HS.out).trans rfl
      by_cases hz : q = true ∨ kindF wt = 0
      · have hk0 : kk = 0 := by
          rw [hkk]; unfold kAt
          rcases hz with h | h
          · rw [if_pos (show (⟨q, wt⟩ : Tok).q = true from h)]
          · split
            · rfl
            · split <;> first | exact h | rfl
        subst hk0
        have HE : Hid (stepF (⟨q, wt⟩ :: ts) = (zeroS, 61)) := by show (if q = true ∨ kindF wt = 0 then _ else _) = _; rw [if_pos hz]
        clear hkk hz
        go_upto_region 8 with (fail)
        refine wp_region_lit ?_
        refine wpList_run (w' := wr) rfl (exec_load_row 35 _ rfl sb _ _ (.struct (Tryd.prog.fieldsOf 35)) rfl HS.out (by kernel_rfl) rfl (by kernel_rfl)) ?_
        refine wpList_skip (w' := (wr).setCells rb 0 (stepC zeroS).toList) rfl rfl (exec_store 35 _ _ rfl _ _ rfl rfl (run_store_row _ rb 0 _ _ 35 (stepC zeroS) HR.out (by simp [stepC]) (by kernel_rfl) (by simp [stepC, Value.oneCell']))) ?_
        refine wpList_run (v := .int .i64 61) (w' := (wr).setCells rb 0 (stepC zeroS).toList) rfl (by kernel_rfl) ?_
        refine wpList_nil ?_
        go_simp
        go_wp2
        have hst := setCells_block 35 rb (stepC zeroS).toList 0 _ _ HR.out
        exact bodyPost_ret (v := .tuple #[.agg (stepC zeroS), .int .i64 61]) (results_step_any rfl rfl (by rfl) hst) rfl ⟨_, _, rfl, ⟨by rw [HE.out]; rfl, _, rfl, fun h => by rw [HE.out] at h; cases h⟩, setCells_below (by rw [HRB.out]; exact Nat.le_refl _) _ _ _ _ HB.out⟩
      · have hq : q = false := by cases q with | false => rfl | true => exact absurd (.inl rfl) hz
        subst hq
        have hk1 : kk = kindF wt := by
          have := kind_range wt
          rw [hkk]; unfold kAt
          rw [if_neg (by simp), if_pos (show kindF wt < ((16 : Nat) : Int) by omega)]
        have hkz : ¬ kk = 0 := fun e => hz (.inr (hk1.symm.trans e))
        have HNZ : Hid (¬ kindF wt = 0) := fun e => hz (.inr e)
        have HKK := Lib.hid hk1
        have nk0 : (kk == 0) = false := by rw [beq_eq_false_iff_ne]; exact hkz
        have HFS : Hid ((⟨(shapeF kk).toArray⟩ : ByteArray).size = (shapeF kk).length ∧ ∀ (i : Nat) (h : i < (shapeF kk).length) (h2 : i < (⟨(shapeF kk).toArray⟩ : ByteArray).size), (⟨(shapeF kk).toArray⟩ : ByteArray)[i]'h2 = (shapeF kk)[i]'h) := ⟨by simp [ByteArray.size], fun i h h2 => rfl⟩
        have hcon := Lib.hid (rshape_any kk wr)
        obtain ⟨fs, hfs⟩ : ∃ b, b = (⟨(shapeF kk).toArray⟩ : ByteArray) := ⟨_, rfl⟩
        rw [← hfs] at hcon HFS
        have hfl : fs.size = (shapeF kk).length := HFS.out.1
        have hsl : (shapeF kk).length ≤ 4 := shape_len kk
        clear hz hkk hfs hk1
        go_wp2_with (fail)
        with_reducible refine hcon.out.mono ?_
        rintro e w' ⟨rfl, rfl⟩
        clear hcon
        by_cases hl : (shapeF kk).length = ts.length
        · have HSL : Hid ((shapeF (kindF wt)).length = ts.length ∧ shapeF (kindF wt) = shapeF kk ∧ kindF wt = kk) := ⟨by rw [← HKK.out]; exact hl, by rw [HKK.out], HKK.out.symm⟩
          obtain ⟨fl, hfd⟩ : ∃ l, l = shapeF kk := ⟨_, rfl⟩
          have HLET : Hid (∀ c ∈ fl, c = 97 ∨ c = 98 ∨ c = 115 ∨ c = 107 ∨ c = 110 ∨ c = 109) := by show ∀ c ∈ fl, _; rw [hfd]; exact (shape_all kk).2
          have HF2 : Hid (∀ (i : Nat) (h : i < fl.length) (h2 : i < fs.size), fs[i]'h2 = fl[i]'h) := by subst hfd; exact HFS.out.2
          have hfl2 : fl.length = ts.length := by rw [hfd]; exact hl
          have hfs2 : fs.size = ts.length := by rw [hfl]; exact hl
          obtain ⟨s0, hs0⟩ : ∃ s : Stp, s = ⟨kk, 0, 0, [], 0, 0⟩ := ⟨_, rfl⟩
          have hln : (fs.size : Int) = ((ts.length + 1 : Nat) : Int) - 1 := by omega
          rw [← hs0] at HS
          have HSL : Hid ((shapeF (kindF wt)).length = ts.length ∧ shapeF (kindF wt) = fl ∧ s0 = ⟨kindF wt, 0, 0, [], 0, 0⟩) := ⟨HSL.out.1, by rw [hfd]; exact HSL.out.2.1, by rw [hs0, HSL.out.2.2]⟩
          clear hfl hfd hs0 HFS
          go_wp2_with (fail)
          go_loopw [7] (fun iv wr => ∃ (i : Nat) (st : Stp), i ≤ ts.length ∧ iv = .int .i64 (i : Int) ∧ Hid (Below w.heap.size w wr) ∧ Hid (wr.heap[rb]? = some (.cells (stepC zeroS) 35 (0, 0))) ∧ Hid (wr.heap[sb]? = some (.cells (stepC st) 35 (0, 0))) ∧ Hid (argsF fl ts s0 = argsF (fl.drop i) (ts.drop i) st)) (fun iv _ => ts.length - (intOf iv).toNat)
          case atStart => exact ⟨0, s0, Nat.zero_le _, rfl, HB.out, HR.out, HS.out, rfl⟩
          case round =>
            clear HB HR HS
            obtain ⟨i, st, hi, rfl, HB, HR, HS, HA⟩ := hrel
            by_cases hlt2 : i < ts.length
            · have hif : i < fs.size := by omega
              obtain ⟨c, hc⟩ : ∃ c, fs[i] = c := ⟨_, rfl⟩
              obtain ⟨tk, htk⟩ : ∃ t, ts[i] = t := ⟨_, rfl⟩
              obtain ⟨tq, tt⟩ := tk
              have hfc : fl[i]'(by omega) = c := by rw [← HF2.out i (by omega) hif]; exact hc
              have hlet := HLET.out c (by rw [← hfc]; exact List.getElem_mem _)
              have hT := (HT.out.below HB.out).cells (i + 1) (by simp; omega)
              have hge : (({ q := false, t := wt } : Tok) :: ts)[i + 1]'(by simp; omega) = ⟨tq, tt⟩ := htk
              rw [hge] at hT
              have c0 : wr.cell? ⟨lb, (i + 1) * 2, none⟩ = some (.bool tq) := hT.1
              have c1 : wr.cell? ⟨lb, (i + 1) * 2 + 1, none⟩ = some (.string ⟨tt.toArray⟩) := hT.2
              have htl : tt.length ≤ 100000000 := HLEN.out ⟨tq, tt⟩ (by rw [← htk]; exact List.mem_cons_of_mem _ (List.getElem_mem _))
              have HPA : Hid (argsF fl ts s0 = match putF c ⟨tq, tt⟩ st with | none => none | some s' => argsF (fl.drop (i + 1)) (ts.drop (i + 1)) s') := by
                show _ = _
                rw [HA.out, List.drop_eq_getElem_cons (show i < fl.length by omega), List.drop_eq_getElem_cons hlt2, hfc, htk]
                rfl
              obtain ⟨g2, k2⟩ := new_block wr (.cells #[.bool tq, .string ⟨tt.toArray⟩] 90)
              have HB2 := Lib.hid (HB.out.trans (g2.mono HB.out.size))
              have HR2 := Lib.hid (stays HR.out g2)
              have HS2 := Lib.hid (stays HS.out g2)
              obtain ⟨p, hp⟩ : ∃ p, p = numF tt := ⟨_, rfl⟩
              have HNB := Lib.hid (rnumber_any tq tt (wr.alloc (.cells #[.bool tq, .string ⟨tt.toArray⟩] 90)) htl)
              rw [← hp] at HNB
              have HP : Hid (numF tt = p) := hp.symm
              obtain ⟨cn, hcn⟩ : ∃ x, x = c := ⟨_, rfl⟩
              clear hT hge htk hfc g2 k2 hp
              rcases hlet with h | h | h | h | h | h
              · have HC : Hid (c = 97) := h
                subst h
                go_wp2_with (fail)
                with_reducible refine HNB.out.mono ?_
                rintro e w3 ⟨rfl, hB3⟩
                have HB3 := Lib.hid (HB2.out.trans (hB3.mono HB2.out.size))
                have HR3 := Lib.hid (stays HR2.out hB3)
                have HS3 := Lib.hid (stays HS2.out hB3)
                clear HNB hB3
                cases p with
                | none =>
                  simp only [Option.getD_none, Option.isSome_none, Bool.false_and]
                  have HE : Hid (stepF (⟨false, wt⟩ :: ts) = (zeroS, 31)) := by
                    have hput : putF 97 ⟨tq, tt⟩ st = none := by cases tq <;> simp [putF, HP.out]
                    have h := HPA.out
                    rw [hput] at h
                    exact step_31 HNZ.out HSL.out h
                  go_upto_region 22 with (fail)
                  refine wp_region_lit ?_
                  refine wpList_run (w' := w3) rfl (exec_load_row 35 _ rfl sb _ _ (.struct (Tryd.prog.fieldsOf 35)) rfl HS3.out (by kernel_rfl) rfl (by kernel_rfl)) ?_
                  refine wpList_skip (w' := (w3).setCells rb 0 (stepC st).toList) rfl rfl (exec_store 35 _ _ rfl _ _ rfl rfl (run_store_row _ rb 0 _ _ 35 (stepC st) HR3.out (by simp [stepC]) (by kernel_rfl) (by simp [stepC, Value.oneCell']))) ?_
                  refine wpList_run (v := .int .i64 31) (w' := (w3).setCells rb 0 (stepC st).toList) rfl (by kernel_rfl) ?_
                  refine wpList_nil ?_
                  go_simp
                  go_wp2
                  have hst := setCells_block 35 rb (stepC st).toList 0 _ _ HR3.out
                  exact bodyPost_ret (v := .tuple #[.agg (stepC st), .int .i64 31]) (results_step_any rfl rfl (by rfl) hst) rfl ⟨_, _, rfl, ⟨by rw [HE.out]; rfl, _, rfl, fun h => by rw [HE.out] at h; cases h⟩, setCells_below (by rw [HRB.out]; exact Nat.le_refl _) _ _ _ _ HB3.out⟩
                | some n =>
                  cases tq with
                  | true =>
                    simp only [Option.getD_some, Option.isSome_some, Bool.true_and, Bool.not_true]
                    have HE : Hid (stepF (⟨false, wt⟩ :: ts) = (zeroS, 31)) := by
                      have hput : putF 97 ⟨true, tt⟩ st = none := by simp [putF]
                      have h := HPA.out
                      rw [hput] at h
                      exact step_31 HNZ.out HSL.out h
                    go_upto_region 22 with (fail)
                    refine wp_region_lit ?_
                    refine wpList_run (w' := w3) rfl (exec_load_row 35 _ rfl sb _ _ (.struct (Tryd.prog.fieldsOf 35)) rfl HS3.out (by kernel_rfl) rfl (by kernel_rfl)) ?_
                    refine wpList_skip (w' := (w3).setCells rb 0 (stepC st).toList) rfl rfl (exec_store 35 _ _ rfl _ _ rfl rfl (run_store_row _ rb 0 _ _ 35 (stepC st) HR3.out (by simp [stepC]) (by kernel_rfl) (by simp [stepC, Value.oneCell']))) ?_
                    refine wpList_run (v := .int .i64 31) (w' := (w3).setCells rb 0 (stepC st).toList) rfl (by kernel_rfl) ?_
                    refine wpList_nil ?_
                    go_simp
                    go_wp2
                    have hst := setCells_block 35 rb (stepC st).toList 0 _ _ HR3.out
                    exact bodyPost_ret (v := .tuple #[.agg (stepC st), .int .i64 31]) (results_step_any rfl rfl (by rfl) hst) rfl ⟨_, _, rfl, ⟨by rw [HE.out]; rfl, _, rfl, fun h => by rw [HE.out] at h; cases h⟩, setCells_below (by rw [HRB.out]; exact Nat.le_refl _) _ _ _ _ HB3.out⟩
                  | false =>
                    simp only [Option.getD_some, Option.isSome_some, Bool.true_and, Bool.not_false]
                    have HPU : Hid (argsF fl ts s0 = argsF (fl.drop (i + 1)) (ts.drop (i + 1)) ({ st with a := n })) := by
                      have hput : putF 97 ⟨false, tt⟩ st = some ({ st with a := n }) := by simp [putF, HP.out]
                      have h := HPA.out
                      rw [hput] at h
                      exact h
                    have hcs : (w3).cell? ⟨sb, 1, none⟩ = some (.int .i64 st.a) := (cell_of_row _ _ 1 _ _ _ HS3.out).trans rfl
                    have hfz : (w3).frozen? ⟨sb, 1, none⟩ = false := frozen_of_row _ _ _ _ _ HS3.out
                    have hsbr : Hid (rb ≠ sb) := by show _ ≠ _; rw [HRB.out, HSB.out]; omega
                    go_wp2_with (fail)
                    go_roundw
                    case rel =>
                      refine ⟨i + 1, { st with a := n }, by omega, by go_num, ?_, ?_, ?_, HPU⟩
                      · exact Lib.hid (setCells_below (by rw [HSB.out]; omega) [.int .i64 n] 1 _ _ HB3.out)
                      · exact Lib.hid ((set_other _ _ _ _ _ hsbr.out).trans HR3.out)
                      · exact Lib.hid (set_block (w3) sb 1 _ _ (.int .i64 n) HS3.out)
                    case measure => simp [intOf] <;> omega
              · have HC : Hid (c = 98) := h
                subst h
                go_wp2_with (fail)
                with_reducible refine HNB.out.mono ?_
                rintro e w3 ⟨rfl, hB3⟩
                have HB3 := Lib.hid (HB2.out.trans (hB3.mono HB2.out.size))
                have HR3 := Lib.hid (stays HR2.out hB3)
                have HS3 := Lib.hid (stays HS2.out hB3)
                clear HNB hB3
                cases p with
                | none =>
                  simp only [Option.getD_none, Option.isSome_none, Bool.false_and]
                  have HE : Hid (stepF (⟨false, wt⟩ :: ts) = (zeroS, 31)) := by
                    have hput : putF 98 ⟨tq, tt⟩ st = none := by cases tq <;> simp [putF, HP.out]
                    have h := HPA.out
                    rw [hput] at h
                    exact step_31 HNZ.out HSL.out h
                  go_upto_region 22 with (fail)
                  refine wp_region_lit ?_
                  refine wpList_run (w' := w3) rfl (exec_load_row 35 _ rfl sb _ _ (.struct (Tryd.prog.fieldsOf 35)) rfl HS3.out (by kernel_rfl) rfl (by kernel_rfl)) ?_
                  refine wpList_skip (w' := (w3).setCells rb 0 (stepC st).toList) rfl rfl (exec_store 35 _ _ rfl _ _ rfl rfl (run_store_row _ rb 0 _ _ 35 (stepC st) HR3.out (by simp [stepC]) (by kernel_rfl) (by simp [stepC, Value.oneCell']))) ?_
                  refine wpList_run (v := .int .i64 31) (w' := (w3).setCells rb 0 (stepC st).toList) rfl (by kernel_rfl) ?_
                  refine wpList_nil ?_
                  go_simp
                  go_wp2
                  have hst := setCells_block 35 rb (stepC st).toList 0 _ _ HR3.out
                  exact bodyPost_ret (v := .tuple #[.agg (stepC st), .int .i64 31]) (results_step_any rfl rfl (by rfl) hst) rfl ⟨_, _, rfl, ⟨by rw [HE.out]; rfl, _, rfl, fun h => by rw [HE.out] at h; cases h⟩, setCells_below (by rw [HRB.out]; exact Nat.le_refl _) _ _ _ _ HB3.out⟩
                | some n =>
                  cases tq with
                  | true =>
                    simp only [Option.getD_some, Option.isSome_some, Bool.true_and, Bool.not_true]
                    have HE : Hid (stepF (⟨false, wt⟩ :: ts) = (zeroS, 31)) := by
                      have hput : putF 98 ⟨true, tt⟩ st = none := by simp [putF]
                      have h := HPA.out
                      rw [hput] at h
                      exact step_31 HNZ.out HSL.out h
                    go_upto_region 22 with (fail)
                    refine wp_region_lit ?_
                    refine wpList_run (w' := w3) rfl (exec_load_row 35 _ rfl sb _ _ (.struct (Tryd.prog.fieldsOf 35)) rfl HS3.out (by kernel_rfl) rfl (by kernel_rfl)) ?_
                    refine wpList_skip (w' := (w3).setCells rb 0 (stepC st).toList) rfl rfl (exec_store 35 _ _ rfl _ _ rfl rfl (run_store_row _ rb 0 _ _ 35 (stepC st) HR3.out (by simp [stepC]) (by kernel_rfl) (by simp [stepC, Value.oneCell']))) ?_
                    refine wpList_run (v := .int .i64 31) (w' := (w3).setCells rb 0 (stepC st).toList) rfl (by kernel_rfl) ?_
                    refine wpList_nil ?_
                    go_simp
                    go_wp2
                    have hst := setCells_block 35 rb (stepC st).toList 0 _ _ HR3.out
                    exact bodyPost_ret (v := .tuple #[.agg (stepC st), .int .i64 31]) (results_step_any rfl rfl (by rfl) hst) rfl ⟨_, _, rfl, ⟨by rw [HE.out]; rfl, _, rfl, fun h => by rw [HE.out] at h; cases h⟩, setCells_below (by rw [HRB.out]; exact Nat.le_refl _) _ _ _ _ HB3.out⟩
                  | false =>
                    simp only [Option.getD_some, Option.isSome_some, Bool.true_and, Bool.not_false]
                    have HPU : Hid (argsF fl ts s0 = argsF (fl.drop (i + 1)) (ts.drop (i + 1)) ({ st with b := n })) := by
                      have hput : putF 98 ⟨false, tt⟩ st = some ({ st with b := n }) := by simp [putF, HP.out]
                      have h := HPA.out
                      rw [hput] at h
                      exact h
                    have hcs : (w3).cell? ⟨sb, 2, none⟩ = some (.int .i64 st.b) := (cell_of_row _ _ 2 _ _ _ HS3.out).trans rfl
                    have hfz : (w3).frozen? ⟨sb, 2, none⟩ = false := frozen_of_row _ _ _ _ _ HS3.out
                    have hsbr : Hid (rb ≠ sb) := by show _ ≠ _; rw [HRB.out, HSB.out]; omega
                    go_wp2_with (fail)
                    go_roundw
                    case rel =>
                      refine ⟨i + 1, { st with b := n }, by omega, by go_num, ?_, ?_, ?_, HPU⟩
                      · exact Lib.hid (setCells_below (by rw [HSB.out]; omega) [.int .i64 n] 2 _ _ HB3.out)
                      · exact Lib.hid ((set_other _ _ _ _ _ hsbr.out).trans HR3.out)
                      · exact Lib.hid (set_block (w3) sb 2 _ _ (.int .i64 n) HS3.out)
                    case measure => simp [intOf] <;> omega
              · have HC : Hid (c = 115) := h
                subst h
                clear HNB
                cases tq with
                | true =>
                  have HPU : Hid (argsF fl ts s0 = argsF (fl.drop (i + 1)) (ts.drop (i + 1)) ({ st with name := tt })) := by
                    have hput : putF 115 ⟨true, tt⟩ st = some ({ st with name := tt }) := by rfl
                    have h := HPA.out
                    rw [hput] at h
                    exact h
                  have hcs : ((wr.alloc (.cells #[.bool true, .string ⟨tt.toArray⟩] 90))).cell? ⟨sb, 3, none⟩ = some (.string ⟨st.name.toArray⟩) := (cell_of_row _ _ 3 _ _ _ HS2.out).trans rfl
                  have hfz : ((wr.alloc (.cells #[.bool true, .string ⟨tt.toArray⟩] 90))).frozen? ⟨sb, 3, none⟩ = false := frozen_of_row _ _ _ _ _ HS2.out
                  have hsbr : Hid (rb ≠ sb) := by show _ ≠ _; rw [HRB.out, HSB.out]; omega
                  go_wp2_with (fail)
                  go_roundw
                  case rel =>
                    refine ⟨i + 1, { st with name := tt }, by omega, by go_num, ?_, ?_, ?_, HPU⟩
                    · exact Lib.hid (setCells_below (by rw [HSB.out]; omega) [.string ⟨tt.toArray⟩] 3 _ _ HB2.out)
                    · exact Lib.hid ((set_other _ _ _ _ _ hsbr.out).trans HR2.out)
                    · exact Lib.hid (set_block ((wr.alloc (.cells #[.bool true, .string ⟨tt.toArray⟩] 90))) sb 3 _ _ (.string ⟨tt.toArray⟩) HS2.out)
                  case measure => simp [intOf] <;> omega
                | false =>
                  have HE : Hid (stepF (⟨false, wt⟩ :: ts) = (zeroS, 31)) := by
                    have hput : putF 115 ⟨false, tt⟩ st = none := by rfl
                    have h := HPA.out
                    rw [hput] at h
                    exact step_31 HNZ.out HSL.out h
                  go_upto_region 18 with (fail)
                  refine wp_region_lit ?_
                  refine wpList_run (w' := (wr.alloc (.cells #[.bool false, .string ⟨tt.toArray⟩] 90))) rfl (exec_load_row 35 _ rfl sb _ _ (.struct (Tryd.prog.fieldsOf 35)) rfl HS2.out (by kernel_rfl) rfl (by kernel_rfl)) ?_
                  refine wpList_skip (w' := ((wr.alloc (.cells #[.bool false, .string ⟨tt.toArray⟩] 90))).setCells rb 0 (stepC st).toList) rfl rfl (exec_store 35 _ _ rfl _ _ rfl rfl (run_store_row _ rb 0 _ _ 35 (stepC st) HR2.out (by simp [stepC]) (by kernel_rfl) (by simp [stepC, Value.oneCell']))) ?_
                  refine wpList_run (v := .int .i64 31) (w' := ((wr.alloc (.cells #[.bool false, .string ⟨tt.toArray⟩] 90))).setCells rb 0 (stepC st).toList) rfl (by kernel_rfl) ?_
                  refine wpList_nil ?_
                  go_simp
                  go_wp2
                  have hst := setCells_block 35 rb (stepC st).toList 0 _ _ HR2.out
                  exact bodyPost_ret (v := .tuple #[.agg (stepC st), .int .i64 31]) (results_step_any rfl rfl (by rfl) hst) rfl ⟨_, _, rfl, ⟨by rw [HE.out]; rfl, _, rfl, fun h => by rw [HE.out] at h; cases h⟩, setCells_below (by rw [HRB.out]; exact Nat.le_refl _) _ _ _ _ HB2.out⟩
              · have HC : Hid (c = 107) := h
                subst h
                go_wp2_with (fail)
                with_reducible refine HNB.out.mono ?_
                rintro e w3 ⟨rfl, hB3⟩
                have HB3 := Lib.hid (HB2.out.trans (hB3.mono HB2.out.size))
                have HR3 := Lib.hid (stays HR2.out hB3)
                have HS3 := Lib.hid (stays HS2.out hB3)
                clear HNB hB3
                cases p with
                | none =>
                  simp only [Option.getD_none, Option.isSome_none, Bool.false_and]
                  have HE : Hid (stepF (⟨false, wt⟩ :: ts) = (zeroS, 31)) := by
                    have hput : putF 107 ⟨tq, tt⟩ st = none := by cases tq <;> simp [putF, HP.out]
                    have h := HPA.out
                    rw [hput] at h
                    exact step_31 HNZ.out HSL.out h
                  go_upto_region 22 with (fail)
                  refine wp_region_lit ?_
                  refine wpList_run (w' := w3) rfl (exec_load_row 35 _ rfl sb _ _ (.struct (Tryd.prog.fieldsOf 35)) rfl HS3.out (by kernel_rfl) rfl (by kernel_rfl)) ?_
                  refine wpList_skip (w' := (w3).setCells rb 0 (stepC st).toList) rfl rfl (exec_store 35 _ _ rfl _ _ rfl rfl (run_store_row _ rb 0 _ _ 35 (stepC st) HR3.out (by simp [stepC]) (by kernel_rfl) (by simp [stepC, Value.oneCell']))) ?_
                  refine wpList_run (v := .int .i64 31) (w' := (w3).setCells rb 0 (stepC st).toList) rfl (by kernel_rfl) ?_
                  refine wpList_nil ?_
                  go_simp
                  go_wp2
                  have hst := setCells_block 35 rb (stepC st).toList 0 _ _ HR3.out
                  exact bodyPost_ret (v := .tuple #[.agg (stepC st), .int .i64 31]) (results_step_any rfl rfl (by rfl) hst) rfl ⟨_, _, rfl, ⟨by rw [HE.out]; rfl, _, rfl, fun h => by rw [HE.out] at h; cases h⟩, setCells_below (by rw [HRB.out]; exact Nat.le_refl _) _ _ _ _ HB3.out⟩
                | some n =>
                  cases tq with
                  | true =>
                    simp only [Option.getD_some, Option.isSome_some, Bool.true_and, Bool.not_true]
                    have HE : Hid (stepF (⟨false, wt⟩ :: ts) = (zeroS, 31)) := by
                      have hput : putF 107 ⟨true, tt⟩ st = none := by simp [putF]
                      have h := HPA.out
                      rw [hput] at h
                      exact step_31 HNZ.out HSL.out h
                    go_upto_region 22 with (fail)
                    refine wp_region_lit ?_
                    refine wpList_run (w' := w3) rfl (exec_load_row 35 _ rfl sb _ _ (.struct (Tryd.prog.fieldsOf 35)) rfl HS3.out (by kernel_rfl) rfl (by kernel_rfl)) ?_
                    refine wpList_skip (w' := (w3).setCells rb 0 (stepC st).toList) rfl rfl (exec_store 35 _ _ rfl _ _ rfl rfl (run_store_row _ rb 0 _ _ 35 (stepC st) HR3.out (by simp [stepC]) (by kernel_rfl) (by simp [stepC, Value.oneCell']))) ?_
                    refine wpList_run (v := .int .i64 31) (w' := (w3).setCells rb 0 (stepC st).toList) rfl (by kernel_rfl) ?_
                    refine wpList_nil ?_
                    go_simp
                    go_wp2
                    have hst := setCells_block 35 rb (stepC st).toList 0 _ _ HR3.out
                    exact bodyPost_ret (v := .tuple #[.agg (stepC st), .int .i64 31]) (results_step_any rfl rfl (by rfl) hst) rfl ⟨_, _, rfl, ⟨by rw [HE.out]; rfl, _, rfl, fun h => by rw [HE.out] at h; cases h⟩, setCells_below (by rw [HRB.out]; exact Nat.le_refl _) _ _ _ _ HB3.out⟩
                  | false =>
                    simp only [Option.getD_some, Option.isSome_some, Bool.true_and, Bool.not_false]
                    have HPU : Hid (argsF fl ts s0 = argsF (fl.drop (i + 1)) (ts.drop (i + 1)) ({ st with k := n })) := by
                      have hput : putF 107 ⟨false, tt⟩ st = some ({ st with k := n }) := by simp [putF, HP.out]
                      have h := HPA.out
                      rw [hput] at h
                      exact h
                    have hcs : (w3).cell? ⟨sb, 4, none⟩ = some (.int .i64 st.k) := (cell_of_row _ _ 4 _ _ _ HS3.out).trans rfl
                    have hfz : (w3).frozen? ⟨sb, 4, none⟩ = false := frozen_of_row _ _ _ _ _ HS3.out
                    have hsbr : Hid (rb ≠ sb) := by show _ ≠ _; rw [HRB.out, HSB.out]; omega
                    go_wp2_with (fail)
                    go_roundw
                    case rel =>
                      refine ⟨i + 1, { st with k := n }, by omega, by go_num, ?_, ?_, ?_, HPU⟩
                      · exact Lib.hid (setCells_below (by rw [HSB.out]; omega) [.int .i64 n] 4 _ _ HB3.out)
                      · exact Lib.hid ((set_other _ _ _ _ _ hsbr.out).trans HR3.out)
                      · exact Lib.hid (set_block (w3) sb 4 _ _ (.int .i64 n) HS3.out)
                    case measure => simp [intOf] <;> omega
              · have HC : Hid (c = 110) := h
                subst h
                go_wp2_with (fail)
                with_reducible refine HNB.out.mono ?_
                rintro e w3 ⟨rfl, hB3⟩
                have HB3 := Lib.hid (HB2.out.trans (hB3.mono HB2.out.size))
                have HR3 := Lib.hid (stays HR2.out hB3)
                have HS3 := Lib.hid (stays HS2.out hB3)
                clear HNB hB3
                cases p with
                | none =>
                  simp only [Option.getD_none, Option.isSome_none, Bool.false_and]
                  have HE : Hid (stepF (⟨false, wt⟩ :: ts) = (zeroS, 31)) := by
                    have hput : putF 110 ⟨tq, tt⟩ st = none := by cases tq <;> simp [putF, HP.out]
                    have h := HPA.out
                    rw [hput] at h
                    exact step_31 HNZ.out HSL.out h
                  go_upto_region 22 with (fail)
                  refine wp_region_lit ?_
                  refine wpList_run (w' := w3) rfl (exec_load_row 35 _ rfl sb _ _ (.struct (Tryd.prog.fieldsOf 35)) rfl HS3.out (by kernel_rfl) rfl (by kernel_rfl)) ?_
                  refine wpList_skip (w' := (w3).setCells rb 0 (stepC st).toList) rfl rfl (exec_store 35 _ _ rfl _ _ rfl rfl (run_store_row _ rb 0 _ _ 35 (stepC st) HR3.out (by simp [stepC]) (by kernel_rfl) (by simp [stepC, Value.oneCell']))) ?_
                  refine wpList_run (v := .int .i64 31) (w' := (w3).setCells rb 0 (stepC st).toList) rfl (by kernel_rfl) ?_
                  refine wpList_nil ?_
                  go_simp
                  go_wp2
                  have hst := setCells_block 35 rb (stepC st).toList 0 _ _ HR3.out
                  exact bodyPost_ret (v := .tuple #[.agg (stepC st), .int .i64 31]) (results_step_any rfl rfl (by rfl) hst) rfl ⟨_, _, rfl, ⟨by rw [HE.out]; rfl, _, rfl, fun h => by rw [HE.out] at h; cases h⟩, setCells_below (by rw [HRB.out]; exact Nat.le_refl _) _ _ _ _ HB3.out⟩
                | some n =>
                  cases tq with
                  | true =>
                    simp only [Option.getD_some, Option.isSome_some, Bool.true_and, Bool.not_true]
                    have HE : Hid (stepF (⟨false, wt⟩ :: ts) = (zeroS, 31)) := by
                      have hput : putF 110 ⟨true, tt⟩ st = none := by simp [putF]
                      have h := HPA.out
                      rw [hput] at h
                      exact step_31 HNZ.out HSL.out h
                    go_upto_region 22 with (fail)
                    refine wp_region_lit ?_
                    refine wpList_run (w' := w3) rfl (exec_load_row 35 _ rfl sb _ _ (.struct (Tryd.prog.fieldsOf 35)) rfl HS3.out (by kernel_rfl) rfl (by kernel_rfl)) ?_
                    refine wpList_skip (w' := (w3).setCells rb 0 (stepC st).toList) rfl rfl (exec_store 35 _ _ rfl _ _ rfl rfl (run_store_row _ rb 0 _ _ 35 (stepC st) HR3.out (by simp [stepC]) (by kernel_rfl) (by simp [stepC, Value.oneCell']))) ?_
                    refine wpList_run (v := .int .i64 31) (w' := (w3).setCells rb 0 (stepC st).toList) rfl (by kernel_rfl) ?_
                    refine wpList_nil ?_
                    go_simp
                    go_wp2
                    have hst := setCells_block 35 rb (stepC st).toList 0 _ _ HR3.out
                    exact bodyPost_ret (v := .tuple #[.agg (stepC st), .int .i64 31]) (results_step_any rfl rfl (by rfl) hst) rfl ⟨_, _, rfl, ⟨by rw [HE.out]; rfl, _, rfl, fun h => by rw [HE.out] at h; cases h⟩, setCells_below (by rw [HRB.out]; exact Nat.le_refl _) _ _ _ _ HB3.out⟩
                  | false =>
                    simp only [Option.getD_some, Option.isSome_some, Bool.true_and, Bool.not_false]
                    have HPU : Hid (argsF fl ts s0 = argsF (fl.drop (i + 1)) (ts.drop (i + 1)) ({ st with n := n })) := by
                      have hput : putF 110 ⟨false, tt⟩ st = some ({ st with n := n }) := by simp [putF, HP.out]
                      have h := HPA.out
                      rw [hput] at h
                      exact h
                    have hcs : (w3).cell? ⟨sb, 5, none⟩ = some (.int .i64 st.n) := (cell_of_row _ _ 5 _ _ _ HS3.out).trans rfl
                    have hfz : (w3).frozen? ⟨sb, 5, none⟩ = false := frozen_of_row _ _ _ _ _ HS3.out
                    have hsbr : Hid (rb ≠ sb) := by show _ ≠ _; rw [HRB.out, HSB.out]; omega
                    go_wp2_with (fail)
                    go_roundw
                    case rel =>
                      refine ⟨i + 1, { st with n := n }, by omega, by go_num, ?_, ?_, ?_, HPU⟩
                      · exact Lib.hid (setCells_below (by rw [HSB.out]; omega) [.int .i64 n] 5 _ _ HB3.out)
                      · exact Lib.hid ((set_other _ _ _ _ _ hsbr.out).trans HR3.out)
                      · exact Lib.hid (set_block (w3) sb 5 _ _ (.int .i64 n) HS3.out)
                    case measure => simp [intOf] <;> omega
              · have HC : Hid (c = 109) := h
                subst h
                go_wp2_with (fail)
                with_reducible refine HNB.out.mono ?_
                rintro e w3 ⟨rfl, hB3⟩
                have HB3 := Lib.hid (HB2.out.trans (hB3.mono HB2.out.size))
                have HR3 := Lib.hid (stays HR2.out hB3)
                have HS3 := Lib.hid (stays HS2.out hB3)
                clear HNB hB3
                cases p with
                | none =>
                  simp only [Option.getD_none, Option.isSome_none, Bool.false_and]
                  have HE : Hid (stepF (⟨false, wt⟩ :: ts) = (zeroS, 31)) := by
                    have hput : putF 109 ⟨tq, tt⟩ st = none := by cases tq <;> simp [putF, HP.out]
                    have h := HPA.out
                    rw [hput] at h
                    exact step_31 HNZ.out HSL.out h
                  go_upto_region 22 with (fail)
                  refine wp_region_lit ?_
                  refine wpList_run (w' := w3) rfl (exec_load_row 35 _ rfl sb _ _ (.struct (Tryd.prog.fieldsOf 35)) rfl HS3.out (by kernel_rfl) rfl (by kernel_rfl)) ?_
                  refine wpList_skip (w' := (w3).setCells rb 0 (stepC st).toList) rfl rfl (exec_store 35 _ _ rfl _ _ rfl rfl (run_store_row _ rb 0 _ _ 35 (stepC st) HR3.out (by simp [stepC]) (by kernel_rfl) (by simp [stepC, Value.oneCell']))) ?_
                  refine wpList_run (v := .int .i64 31) (w' := (w3).setCells rb 0 (stepC st).toList) rfl (by kernel_rfl) ?_
                  refine wpList_nil ?_
                  go_simp
                  go_wp2
                  have hst := setCells_block 35 rb (stepC st).toList 0 _ _ HR3.out
                  exact bodyPost_ret (v := .tuple #[.agg (stepC st), .int .i64 31]) (results_step_any rfl rfl (by rfl) hst) rfl ⟨_, _, rfl, ⟨by rw [HE.out]; rfl, _, rfl, fun h => by rw [HE.out] at h; cases h⟩, setCells_below (by rw [HRB.out]; exact Nat.le_refl _) _ _ _ _ HB3.out⟩
                | some n =>
                  cases tq with
                  | true =>
                    simp only [Option.getD_some, Option.isSome_some, Bool.true_and, Bool.not_true]
                    have HE : Hid (stepF (⟨false, wt⟩ :: ts) = (zeroS, 31)) := by
                      have hput : putF 109 ⟨true, tt⟩ st = none := by simp [putF]
                      have h := HPA.out
                      rw [hput] at h
                      exact step_31 HNZ.out HSL.out h
                    go_upto_region 22 with (fail)
                    refine wp_region_lit ?_
                    refine wpList_run (w' := w3) rfl (exec_load_row 35 _ rfl sb _ _ (.struct (Tryd.prog.fieldsOf 35)) rfl HS3.out (by kernel_rfl) rfl (by kernel_rfl)) ?_
                    refine wpList_skip (w' := (w3).setCells rb 0 (stepC st).toList) rfl rfl (exec_store 35 _ _ rfl _ _ rfl rfl (run_store_row _ rb 0 _ _ 35 (stepC st) HR3.out (by simp [stepC]) (by kernel_rfl) (by simp [stepC, Value.oneCell']))) ?_
                    refine wpList_run (v := .int .i64 31) (w' := (w3).setCells rb 0 (stepC st).toList) rfl (by kernel_rfl) ?_
                    refine wpList_nil ?_
                    go_simp
                    go_wp2
                    have hst := setCells_block 35 rb (stepC st).toList 0 _ _ HR3.out
                    exact bodyPost_ret (v := .tuple #[.agg (stepC st), .int .i64 31]) (results_step_any rfl rfl (by rfl) hst) rfl ⟨_, _, rfl, ⟨by rw [HE.out]; rfl, _, rfl, fun h => by rw [HE.out] at h; cases h⟩, setCells_below (by rw [HRB.out]; exact Nat.le_refl _) _ _ _ _ HB3.out⟩
                  | false =>
                    simp only [Option.getD_some, Option.isSome_some, Bool.true_and, Bool.not_false]
                    by_cases hn : n < 0
                    · have HE : Hid (stepF (⟨false, wt⟩ :: ts) = (zeroS, 31)) := by
                        have hput : putF 109 ⟨false, tt⟩ st = none := by simp [putF, HP.out, hn]
                        have h := HPA.out
                        rw [hput] at h
                        exact step_31 HNZ.out HSL.out h
                      go_upto_region 22 with (fail)
                      refine wp_region_lit ?_
                      refine wpList_run (w' := w3) rfl (exec_load_row 35 _ rfl sb _ _ (.struct (Tryd.prog.fieldsOf 35)) rfl HS3.out (by kernel_rfl) rfl (by kernel_rfl)) ?_
                      refine wpList_skip (w' := (w3).setCells rb 0 (stepC st).toList) rfl rfl (exec_store 35 _ _ rfl _ _ rfl rfl (run_store_row _ rb 0 _ _ 35 (stepC st) HR3.out (by simp [stepC]) (by kernel_rfl) (by simp [stepC, Value.oneCell']))) ?_
                      refine wpList_run (v := .int .i64 31) (w' := (w3).setCells rb 0 (stepC st).toList) rfl (by kernel_rfl) ?_
                      refine wpList_nil ?_
                      go_simp
                      go_wp2
                      have hst := setCells_block 35 rb (stepC st).toList 0 _ _ HR3.out
                      exact bodyPost_ret (v := .tuple #[.agg (stepC st), .int .i64 31]) (results_step_any rfl rfl (by rfl) hst) rfl ⟨_, _, rfl, ⟨by rw [HE.out]; rfl, _, rfl, fun h => by rw [HE.out] at h; cases h⟩, setCells_below (by rw [HRB.out]; exact Nat.le_refl _) _ _ _ _ HB3.out⟩
                    · have HPU : Hid (argsF fl ts s0 = argsF (fl.drop (i + 1)) (ts.drop (i + 1)) ({ st with n := n })) := by
                        have hput : putF 109 ⟨false, tt⟩ st = some ({ st with n := n }) := by simp [putF, HP.out, hn]
                        have h := HPA.out
                        rw [hput] at h
                        exact h
                      have hcs : (w3).cell? ⟨sb, 5, none⟩ = some (.int .i64 st.n) := (cell_of_row _ _ 5 _ _ _ HS3.out).trans rfl
                      have hfz : (w3).frozen? ⟨sb, 5, none⟩ = false := frozen_of_row _ _ _ _ _ HS3.out
                      have hsbr : Hid (rb ≠ sb) := by show _ ≠ _; rw [HRB.out, HSB.out]; omega
                      go_wp2_with (fail)
                      go_roundw
                      case rel =>
                        refine ⟨i + 1, { st with n := n }, by omega, by go_num, ?_, ?_, ?_, HPU⟩
                        · exact Lib.hid (setCells_below (by rw [HSB.out]; omega) [.int .i64 n] 5 _ _ HB3.out)
                        · exact Lib.hid ((set_other _ _ _ _ _ hsbr.out).trans HR3.out)
                        · exact Lib.hid (set_block (w3) sb 5 _ _ (.int .i64 n) HS3.out)
                      case measure => simp [intOf] <;> omega
            · obtain rfl : i = ts.length := by omega
              have HE : Hid (stepF (⟨false, wt⟩ :: ts) = (st, 0)) := step_0 HNZ.out HSL.out (by rw [HA.out, List.drop_eq_nil_of_le (by omega), List.drop_eq_nil_of_le (by omega)]; rfl)
              go_upto_region 31 with (fail)
              refine wp_region_lit ?_
              refine wpList_run (w' := wr) rfl (exec_load_row 35 _ rfl sb _ _ (.struct (Tryd.prog.fieldsOf 35)) rfl HS.out (by kernel_rfl) rfl (by kernel_rfl)) ?_
              refine wpList_skip (w' := (wr).setCells rb 0 (stepC st).toList) rfl rfl (exec_store 35 _ _ rfl _ _ rfl rfl (run_store_row _ rb 0 _ _ 35 (stepC st) HR.out (by simp [stepC]) (by kernel_rfl) (by simp [stepC, Value.oneCell']))) ?_
              refine wpList_run (v := .int .i64 0) (w' := (wr).setCells rb 0 (stepC st).toList) rfl (by kernel_rfl) ?_
              refine wpList_nil ?_
              go_simp
              go_wp2
              have hst := setCells_block 35 rb (stepC st).toList 0 _ _ HR.out
              exact bodyPost_ret (v := .tuple #[.agg (stepC st), .int .i64 0]) (results_step_any rfl rfl (by rfl) hst) rfl ⟨_, _, rfl, ⟨by rw [HE.out]; rfl, _, rfl, fun _ => by rw [HE.out]⟩, setCells_below (by rw [HRB.out]; exact Nat.le_refl _) _ _ _ _ HB.out⟩
        · have hln : ¬ (fs.size : Int) = ((ts.length + 1 : Nat) : Int) - 1 := by omega
          have HE : Hid (stepF (⟨false, wt⟩ :: ts) = (zeroS, 31)) := by
            show (if false = true ∨ kindF wt = 0 then _ else if (shapeF (kindF wt)).length ≠ ts.length then _ else _) = _
            rw [if_neg (by simp; exact HNZ.out), if_pos (by rw [← HKK.out]; exact hl)]
          go_upto_region 11 with (fail)
          refine wp_region_lit ?_
          refine wpList_run (w' := wr) rfl (exec_load_row 35 _ rfl sb _ _ (.struct (Tryd.prog.fieldsOf 35)) rfl HS.out (by kernel_rfl) rfl (by kernel_rfl)) ?_
          refine wpList_skip (w' := (wr).setCells rb 0 (stepC ⟨kk, 0, 0, [], 0, 0⟩).toList) rfl rfl (exec_store 35 _ _ rfl _ _ rfl rfl (run_store_row _ rb 0 _ _ 35 (stepC ⟨kk, 0, 0, [], 0, 0⟩) HR.out (by simp [stepC]) (by kernel_rfl) (by simp [stepC, Value.oneCell']))) ?_
          refine wpList_run (v := .int .i64 31) (w' := (wr).setCells rb 0 (stepC ⟨kk, 0, 0, [], 0, 0⟩).toList) rfl (by kernel_rfl) ?_
          refine wpList_nil ?_
          go_simp
          go_wp2
          have hst := setCells_block 35 rb (stepC ⟨kk, 0, 0, [], 0, 0⟩).toList 0 _ _ HR.out
          exact bodyPost_ret (v := .tuple #[.agg (stepC ⟨kk, 0, 0, [], 0, 0⟩), .int .i64 31]) (results_step_any rfl rfl (by rfl) hst) rfl ⟨_, _, rfl, ⟨by rw [HE.out]; rfl, _, rfl, fun h => by rw [HE.out] at h; cases h⟩, setCells_below (by rw [HRB.out]; exact Nat.le_refl _) _ _ _ _ HB.out⟩

end Go.Proofs.YtaeoghagpeihkaaDoor

