/- ScriptWrites: the law, walked (by program: wip/tools/gen_slaw2.py). -/
import Derived.Test.YtaeoghagpeihkaaDoorSQ
import Derived.Test.YtaeoghagpeihkaaDoorSO
import Derived.Test.YtaeoghagpeihkaaDoorSG
set_option linter.unusedSimpArgs false
set_option linter.unusedVariables false
namespace Go.Proofs.YtaeoghagpeihkaaDoor
open Go.RowKit

set_option maxRecDepth 100000 in
set_option maxHeartbeats 4000000 in
theorem law_ScriptWrites (v : Value) (xs : List Stp) (t : List UInt8) (kind : Int) (w : World) (hv : Sps w w.heap.size v xs) (hx : SmS xs) (htl : t.length ≤ 1048576) (ht : TabT w) (he : ErrT w) : Calls Tryd.prog 7 #[v, .string ⟨t.toArray⟩, .int .i64 kind] w fun e w' => e = .returned (.bool true) ∧ Below w.heap.size w w' := by
  obtain ⟨ao, cp, rfl, -, -⟩ := hv.slice
  have HV := Lib.hid hv
  have HX := Lib.hid hx
  have HT := Lib.hid ht
  have HEE := Lib.hid he
  have HTL := Lib.hid htl
  obtain ⟨tb, htb⟩ : ∃ b, b = (⟨t.toArray⟩ : ByteArray) := ⟨_, rfl⟩
  have HTB : Hid (tb.size ≤ 100000000) := by show _ ≤ _; rw [htb]; show t.length ≤ _; omega
  rw [← htb]
  obtain ⟨m, hm⟩ : ∃ n, n = xs.length := ⟨_, rfl⟩
  have hmm : m ≤ 1048576 := by rw [hm]; exact hx.1
  rw [← hm] at HV ⊢
  have HM := Lib.hid hm
  clear hv hx ht he hm htl htb
  go_enter Tryd.func7, Tryd.ntmps7
  go_wp2_with (fail)
  go_loopw [7] (fun iv wr => ∃ i : Nat, i ≤ m ∧ iv = .int .i64 (i : Int) ∧ Hid (Below w.heap.size w wr)) (fun iv _ => m - (intOf iv).toNat)
  case atStart => exact ⟨0, Nat.zero_le _, rfl, Below.refl _ _⟩
  case round =>
    obtain ⟨i, hi, rfl, HB⟩ := hrel
    by_cases hlt : i < m
    · have hix : i < xs.length := by rw [← HM.out]; exact hlt
      obtain ⟨b, off, hb, -, hr⟩ := (HV.out.below HB.out (Nat.le_refl _)).at i hix
      subst hb
      have hsm := HX.out.2 xs[i] (List.getElem_mem _)
      have HRW : Hid (∀ W, Below w.heap.size w W → W.rangeAt b (off + i * 6) (stepL xs[i])) := fun W hW => by
        obtain ⟨b2, off2, e2, -, h2⟩ := (HV.out.below hW (Nat.le_refl _)).at i hix
        cases e2
        exact h2
      have HL1 : Hid (∀ W, Below w.heap.size w W → Calls Tryd.prog 12 #[.agg (stepC xs[i])] W fun e w' => e = .returned (.string ⟨(lineF xs[i]).toArray⟩) ∧ Below W.heap.size W w') := fun W hW => line_any xs[i] hsm.1 (by have := hsm.2; omega) W (HT.out.below hW)
      have HL2 : Hid (∀ W, Below w.heap.size w W → Calls Tryd.prog 15 #[.agg (stepC xs[i])] W fun e w' => e = .returned (.string ⟨(lineF xs[i]).toArray⟩) ∧ Below W.heap.size W w') := fun W hW => rline_any xs[i] hsm.1 (by have := hsm.2; omega) W (HT.out.below hW)
      obtain ⟨s, hs⟩ : ∃ s, s = xs[i] := ⟨_, rfl⟩
      simp only [← hs] at HL1 HL2 HRW
      obtain ⟨ls, hls⟩ : ∃ l, l = (⟨(lineF s).toArray⟩ : ByteArray) := ⟨_, rfl⟩
      simp only [← hls] at HL1 HL2
      have hkn : 0 ≤ (i : Int) ∧ (i : Int) < (m : Int) := by omega
      clear hr hsm hs hls hix
      go_upto_region 4 with (fail)
      refine wpIn_wide (n := 5).1 (wpIn_flowM (F0 := Fence.wide) (n0 := 5) (fun _ => trivial) (fun h => by cases h) (by kernel_rfl) (by kernel_rfl) 11 11 (by kernel_rfl) (fun j => ([0, 1, 2, 3, 4, 5, 6, 7, 8, 9, 10] : List Nat).getD j 0) (fun j => ([14, 15, 16, 17, 18, 19, 20, 21, 22, 23, 24] : List Nat).getD j 0) (by kernel_rfl) (by kernel_rfl) (by kernel_rfl) (by kernel_rfl) (by kernel_rfl) (by kernel_rfl) (by kernel_rfl) (fun j zv => ([(fun zv => zv = (.slice (some ⟨b, off, none⟩) m cp)), (fun zv => zv = (.int .i64 (i : Int))), (fun zv => zv = (.pointer (some ⟨b, off + i * 6, none⟩))), (fun zv => zv = (.agg (stepC s))), (fun zv => zv = (.string ls)), (fun zv => zv = (.slice (some ⟨b, off, none⟩) m cp)), (fun zv => zv = (.int .i64 (i : Int))), (fun zv => zv = (.pointer (some ⟨b, off + i * 6, none⟩))), (fun zv => zv = (.agg (stepC s))), (fun zv => zv = (.string ls)), (fun zv => zv = (.bool false))] : List (Value → Prop)).getD j (fun _ => True) zv) (fun _ _ W => Below w.heap.size w W) ?h0z ?stepz ?finz)
      case h0z => exact fun _ => HB.out.drew
      case stepz =>
        intro i o a W d vs hi ho hdi hJ hf hr hF
        replace hi : i < 11 := hi
        rcases (show i = 0 ∨ i = 1 ∨ i = 2 ∨ i = 3 ∨ i = 4 ∨ i = 5 ∨ i = 6 ∨ i = 7 ∨ i = 8 ∨ i = 9 ∨ i = 10 by omega) with rfl | rfl | rfl | rfl | rfl | rfl | rfl | rfl | rfl | rfl | rfl
        · replace ho := op_at ho (by rfl)
          subst ho
          have f0 : a.tmps.getD 0 undef = (.slice (some ⟨b, off, none⟩) m cp) := hf 0 (by kernel_rfl)
          exact .inl ⟨(fun k b h => by cases h), .inl ⟨0, by decide, rfl, (.slice (some ⟨b, off, none⟩) m cp), W, (by simp [go_sem, Act.eval, f0]), rfl, hJ⟩⟩
        · replace ho := op_at ho (by rfl)
          subst ho
          have f7 : a.tmps.getD 7 undef = (.int .i64 (i : Int)) := hf 7 (by kernel_rfl)
          exact .inl ⟨(fun k b h => by cases h), .inl ⟨1, by decide, rfl, (.int .i64 (i : Int)), W, (by simp [go_sem, Act.eval, f7]), rfl, hJ⟩⟩
        · replace ho := op_at ho (by rfl)
          subst ho
          have d0 : a.tmps.getD 14 undef = (.slice (some ⟨b, off, none⟩) m cp) := by have h1 := hF 0 (by decide) (hr 0 (by kernel_rfl)); exact h1.2.trans h1.1
          have d1 : a.tmps.getD 15 undef = (.int .i64 (i : Int)) := by have h1 := hF 1 (by decide) (hr 1 (by kernel_rfl)); exact h1.2.trans h1.1
          exact .inl ⟨(fun k b h => by cases h), .inl ⟨2, by decide, rfl, (.pointer (some ⟨b, off + i * 6, none⟩)), W, (by simp [go_sem, Act.eval, d0, d1]; intro h; omega), rfl, hJ⟩⟩
        · replace ho := op_at ho (by rfl)
          subst ho
          have d2 : a.tmps.getD 16 undef = (.pointer (some ⟨b, off + i * 6, none⟩)) := by have h1 := hF 2 (by decide) (hr 2 (by kernel_rfl)); exact h1.2.trans h1.1
          exact .inl ⟨(fun k b h => by cases h), .inl ⟨3, by decide, rfl, (.agg (stepC s)), W, (exec_load_mid 35 _ rfl b (off + i * 6) (stepL s) (.struct (Tryd.prog.fieldsOf 35)) (by simp only [Act.eval, d2]) (HRW.out W hJ) (by kernel_rfl) rfl (by kernel_rfl)), rfl, hJ⟩⟩
        · replace ho := op_at ho (by rfl)
          subst ho
          have d3 : a.tmps.getD 17 undef = (.agg (stepC s)) := by have h1 := hF 3 (by decide) (hr 3 (by kernel_rfl)); exact h1.2.trans h1.1
          refine .inl ⟨(fun k b h => by cases h), .inr (.inr ⟨4, by decide, rfl, 12, #[.agg (stepC s)], W, (by simp [go_sem, Act.eval, d3]), ?_⟩)⟩
          refine (callsIn_wide.2 (HL1.out W hJ)).mono ?_
          rintro e W' ⟨rfl, hBe⟩
          exact ⟨_, rfl, rfl, hJ.trans (hBe.mono hJ.size)⟩
        · replace ho := op_at ho (by rfl)
          subst ho
          have f0 : a.tmps.getD 0 undef = (.slice (some ⟨b, off, none⟩) m cp) := hf 0 (by kernel_rfl)
          exact .inl ⟨(fun k b h => by cases h), .inl ⟨5, by decide, rfl, (.slice (some ⟨b, off, none⟩) m cp), W, (by simp [go_sem, Act.eval, f0]), rfl, hJ⟩⟩
        · replace ho := op_at ho (by rfl)
          subst ho
          have f7 : a.tmps.getD 7 undef = (.int .i64 (i : Int)) := hf 7 (by kernel_rfl)
          exact .inl ⟨(fun k b h => by cases h), .inl ⟨6, by decide, rfl, (.int .i64 (i : Int)), W, (by simp [go_sem, Act.eval, f7]), rfl, hJ⟩⟩
        · replace ho := op_at ho (by rfl)
          subst ho
          have d5 : a.tmps.getD 19 undef = (.slice (some ⟨b, off, none⟩) m cp) := by have h1 := hF 5 (by decide) (hr 5 (by kernel_rfl)); exact h1.2.trans h1.1
          have d6 : a.tmps.getD 20 undef = (.int .i64 (i : Int)) := by have h1 := hF 6 (by decide) (hr 6 (by kernel_rfl)); exact h1.2.trans h1.1
          exact .inl ⟨(fun k b h => by cases h), .inl ⟨7, by decide, rfl, (.pointer (some ⟨b, off + i * 6, none⟩)), W, (by simp [go_sem, Act.eval, d5, d6]; intro h; omega), rfl, hJ⟩⟩
        · replace ho := op_at ho (by rfl)
          subst ho
          have d7 : a.tmps.getD 21 undef = (.pointer (some ⟨b, off + i * 6, none⟩)) := by have h1 := hF 7 (by decide) (hr 7 (by kernel_rfl)); exact h1.2.trans h1.1
          exact .inl ⟨(fun k b h => by cases h), .inl ⟨8, by decide, rfl, (.agg (stepC s)), W, (exec_load_mid 35 _ rfl b (off + i * 6) (stepL s) (.struct (Tryd.prog.fieldsOf 35)) (by simp only [Act.eval, d7]) (HRW.out W hJ) (by kernel_rfl) rfl (by kernel_rfl)), rfl, hJ⟩⟩
        · replace ho := op_at ho (by rfl)
          subst ho
          have d8 : a.tmps.getD 22 undef = (.agg (stepC s)) := by have h1 := hF 8 (by decide) (hr 8 (by kernel_rfl)); exact h1.2.trans h1.1
          refine .inl ⟨(fun k b h => by cases h), .inr (.inr ⟨9, by decide, rfl, 15, #[.agg (stepC s)], W, (by simp [go_sem, Act.eval, d8]), ?_⟩)⟩
          refine (callsIn_wide.2 (HL2.out W hJ)).mono ?_
          rintro e W' ⟨rfl, hBe⟩
          exact ⟨_, rfl, rfl, hJ.trans (hBe.mono hJ.size)⟩
        · replace ho := op_at ho (by rfl)
          subst ho
          have d4 : a.tmps.getD 18 undef = (.string ls) := by have h1 := hF 4 (by decide) (hr 4 (by kernel_rfl)); exact h1.2.trans h1.1
          have d9 : a.tmps.getD 23 undef = (.string ls) := by have h1 := hF 9 (by decide) (hr 9 (by kernel_rfl)); exact h1.2.trans h1.1
          exact .inl ⟨(fun k b h => by cases h), .inl ⟨10, by decide, rfl, (.bool false), W, (by simp [go_sem, Act.eval, d4, d9]), rfl, hJ⟩⟩
      case finz =>
        intro d vs Wz hall hJ hF
        have h0 : vs 0 = (.slice (some ⟨b, off, none⟩) m cp) := hF 0 (by decide)
        have h1 : vs 1 = (.int .i64 (i : Int)) := hF 1 (by decide)
        have h2 : vs 2 = (.pointer (some ⟨b, off + i * 6, none⟩)) := hF 2 (by decide)
        have h3 : vs 3 = (.agg (stepC s)) := hF 3 (by decide)
        have h4 : vs 4 = (.string ls) := hF 4 (by decide)
        have h5 : vs 5 = (.slice (some ⟨b, off, none⟩) m cp) := hF 5 (by decide)
        have h6 : vs 6 = (.int .i64 (i : Int)) := hF 6 (by decide)
        have h7 : vs 7 = (.pointer (some ⟨b, off + i * 6, none⟩)) := hF 7 (by decide)
        have h8 : vs 8 = (.agg (stepC s)) := hF 8 (by decide)
        have h9 : vs 9 = (.string ls) := hF 9 (by decide)
        have h10 : vs 10 = (.bool false) := hF 10 (by decide)
        clear hF
        show (_ : Exit → Act → World → Prop) Exit.normal (puts _ vs 11 _) Wz
        simp only [puts, h0, h1, h2, h3, h4, h5, h6, h7, h8, h9, h10, List.getD_cons_zero, List.getD_cons_succ]
        clear h0 h1 h2 h3 h4 h5 h6 h7 h8 h9 h10
        have HJ := Lib.hid hJ
        clear hJ
        go_simp
        go_wp2_with (fail)
        go_roundw
        case rel => exact ⟨i + 1, by omega, by go_num, HJ⟩
        case measure => simp [intOf] <;> omega
    · obtain rfl : i = m := by omega
      have HP1 : Hid (∀ W, Below w.heap.size w W → Calls Tryd.prog 13 #[.slice ao i cp] W fun e w' => e = .returned (.string ⟨(printF xs).toArray⟩) ∧ Below W.heap.size W w') := fun W hW => print_any _ xs W (HV.out.below hW hW.size) HX.out (HT.out.below hW)
      have HP2 : Hid (∀ W, Below w.heap.size w W → Calls Tryd.prog 16 #[.slice ao i cp] W fun e w' => e = .returned (.string ⟨(printF xs).toArray⟩) ∧ Below W.heap.size W w') := fun W hW => rprint_any _ xs W (HV.out.below hW hW.size) HX.out (HT.out.below hW)
      obtain ⟨pr, hpr⟩ : ∃ l, l = (⟨(printF xs).toArray⟩ : ByteArray) := ⟨_, rfl⟩
      simp only [← hpr] at HP1 HP2
      have HQ1 : Hid (∀ W, Calls Tryd.prog 17 #[.string tb] W fun e w' => e = .returned (.string ⟨(quoteF tb.data.toList).toArray⟩) ∧ Below W.heap.size W w') := fun W => quote_any tb W HTB.out
      have HQ2 : Hid (∀ W, Calls Tryd.prog 18 #[.string tb] W fun e w' => e = .returned (.string ⟨(quoteF tb.data.toList).toArray⟩) ∧ Below W.heap.size W w') := fun W => rquote_any tb W HTB.out
      obtain ⟨qb, hqb⟩ : ∃ l, l = (⟨(quoteF tb.data.toList).toArray⟩ : ByteArray) := ⟨_, rfl⟩
      simp only [← hqb] at HQ1 HQ2
      have HW1 : Hid (∀ W, Calls Tryd.prog 19 #[.int .i64 kind] W fun e w' => e = .returned (.string ⟨(wordF kind).toArray⟩) ∧ Below W.heap.size W w') := fun W => word_any kind W
      have HW2 : Hid (∀ W, Calls Tryd.prog 20 #[.int .i64 kind] W fun e w' => e = .returned (.string ⟨(wordF kind).toArray⟩) ∧ Below W.heap.size W w') := fun W => (rword_any kind W).mono fun e w' h => ⟨h.1, by rw [← h.2]; exact Below.refl _ _⟩
      obtain ⟨wb, hwb⟩ : ∃ l, l = (⟨(wordF kind).toArray⟩ : ByteArray) := ⟨_, rfl⟩
      simp only [← hwb] at HW1 HW2
      clear hpr hqb hwb
      go_wp2_with (fail)
      with_reducible refine (HP1.out _ HB.out).mono ?_
      rintro e wa ⟨rfl, hBwa⟩
      have HBwa := Lib.hid (HB.out.trans (hBwa.mono HB.out.size))
      clear hBwa
      go_wp2_with (fail)
      with_reducible refine (HP2.out _ HBwa.out).mono ?_
      rintro e wb2 ⟨rfl, hBwb2⟩
      have HBwb2 := Lib.hid (HBwa.out.trans (hBwb2.mono HBwa.out.size))
      clear hBwb2
      go_wp2_with (fail)
      with_reducible refine (HQ1.out _).mono ?_
      rintro e wc ⟨rfl, hBwc⟩
      have HBwc := Lib.hid (HBwb2.out.trans (hBwc.mono HBwb2.out.size))
      clear hBwc
      go_wp2_with (fail)
      with_reducible refine (HQ2.out _).mono ?_
      rintro e wd ⟨rfl, hBwd⟩
      have HBwd := Lib.hid (HBwc.out.trans (hBwd.mono HBwc.out.size))
      clear hBwd
      go_wp2_with (fail)
      with_reducible refine (HW1.out _).mono ?_
      rintro e we ⟨rfl, hBwe⟩
      have HBwe := Lib.hid (HBwd.out.trans (hBwe.mono HBwd.out.size))
      clear hBwe
      go_wp2_with (fail)
      with_reducible refine (HW2.out _).mono ?_
      rintro e wf ⟨rfl, hBwf⟩
      have HBwf := Lib.hid (HBwe.out.trans (hBwf.mono HBwe.out.size))
      clear hBwf
      go_wp2_with (fail)
      with_reducible refine (awake_any _ (HT.out.below HBwf.out) (HEE.out.below HBwf.out)).mono ?_
      rintro e wg ⟨rfl, hBwg⟩
      have HBwg := Lib.hid (HBwf.out.trans (hBwg.mono HBwf.out.size))
      clear hBwg
      go_wp2_with (fail)
      go_ret
      exact ⟨rfl, HBwg.out⟩

end Go.Proofs.YtaeoghagpeihkaaDoor

