/- ScriptBack: the law, walked (by program: wip/tools/gen_slaw2.py). -/
import Derived.Test.YtaeoghagpeihkaaDoorSQ
import Derived.Test.YtaeoghagpeihkaaDoorSO
set_option linter.unusedSimpArgs false
set_option linter.unusedVariables false
namespace Go.Proofs.YtaeoghagpeihkaaDoor
open Go.RowKit

def fitL (xs : List Stp) : List Stp := xs.filter fitS
theorem fitL_take (xs : List Stp) (i : Nat) (h : i < xs.length) : fitL (xs.take (i + 1)) = fitL (xs.take i) ++ if fitS xs[i] then [xs[i]] else [] := by
  unfold fitL
  rw [List.take_succ_eq_append_getElem h, List.filter_append]
  by_cases hf : fitS xs[i] = true
  · rw [if_pos hf, List.filter_cons_of_pos hf]; rfl
  · rw [if_neg hf, List.filter_cons_of_neg hf]; rfl
theorem fitL_sms {xs : List Stp} (h : SmS xs) : SmS (fitL xs) := ⟨Nat.le_trans (List.length_filter_le _ _) h.1, fun s hs => h.2 s (List.mem_filter.1 hs).1⟩
theorem fitL_ok {xs : List Stp} (h : SmS xs) : ∀ s ∈ fitL xs, okS s ∧ Stp64 s := fun s hs => ⟨(fitS_iff s).1 (List.mem_filter.1 hs).2, (h.2 s (List.mem_filter.1 hs).1).1⟩
theorem lineF_nofit {s : Stp} (h : lineF s = []) : fitS s = false := by
  cases hf : fitS s with
  | false => rfl
  | true => exact absurd h (lineF_ne ((fitS_iff s).1 hf))

set_option maxRecDepth 100000 in
set_option maxHeartbeats 4000000 in
theorem law_ScriptBack (v : Value) (xs : List Stp) (w : World) (hv : Sps w w.heap.size v xs) (hx : SmS xs) (ht : TabT w) (he : ErrT w) : Calls Tryd.prog 4 #[v] w fun e w' => e = .returned (.bool true) ∧ Below w.heap.size w w' := by
  obtain ⟨i0, ji, jz0, jz1, jz2⟩ := info_parts info_step
  obtain ⟨ao, cp, rfl, -, -⟩ := hv.slice
  have HV := Lib.hid hv
  have HX := Lib.hid hx
  have HT := Lib.hid ht
  have HEE := Lib.hid he
  obtain ⟨m, hm⟩ : ∃ n, n = xs.length := ⟨_, rfl⟩
  have hmm : m ≤ 1048576 := by rw [hm]; exact hx.1
  rw [← hm] at HV ⊢
  have HM := Lib.hid hm
  clear hv hx ht he hm
  go_enter Tryd.func4, Tryd.ntmps4
  go_wp2_with (fail)
  go_loopw [3, 4] (fun bv iv wr => ∃ (i n cap : Nat) (ab : Option Addr), i ≤ m ∧ n ≤ i ∧ iv = .int .i64 (i : Int) ∧ bv = .slice ab n cap ∧ Hid (n = (fitL (xs.take i)).length) ∧ Hid (OwnS wr w.heap.size (.slice ab n cap) (fitL (xs.take i))) ∧ Hid (Below w.heap.size w wr)) (fun _ iv _ => m - (intOf iv).toNat)
  case atStart => exact ⟨0, 0, 0, none, Nat.zero_le _, Nat.le_refl _, rfl, rfl, by show _ = _; rw [List.take_zero]; rfl, by show OwnS _ _ _ _; rw [List.take_zero]; exact World.ownsRow_nil _ _ _ _, Below.refl _ _⟩
  case round =>
    obtain ⟨i, n, cap, ab, hi, hni, rfl, rfl, HN, HO, HB⟩ := hrel
    by_cases hlt : i < m
    · have hix : i < xs.length := by rw [← HM.out]; exact hlt
      obtain ⟨b, off, hb, -, hr⟩ := (HV.out.below HB.out (Nat.le_refl _)).at i hix
      obtain ⟨b', off', hb', -, hr0⟩ := HV.out.at i hix
      subst hb
      cases hb'
      have hmem : xs[i] ∈ xs := List.getElem_mem _
      have hsm := HX.out.2 _ hmem
      have HTK := Lib.hid (fitL_take xs i hix)
      have HF1 : Hid (lineF xs[i] = [] → fitS xs[i] = false) := lineF_nofit
      have HF2 : Hid (lineF xs[i] ≠ [] → fitS xs[i] = true) := lineF_fit
      have HL := Lib.hid (line_any xs[i] hsm.1 (by have := hsm.2; omega) wr (HT.out.below HB.out))
      have HRW : Hid (∀ W, Below w.heap.size w W → W.rangeAt b (off + i * 6) (stepL xs[i])) := fun W hW => by
        obtain ⟨b2, off2, e2, -, h2⟩ := (HV.out.below hW (Nat.le_refl _)).at i hix
        cases e2
        exact h2
      obtain ⟨s, hs⟩ : ∃ s, s = xs[i] := ⟨_, rfl⟩
      rw [← hs] at hr HTK HF1 HF2
      simp only [← hs] at HL HRW
      have c0 : wr.cell? ⟨b, off + i * 6, none⟩ = some (.int .i64 s.kind) := hr 0 _ rfl
      have c1 : wr.cell? ⟨b, off + i * 6 + 1, none⟩ = some (.int .i64 s.a) := hr 1 _ rfl
      have c2 : wr.cell? ⟨b, off + i * 6 + 2, none⟩ = some (.int .i64 s.b) := hr 2 _ rfl
      have c3 : wr.cell? ⟨b, off + i * 6 + 3, none⟩ = some (.string ⟨s.name.toArray⟩) := hr 3 _ rfl
      have c4 : wr.cell? ⟨b, off + i * 6 + 4, none⟩ = some (.int .i64 s.k) := hr 4 _ rfl
      have c5 : wr.cell? ⟨b, off + i * 6 + 5, none⟩ = some (.int .i64 s.n) := hr 5 _ rfl
      obtain ⟨ls, hls⟩ : ∃ l, l = lineF s := ⟨_, rfl⟩
      rw [← hls] at HL HF1 HF2
      unfold stepC at HL
      have hkn : 0 ≤ (i : Int) ∧ (i : Int) < (m : Int) := by omega
      clear hr hr0 hsm hmem hs hls hix
      go_wp2_with (fail)
      with_reducible refine HL.out.mono ?_
      rintro e w2 ⟨rfl, hB2⟩
      have HB2 := Lib.hid (HB.out.trans (hB2.mono HB.out.size))
      have HO2 := Lib.hid (owns_below HO.out hB2)
      clear HL hB2 c0 c1 c2 c3 c4 c5
      by_cases hle : ls = []
      · have HTK2 : Hid (fitL (xs.take (i + 1)) = fitL (xs.take i)) := by show _ = _; rw [HTK.out, HF1.out hle]; simp
        subst hle
        clear HF1 HF2 HTK
        go_wp2_with (fail)
        go_roundw
        case rel => exact ⟨i + 1, n, cap, ab, by omega, by omega, by go_num, rfl, by rw [HTK2.out]; exact HN, by rw [HTK2.out]; exact HO2, HB2⟩
        case measure => simp [intOf] <;> omega
      · have hlf : (ls == []) = false := by simpa using hle
        have hln : (ls != []) = true := by unfold bne; rw [hlf]; rfl
        have HTK2 : Hid (fitL (xs.take (i + 1)) = fitL (xs.take i) ++ [s]) := by show _ = _; rw [HTK.out, HF2.out hle]; rfl
        have hr2 := HRW.out w2 HB2.out
        have c0 : w2.cell? ⟨b, off + i * 6, none⟩ = some (.int .i64 s.kind) := hr2 0 _ rfl
        have c1 : w2.cell? ⟨b, off + i * 6 + 1, none⟩ = some (.int .i64 s.a) := hr2 1 _ rfl
        have c2 : w2.cell? ⟨b, off + i * 6 + 2, none⟩ = some (.int .i64 s.b) := hr2 2 _ rfl
        have c3 : w2.cell? ⟨b, off + i * 6 + 3, none⟩ = some (.string ⟨s.name.toArray⟩) := hr2 3 _ rfl
        have c4 : w2.cell? ⟨b, off + i * 6 + 4, none⟩ = some (.int .i64 s.k) := hr2 4 _ rfl
        have c5 : w2.cell? ⟨b, off + i * 6 + 5, none⟩ = some (.int .i64 s.n) := hr2 5 _ rfl
        obtain ⟨g5, k5⟩ := new_block w2 (.cells #[.int .i64 s.kind, .int .i64 s.a, .int .i64 s.b, .string ⟨s.name.toArray⟩, .int .i64 s.k, .int .i64 s.n] 35)
        have HO5 := Lib.hid (owns_below HO2.out g5)
        have HB5 := Lib.hid (HB2.out.trans (g5.mono HB2.out.size))
        obtain ⟨g6, cap6, w6, hrun, ho6, hg6, -⟩ := op_append_row 22 35 i0 _ 6 56 Tryd.underlying22 ji jz0 jz1 jz2 rfl (by decide) (w2.alloc (.cells #[.int .i64 s.kind, .int .i64 s.a, .int .i64 s.b, .string ⟨s.name.toArray⟩, .int .i64 s.k, .int .i64 s.n] 35)) w.heap.size (.slice ab n cap) n ((fitL (xs.take i)).flatMap stepL) w2.heap.size 1 [.int .i64 s.kind, .int .i64 s.a, .int .i64 s.b, .string ⟨s.name.toArray⟩, .int .i64 s.k, .int .i64 s.n] (by have h := HO5.out; unfold OwnS at h; rw [← HN.out] at h; exact h) k5 rfl (stepL_one s) (by decide) (by omega) (by omega) HB5.out.size
        have hfs : (fitL (xs.take i)).flatMap stepL ++ [.int .i64 s.kind, .int .i64 s.a, .int .i64 s.b, .string ⟨s.name.toArray⟩, .int .i64 s.k, .int .i64 s.n] = (fitL (xs.take (i + 1))).flatMap stepL := by rw [HTK2.out]; simp [stepL]
        have hol : n + 1 = (fitL (xs.take (i + 1))).length := by rw [HTK2.out, List.length_append, ← HN.out]; rfl
        rw [hfs] at ho6
        have HO6 : Hid (OwnS w6 w.heap.size (.slice (some ⟨g6, 0, none⟩) (n + 1) cap6) (fitL (xs.take (i + 1)))) := by show World.ownsRow _ _ _ _ _ _ _; rw [← hol]; exact ho6
        have HN6 := Lib.hid hol
        have HRUN := Lib.hid hrun
        have HB6 := Lib.hid (HB5.out.grown hg6 HB5.out.size (fun j e => (World.ownsRow.lt HO5.out j e).1))
        clear hle HF1 HF2 HTK hrun ho6 hg6 hfs g5 k5 hr2 hol HRW
        go_wp2_with (at_builtin; (refine wpList_run rfl (HRUN.out _ _ 20 25 rfl rfl rfl rfl) ?_))
        go_roundw
        case rel => exact ⟨i + 1, n + 1, cap6, some ⟨g6, 0, none⟩, by omega, by omega, by go_num, rfl, HN6, HO6, HB6⟩
        case measure => simp [intOf] <;> omega
    · obtain rfl : i = m := by omega
      rw [List.take_of_length_le (by rw [← HM.out]; omega)] at HN HO
      have hsm := fitL_sms HX.out
      have HOK := Lib.hid (fitL_ok HX.out)
      have hp := print_any (.slice ab n cap) (fitL xs) wr (OwnS.sps HO.out) hsm (HT.out.below HB.out)
      obtain ⟨pr, hpr⟩ : ∃ l, l = printF (fitL xs) := ⟨_, rfl⟩
      rw [← hpr] at hp
      obtain ⟨sb, hsb⟩ : ∃ b, b = (⟨pr.toArray⟩ : ByteArray) := ⟨_, rfl⟩
      rw [← hsb] at hp
      have HP := Lib.hid hp
      have hsz : sb.size = pr.length := by rw [hsb]; rfl
      have hpl : pr.length ≤ 140737488355328 := by
        rw [hpr]
        by_cases hall : ∀ s ∈ fitL xs, fitS s = true
        · rw [printF_all hall]
          have h1 := lnF_len hsm.2
          have h2 := hsm.1
          unfold lnF at h1
          have h3 := Nat.mul_le_mul_right 16800000 h2
          omega
        · unfold printF
          rw [if_neg (by rw [List.all_eq_true]; exact hall)]
          simp
      have HPR := Lib.hid hpr
      have HSB := Lib.hid hsb
      have HSZ := Lib.hid hsz
      have hsl : sb.size ≤ 140737488355328 := by omega
      clear hp hsm hpr hsb hsz hpl
      go_wp2_with (fail)
      with_reducible refine HP.out.mono ?_
      rintro e w2 ⟨rfl, hB2⟩
      have HB2 := Lib.hid (HB.out.trans (hB2.mono HB.out.size))
      have HO2 := Lib.hid (owns_below HO.out hB2)
      have HW := Lib.hid (awake_any w2 (HT.out.below HB2.out) (HEE.out.below HB2.out))
      clear HP hB2
      by_cases hbig : 1048576 < sb.size
      · have hbi : (1048576 : Int) < (sb.size : Int) := by omega
        go_wp2_with (fail)
        with_reducible refine HW.out.mono ?_
        rintro e w3 ⟨rfl, hB3⟩
        have HB3 := Lib.hid (HB2.out.trans (hB3.mono HB2.out.size))
        clear HW hB3
        go_wp2_with (fail)
        go_ret
        exact ⟨rfl, HB3.out⟩
      · have hbi : ¬ (1048576 : Int) < (sb.size : Int) := by omega
        by_cases hbg2 : 65536 < n
        · have hbi2 : (65536 : Int) < (n : Int) := by omega
          go_wp2_with (fail)
          with_reducible refine HW.out.mono ?_
          rintro e w3 ⟨rfl, hB3⟩
          have HB3 := Lib.hid (HB2.out.trans (hB3.mono HB2.out.size))
          clear HW hB3
          go_wp2_with (fail)
          go_ret
          exact ⟨rfl, HB3.out⟩
        · have hbi2 : ¬ (65536 : Int) < (n : Int) := by omega
          have hpf : parseF sb.data.toList = (fitL xs, 0, 0) := by
            rw [HSB.out]
            show parseF pr = _
            rw [HPR.out]
            exact parse_print HOK.out (by rw [← HPR.out, ← HSZ.out]; omega) (by rw [← HN.out]; omega)
          have hc := parse_any sb w2 (HT.out.below HB2.out) (HEE.out.below HB2.out) (by omega)
          rw [hpf] at hc
          have HC := Lib.hid hc
          clear HW hc hpf
          go_wp2_with (fail)
          with_reducible refine HC.out.mono ?_
          rintro e w3 ⟨v3, rfl, ho3, hB3⟩
          simp only [← HN.out] at ho3
          obtain ⟨ab3, cap3, rfl⟩ := owns_form ho3
          obtain ⟨g4, k4⟩ := new_block w3 (.cells #[.int .i64 0, .int .i64 0] 25)
          have HB3 := Lib.hid (HB2.out.trans (hB3.mono HB2.out.size))
          have HB4 := Lib.hid (HB3.out.trans (g4.mono HB3.out.size))
          have ho4 := owns_below ho3 g4
          have ho5 := owns_below (owns_below HO2.out hB3) g4
          rw [HN.out] at ho4
          have hsame := rsame_any _ _ (fitL xs) (fitL xs) (w3.alloc (.cells #[.int .i64 0, .int .i64 0] 25)) (OwnS.sps ho4) (OwnS.sps ho5)
          rw [sameR_iff.2 rfl] at hsame
          simp only [← HN.out] at hsame
          have HS := Lib.hid hsame
          have d0 := cell_of_row _ _ 0 _ _ _ k4
          have d1 := cell_of_row _ _ 1 _ _ _ k4
          clear HC ho3 hB3 g4 k4 ho4 ho5 hsame
          go_wp2_with (fail)
          with_reducible refine HS.out.mono ?_
          rintro e w5 ⟨rfl, hB5⟩
          have HB5 := Lib.hid (HB4.out.trans (hB5.mono HB4.out.size))
          have HW := Lib.hid (awake_any w5 (HT.out.below HB5.out) (HEE.out.below HB5.out))
          clear HS hB5 d0 d1
          go_wp2_with (fail)
          with_reducible refine HW.out.mono ?_
          rintro e w6 ⟨rfl, hB6⟩
          have HB6 := Lib.hid (HB5.out.trans (hB6.mono HB5.out.size))
          clear HW hB6
          go_wp2_with (fail)
          go_ret
          exact ⟨rfl, HB6.out⟩

end Go.Proofs.YtaeoghagpeihkaaDoor

