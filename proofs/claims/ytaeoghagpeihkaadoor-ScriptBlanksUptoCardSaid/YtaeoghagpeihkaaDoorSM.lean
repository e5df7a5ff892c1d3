/- The program's words: its iterator (by program: wip/tools/gen_swords.py). -/
import Derived.Test.YtaeoghagpeihkaaDoorSF
import Derived.Test.YtaeoghagpeihkaaDoorSL
set_option linter.unusedSimpArgs false
set_option linter.unusedVariables false
namespace Go.Proofs.YtaeoghagpeihkaaDoor
open Go.RowKit

attribute [local go_sem] Oper.semAt_some

theorem blank_34 (w : World) : Calls Tryd.prog 37 #[.int .u8 34] w fun e w' => e = .returned (.bool (blankB 34)) ∧ w = w' := blank_any 34 w
theorem blank_35 (w : World) : Calls Tryd.prog 37 #[.int .u8 35] w fun e w' => e = .returned (.bool (blankB 35)) ∧ w = w' := blank_any 35 w
/-- a word as it is handed over; none: a bad one -/
def encW : Option Tok → Array Value
  | some t => #[.agg #[.string ⟨t.t.toArray⟩, .bool t.q, .bool false]]
  | none => #[.agg #[.string ⟨#[]⟩, .bool false, .bool true]]
def InvW (q : Nat) (s : ByteArray) (W : World) : Prop := W.heap[q]? = some (.cells #[.string s] 9 (0, 0))

set_option maxRecDepth 100000 in
set_option maxHeartbeats 8000000 in
theorem words1_iter (q : Nat) (s : ByteArray) (hs : s.size ≤ 100000000) (fu : Nat) :
    Iterates Fence.wide fu Tryd.prog 36 #[.pointer (some ⟨q, 0, none⟩)] encW (InvW q s) (fun pre x _ => pre.length ≤ s.size ∧ ∀ t, x = some t → t.t.length ≤ s.size) (fun xs => (∃ ts, cutL s.data.toList = some ts ∧ xs = ts.map some) ∨ (cutL s.data.toList = none ∧ none ∈ xs)) (fun pre => none ∈ pre → cutL s.data.toList = none) := by
  obtain ⟨L, hL⟩ : ∃ l, l = s.data.toList := ⟨_, rfl⟩
  have hLs : L.length = s.size := by rw [hL]; simp
  have hLg : ∀ (i : Nat) (hi : i < s.size), s[i] = L[i]'(by omega) := by intro i hi; subst hL; rfl
  have HEX : Hid (∀ a b, s.extract a b = ⟨((L.drop a).take (b - a)).toArray⟩) := by show ∀ a b, _; intro a b; rw [hL]; exact extr_list s a b
  have HDL : Hid (s.data.toList = L) := hL.symm
  rw [← hL]
  have HLG := Lib.hid hLg
  clear hL hLg
  intro yl J Jx W hJ hInv hY h0
  have HJ := Lib.hid hJ
  have HY := Lib.hid hY
  have HV := Lib.hid hInv
  clear hJ hY hInv
  refine callsIn_of_wp Tryd.func36 rfl trivial ?_ rfl
  simp only [Tryd.ntmps36, List.size_toArray, List.length_cons, List.length_nil, Nat.reduceAdd, Nat.reduceSub, Array.replicate_succ, Array.replicate_zero, List.push_toArray, List.append_toArray, List.nil_append, List.cons_append]
  refine wpIn_scope_wide ?_
  gi_wp2
  refine wpIn_label ?_
  gi_wp2
  gi_loopw [3] (fun iv wr => ∃ (k : Nat) (ts : List Tok), k ≤ s.size ∧ iv = .int .i64 (k : Int) ∧ Hid (CI L k ts) ∧ Hid (ts.length ≤ k) ∧ Hid (J (ts.map some) wr)) (fun iv _ => s.size - (intOf iv).toNat)
  case atStart => exact ⟨0, [], Nat.zero_le _, rfl, CI.start _, Nat.zero_le _, h0⟩
  case round =>
    clear h0
    obtain ⟨k, ts, hk, rfl, HC, HTL, HI⟩ := hrel
    have cq : wr.cell? ⟨q, 0, none⟩ = some (.string s) := cell_of_row _ _ 0 _ _ _ (HV.out _ _ HI.out)
    by_cases hlt : k < s.size
    · obtain ⟨c, hc⟩ : ∃ c, s[k] = c := ⟨_, rfl⟩
      have hLc : L[k]'(by omega) = c := by rw [← HLG.out k hlt]; exact hc
      have hct := c.toNat_lt
      by_cases hb : blankB c = true
      · have HC2 : Hid (CI L (k + 1) ts) := HC.out.blank (by omega) (by rw [hLc]; exact hb)
        gi_wp2_with (fail)
        refine ⟨trivial, wide_room _, ?_⟩
        refine (callsIn_wide.2 (blank_any c _)).mono ?_
        rintro e w' ⟨rfl, rfl⟩
        rw [hb]
        gi_wp2
        go_roundw
        case rel => exact ⟨k + 1, ts, by omega, by go_num, HC2.out, (by have := HTL.out; show _ ≤ _; omega), HI.out⟩
        case measure => simp [intOf] <;> omega
      · have hbf : blankB c = false := by simpa using hb
        by_cases h35 : c = 35
        · subst h35
          gi_wp2_with (fail)
          refine ⟨trivial, wide_room _, ?_⟩
          refine (callsIn_wide.2 (blank_35 _)).mono ?_
          rintro e w' ⟨rfl, rfl⟩
          rw [hbf]
          have HE : Hid (cutL L = some ts) := HC.out.hash (by omega) hLc
          gi_wp2
          rw [Exit.noGoto_ret]
          refine bodyPost_ret (results_none rfl _ _ _) rfl ⟨⟨.tuple #[], rfl⟩, .inl ⟨_, .inl ⟨ts, HE.out, rfl⟩, HI.out⟩⟩
        · have n35 : ((c.toNat : Int) == 35) = false := by
            rw [beq_eq_false_iff_ne]
            intro e
            exact h35 (UInt8.toNat_inj.1 (by show c.toNat = 35; omega))
          by_cases h34 : c = 34
          · subst h34
            obtain ⟨p, hp⟩ : ∃ p, p = qF (L.drop (k + 1)) := ⟨_, rfl⟩
            have hcon := quoted_any s k hlt wr (by omega)
            rw [HDL.out, ← hp] at hcon
            have HCON := Lib.hid hcon
            have HP := Lib.hid hp
            clear hp hcon
            gi_wp2_with (fail)
            refine ⟨trivial, wide_room _, ?_⟩
            refine (callsIn_wide.2 (blank_34 _)).mono ?_
            rintro e w' ⟨rfl, rfl⟩
            rw [hbf]
            gi_wp2_with (fail)
            refine ⟨trivial, wide_room _, ?_⟩
            refine (callsIn_wide.2 HCON.out).mono ?_
            rintro e w1 ⟨rfl, hB1⟩
            have HI' := Lib.hid (HJ.out _ _ _ HI.out hB1)
            clear HCON hB1 HI cq
            obtain ⟨wr, rfl⟩ : ∃ W, W = w1 := ⟨_, rfl⟩
            have HI := HI'
            clear HI'
            have cq : wr.cell? ⟨q, 0, none⟩ = some (.string s) := cell_of_row _ _ 0 _ _ _ (HV.out _ _ HI.out)
            cases p with
            | none =>
              simp only [quotT, quotN]
              have HE : Hid (cutL L = none) := HC.out.qnone (by omega) hLc HP.out.symm
              obtain ⟨fn, tmps, assign, body, hy, hR⟩ := HY.out (ts.map some) none wr HI.out ⟨by rw [List.length_map]; have := HTL.out; omega, (fun t h => by cases h)⟩
              simp only [encW] at hy
              gi_wp2_with (fail)
              any_goals (rename_i ha hb; exfalso; simp [undef] at ha; done)
              refine ⟨trivial, ?_⟩
              gi_wp2_with (fail)
              refine ⟨wide_room _, ?_⟩
              refine hR.mono ?_
              rintro e w2 (⟨rfl, hJ2⟩ | ⟨rfl, hJ2⟩)
              · have HJ2 := Lib.hid hJ2
                clear hJ2 hR hy
                gi_wp2
                rw [Exit.noGoto_ret]
                exact bodyPost_ret (results_none rfl _ _ _) rfl ⟨⟨.tuple #[], rfl⟩, .inl ⟨_, .inr ⟨HE.out, List.mem_append_right _ List.mem_cons_self⟩, HJ2.out⟩⟩
              · have HJ2 := Lib.hid hJ2
                clear hJ2 hR hy
                gi_wp2
                rw [Exit.noGoto_ret]
                exact bodyPost_ret (results_none rfl _ _ _) rfl ⟨⟨.tuple #[], rfl⟩, .inr ⟨_, (fun _ => HE.out), HJ2.out⟩⟩
            | some pr =>
              obtain ⟨t, m⟩ := pr
              have hm := qF_len _ t m HP.out.symm
              rw [List.length_drop] at hm
              have HM : Hid (qF (L.drop (k + 1)) = some (t, m) ∧ True) := ⟨HP.out.symm, trivial⟩
              have hmm : m + 1 ≤ s.size - k := by omega
              have hm0 : 1 ≤ m := hm.1
              have HTN : Hid (t.length ≤ s.size) := by show _ ≤ _; omega
              clear HP hm
              simp only [quotT, quotN]
              by_cases he : k + 1 + m < s.size
              · obtain ⟨d, hd⟩ : ∃ d, s[k + 1 + m] = d := ⟨_, rfl⟩
                have hLd : L[k + 1 + m]'(by omega) = d := by
                  have h := HLG.out (k + 1 + m) he
                  rw [hd] at h
                  exact h.symm
                by_cases hdb : blankB d = true
                · gi_wp2_with (fail)
                  refine ⟨trivial, wide_room _, ?_⟩
                  refine (callsIn_wide.2 (blank_any d _)).mono ?_
                  rintro e w' ⟨rfl, rfl⟩
                  rw [hdb]
                  have HX : Hid (encW (some (Tok.mk true t)) = #[.agg #[.string ⟨t.toArray⟩, .bool true, .bool false]]) := by show _ = _; rfl
                  obtain ⟨fn, tmps, assign, body, hy, hR⟩ := HY.out (ts.map some) (some (Tok.mk true t)) wr HI.out ⟨by rw [List.length_map]; have := HTL.out; omega, (fun t h => by cases h; exact HTN.out)⟩
                  rw [HX.out] at hy
                  gi_wp2_with (fail)
                  refine ⟨wide_room _, ?_⟩
                  refine hR.mono ?_
                  rintro e w2 (⟨rfl, hJ2⟩ | ⟨rfl, hJ2⟩)
                  · have HJ2 := Lib.hid hJ2
                    clear hJ2 hR hy
                    gi_wp2
                    go_roundw
                    case rel => exact ⟨k + 1 + m, ts ++ [(Tok.mk true t)], by omega, by go_num, Lib.hid (HC.out.quote (by omega) hLc HM.out.1 (fun _ => by rw [hLd]; unfold stopB; rw [hdb]; rfl)), (by have := HTL.out; show _ ≤ _; simp; omega), by rw [List.map_append]; exact HJ2⟩
                    case measure => simp [intOf] <;> omega
                  · have HJ2 := Lib.hid hJ2
                    clear hJ2 hR hy
                    gi_wp2
                    rw [Exit.noGoto_ret]
                    refine bodyPost_ret (results_none rfl _ _ _) rfl ⟨⟨.tuple #[], rfl⟩, .inr ⟨_, ?_, HJ2.out⟩⟩
                    intro h
                    simp at h
                · have hdf : blankB d = false := by simpa using hdb
                  by_cases hd35 : d = 35
                  · subst hd35
                    gi_wp2_with (fail)
                    refine ⟨trivial, wide_room _, ?_⟩
                    refine (callsIn_wide.2 (blank_35 _)).mono ?_
                    rintro e w' ⟨rfl, rfl⟩
                    rw [hdf]
                    have HX : Hid (encW (some (Tok.mk true t)) = #[.agg #[.string ⟨t.toArray⟩, .bool true, .bool false]]) := by show _ = _; rfl
                    obtain ⟨fn, tmps, assign, body, hy, hR⟩ := HY.out (ts.map some) (some (Tok.mk true t)) wr HI.out ⟨by rw [List.length_map]; have := HTL.out; omega, (fun t h => by cases h; exact HTN.out)⟩
                    rw [HX.out] at hy
                    gi_wp2_with (fail)
                    refine ⟨wide_room _, ?_⟩
                    refine hR.mono ?_
                    rintro e w2 (⟨rfl, hJ2⟩ | ⟨rfl, hJ2⟩)
                    · have HJ2 := Lib.hid hJ2
                      clear hJ2 hR hy
                      gi_wp2
                      go_roundw
                      case rel => exact ⟨k + 1 + m, ts ++ [(Tok.mk true t)], by omega, by go_num, Lib.hid (HC.out.quote (by omega) hLc HM.out.1 (fun _ => by rw [hLd]; rfl)), (by have := HTL.out; show _ ≤ _; simp; omega), by rw [List.map_append]; exact HJ2⟩
                      case measure => simp [intOf] <;> omega
                    · have HJ2 := Lib.hid hJ2
                      clear hJ2 hR hy
                      gi_wp2
                      rw [Exit.noGoto_ret]
                      refine bodyPost_ret (results_none rfl _ _ _) rfl ⟨⟨.tuple #[], rfl⟩, .inr ⟨_, ?_, HJ2.out⟩⟩
                      intro h
                      simp at h
                  · have d35 : ((d.toNat : Int) == 35) = false := by
                      rw [beq_eq_false_iff_ne]
                      intro e
                      exact hd35 (UInt8.toNat_inj.1 (by show d.toNat = 35; omega))
                    have d35n : ((d.toNat : Int) != 35) = true := by unfold bne; rw [d35]; rfl
                    gi_wp2_with (fail)
                    refine ⟨trivial, wide_room _, ?_⟩
                    refine (callsIn_wide.2 (blank_any d _)).mono ?_
                    rintro e w' ⟨rfl, rfl⟩
                    rw [hdf]
                    have HE : Hid (cutL L = none) := HC.out.qend (by omega) hLc HM.out.1 (by omega) (by rw [hLd]; unfold stopB; rw [hdf]; simpa using hd35)
                    obtain ⟨fn, tmps, assign, body, hy, hR⟩ := HY.out (ts.map some) none wr HI.out ⟨by rw [List.length_map]; have := HTL.out; omega, (fun t h => by cases h)⟩
                    simp only [encW] at hy
                    gi_wp2_with (fail)
                    refine ⟨wide_room _, ?_⟩
                    refine hR.mono ?_
                    rintro e w2 (⟨rfl, hJ2⟩ | ⟨rfl, hJ2⟩)
                    · have HJ2 := Lib.hid hJ2
                      clear hJ2 hR hy
                      gi_wp2
                      rw [Exit.noGoto_ret]
                      exact bodyPost_ret (results_none rfl _ _ _) rfl ⟨⟨.tuple #[], rfl⟩, .inl ⟨_, .inr ⟨HE.out, List.mem_append_right _ List.mem_cons_self⟩, HJ2.out⟩⟩
                    · have HJ2 := Lib.hid hJ2
                      clear hJ2 hR hy
                      gi_wp2
                      rw [Exit.noGoto_ret]
                      exact bodyPost_ret (results_none rfl _ _ _) rfl ⟨⟨.tuple #[], rfl⟩, .inr ⟨_, (fun _ => HE.out), HJ2.out⟩⟩
              · have he' : ¬ (k : Int) + 1 + (m : Int) < (s.size : Int) := by omega
                have HX : Hid (encW (some (Tok.mk true t)) = #[.agg #[.string ⟨t.toArray⟩, .bool true, .bool false]]) := by show _ = _; rfl
                obtain ⟨fn, tmps, assign, body, hy, hR⟩ := HY.out (ts.map some) (some (Tok.mk true t)) wr HI.out ⟨by rw [List.length_map]; have := HTL.out; omega, (fun t h => by cases h; exact HTN.out)⟩
                rw [HX.out] at hy
                gi_wp2_with (fail)
                refine ⟨trivial, ?_⟩
                gi_wp2_with (fail)
                refine ⟨wide_room _, ?_⟩
                refine hR.mono ?_
                rintro e w2 (⟨rfl, hJ2⟩ | ⟨rfl, hJ2⟩)
                · have HJ2 := Lib.hid hJ2
                  clear hJ2 hR hy
                  gi_wp2
                  go_roundw
                  case rel => exact ⟨k + 1 + m, ts ++ [(Tok.mk true t)], by omega, by go_num, Lib.hid (HC.out.quote (by omega) hLc HM.out.1 (fun h => by omega)), (by have := HTL.out; show _ ≤ _; simp; omega), by rw [List.map_append]; exact HJ2⟩
                  case measure => simp [intOf] <;> omega
                · have HJ2 := Lib.hid hJ2
                  clear hJ2 hR hy
                  gi_wp2
                  rw [Exit.noGoto_ret]
                  refine bodyPost_ret (results_none rfl _ _ _) rfl ⟨⟨.tuple #[], rfl⟩, .inr ⟨_, ?_, HJ2.out⟩⟩
                  intro h
                  simp at h
          · have n34 : ((c.toNat : Int) == 34) = false := by
              rw [beq_eq_false_iff_ne]
              intro e
              exact h34 (UInt8.toNat_inj.1 (by show c.toNat = 34; omega))
            have hL34 : L[k]'(by omega) ≠ 34 := by rw [hLc]; exact h34
            have hsk : stopB (L[k]'(by omega)) = false := by rw [hLc]; unfold stopB; rw [hbf]; simpa using h35
            have HSK := Lib.hid hsk
            clear hsk
            gi_wp2_with (fail)
            refine ⟨trivial, wide_room _, ?_⟩
            refine (callsIn_wide.2 (blank_any c _)).mono ?_
            rintro e w' ⟨rfl, rfl⟩
            rw [hbf]
            gi_wp2_with (fail)
            obtain ⟨wo, rfl⟩ : ∃ W, W = wr := ⟨_, rfl⟩
            gi_loopw [7] (fun mv wr => ∃ m : Nat, k ≤ m ∧ m ≤ s.size ∧ mv = .int .i64 (m : Int) ∧ Hid (∀ j (h1 : k ≤ j) (h2 : j < m) (h3 : j < L.length), stopB L[j] = false) ∧ wr = wo) (fun mv _ => s.size - (intOf mv).toNat)
            case atStart => exact ⟨k, Nat.le_refl _, by omega, rfl, (fun j h1 h2 => by omega), rfl⟩
            case round =>
              obtain ⟨m, hkm0, hm, rfl, HW0, hww⟩ := hrel
              subst hww
              have HW : Hid (∀ j (h1 : k ≤ j) (h2 : j < m), stopB (L[j]'(by omega)) = false) := fun j h1 h2 => HW0.out j h1 h2 (by omega)
              have hmL : m ≤ L.length := by omega
              by_cases hmt : m < s.size
              · obtain ⟨d, hd⟩ : ∃ d, s[m] = d := ⟨_, rfl⟩
                have hLd : L[m]'(by omega) = d := by rw [← HLG.out m hmt]; exact hd
                have hkm1 : stopB d = true → k < m := fun h => by
                  rcases Nat.lt_or_ge k m with h1 | h1
                  · exact h1
                  · obtain rfl : k = m := by omega
                    have := HSK.out
                    rw [hLd, h] at this
                    cases this
                by_cases hdb : blankB d = true
                · have hst : stopB d = true := by unfold stopB; rw [hdb]; rfl
                  have hkm := hkm1 hst
                  clear hkm1
                  gi_wp2_with (fail)
                  refine ⟨trivial, wide_room _, ?_⟩
                  refine (callsIn_wide.2 (blank_any d _)).mono ?_
                  rintro e w' ⟨rfl, rfl⟩
                  rw [hdb]
                  have HX : Hid (encW (some (Tok.mk false ((L.drop k).take (m - k)))) = #[.agg #[.string (s.extract k m), .bool false, .bool false]]) := by show _ = _; rw [HEX.out]; rfl
                  obtain ⟨fn, tmps, assign, body, hy, hR⟩ := HY.out (ts.map some) (some (Tok.mk false ((L.drop k).take (m - k)))) wr HI.out ⟨by rw [List.length_map]; have := HTL.out; omega, (fun t h => by cases h; simp only [List.length_take, List.length_drop]; omega)⟩
                  rw [HX.out] at hy
                  gi_wp2_with (fail)
                  refine ⟨wide_room _, ?_⟩
                  refine hR.mono ?_
                  rintro e w2 (⟨rfl, hJ2⟩ | ⟨rfl, hJ2⟩)
                  · have HJ2 := Lib.hid hJ2
                    clear hJ2 hR hy
                    gi_wp2
                    go_roundw
                    case rel => exact ⟨m, ts ++ [(Tok.mk false ((L.drop k).take (m - k)))], by omega, by go_num, Lib.hid (HC.out.word hkm hmL hL34 HW.out (fun _ => by rw [hLd]; exact hst)), (by have := HTL.out; show _ ≤ _; simp; omega), by rw [List.map_append]; exact HJ2⟩
                    case measure => simp [intOf] <;> omega
                  · have HJ2 := Lib.hid hJ2
                    clear hJ2 hR hy
                    gi_wp2
                    rw [Exit.noGoto_ret]
                    refine bodyPost_ret (results_none rfl _ _ _) rfl ⟨⟨.tuple #[], rfl⟩, .inr ⟨_, ?_, HJ2.out⟩⟩
                    intro h
                    simp at h
                · have hdf : blankB d = false := by simpa using hdb
                  by_cases hd35 : d = 35
                  · subst hd35
                    have hkm := hkm1 (by decide)
                    clear hkm1
                    gi_wp2_with (fail)
                    refine ⟨trivial, wide_room _, ?_⟩
                    refine (callsIn_wide.2 (blank_35 _)).mono ?_
                    rintro e w' ⟨rfl, rfl⟩
                    rw [hdf]
                    have HX : Hid (encW (some (Tok.mk false ((L.drop k).take (m - k)))) = #[.agg #[.string (s.extract k m), .bool false, .bool false]]) := by show _ = _; rw [HEX.out]; rfl
                    obtain ⟨fn, tmps, assign, body, hy, hR⟩ := HY.out (ts.map some) (some (Tok.mk false ((L.drop k).take (m - k)))) wr HI.out ⟨by rw [List.length_map]; have := HTL.out; omega, (fun t h => by cases h; simp only [List.length_take, List.length_drop]; omega)⟩
                    rw [HX.out] at hy
                    gi_wp2_with (fail)
                    refine ⟨wide_room _, ?_⟩
                    refine hR.mono ?_
                    rintro e w2 (⟨rfl, hJ2⟩ | ⟨rfl, hJ2⟩)
                    · have HJ2 := Lib.hid hJ2
                      clear hJ2 hR hy
                      gi_wp2
                      go_roundw
                      case rel => exact ⟨m, ts ++ [(Tok.mk false ((L.drop k).take (m - k)))], by omega, by go_num, Lib.hid (HC.out.word hkm hmL hL34 HW.out (fun _ => by rw [hLd]; rfl)), (by have := HTL.out; show _ ≤ _; simp; omega), by rw [List.map_append]; exact HJ2⟩
                      case measure => simp [intOf] <;> omega
                    · have HJ2 := Lib.hid hJ2
                      clear hJ2 hR hy
                      gi_wp2
                      rw [Exit.noGoto_ret]
                      refine bodyPost_ret (results_none rfl _ _ _) rfl ⟨⟨.tuple #[], rfl⟩, .inr ⟨_, ?_, HJ2.out⟩⟩
                      intro h
                      simp at h
                  · have d35 : ((d.toNat : Int) == 35) = false := by
                      rw [beq_eq_false_iff_ne]
                      intro e
                      exact hd35 (UInt8.toNat_inj.1 (by show d.toNat = 35; omega))
                    have d35n : ((d.toNat : Int) != 35) = true := by unfold bne; rw [d35]; rfl
                    have HSD : Hid (stopB (L[m]'(by omega)) = false) := by show _ = _; rw [hLd]; unfold stopB; rw [hdf]; simpa using hd35
                    clear hkm1
                    gi_wp2_with (fail)
                    refine ⟨trivial, wide_room _, ?_⟩
                    refine (callsIn_wide.2 (blank_any d _)).mono ?_
                    rintro e w' ⟨rfl, rfl⟩
                    rw [hdf]
                    gi_wp2
                    go_roundw
                    case rel => exact ⟨m + 1, by omega, by omega, by go_num, (fun j h1 h2 h3 => by
                      by_cases e : j = m
                      · subst e; exact HSD.out
                      · exact HW0.out j h1 (by omega) h3), by trivial⟩
                    case measure => simp [intOf] <;> omega
              · have hkm : k < m := by omega
                have HX : Hid (encW (some (Tok.mk false ((L.drop k).take (m - k)))) = #[.agg #[.string (s.extract k m), .bool false, .bool false]]) := by show _ = _; rw [HEX.out]; rfl
                obtain ⟨fn, tmps, assign, body, hy, hR⟩ := HY.out (ts.map some) (some (Tok.mk false ((L.drop k).take (m - k)))) wr HI.out ⟨by rw [List.length_map]; have := HTL.out; omega, (fun t h => by cases h; simp only [List.length_take, List.length_drop]; omega)⟩
                rw [HX.out] at hy
                gi_wp2_with (fail)
                refine ⟨trivial, ?_⟩
                gi_wp2_with (fail)
                refine ⟨wide_room _, ?_⟩
                refine hR.mono ?_
                rintro e w2 (⟨rfl, hJ2⟩ | ⟨rfl, hJ2⟩)
                · have HJ2 := Lib.hid hJ2
                  clear hJ2 hR hy
                  gi_wp2
                  go_roundw
                  case rel => exact ⟨m, ts ++ [(Tok.mk false ((L.drop k).take (m - k)))], by omega, by go_num, Lib.hid (HC.out.word hkm hmL hL34 HW.out (fun h => by omega)), (by have := HTL.out; show _ ≤ _; simp; omega), by rw [List.map_append]; exact HJ2⟩
                  case measure => simp [intOf] <;> omega
                · have HJ2 := Lib.hid hJ2
                  clear hJ2 hR hy
                  gi_wp2
                  rw [Exit.noGoto_ret]
                  refine bodyPost_ret (results_none rfl _ _ _) rfl ⟨⟨.tuple #[], rfl⟩, .inr ⟨_, ?_, HJ2.out⟩⟩
                  intro h
                  simp at h
    · have HE : Hid (cutL L = some ts) := HC.out.done (by omega)
      gi_wp2
      rw [Exit.noGoto_normal]
      go_end0
      exact ⟨⟨_, rfl⟩, .inl ⟨_, .inl ⟨ts, HE.out, rfl⟩, HI.out⟩⟩

end Go.Proofs.YtaeoghagpeihkaaDoor

