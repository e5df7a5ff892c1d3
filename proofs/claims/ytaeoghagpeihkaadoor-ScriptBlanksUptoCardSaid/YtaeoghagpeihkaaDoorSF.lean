/- The document's cut (by program: wip/tools/gen_scut.py). -/
import Derived.Test.YtaeoghagpeihkaaDoorSD
import Derived.Test.YtaeoghagpeihkaaDoorSE
set_option linter.unusedSimpArgs false
set_option linter.unusedVariables false
namespace Go.Proofs.YtaeoghagpeihkaaDoor
open Go.RowKit

theorem rblank_34 (w : World) : Calls Tryd.prog 41 #[.int .u8 34] w fun e w' => e = .returned (.bool (blankB 34)) ∧ w = w' := rblank_any 34 w
theorem rblank_35 (w : World) : Calls Tryd.prog 41 #[.int .u8 35] w fun e w' => e = .returned (.bool (blankB 35)) ∧ w = w' := rblank_any 35 w
def tokC (t : Tok) : List Value := [.bool t.q, .string ⟨t.t.toArray⟩]
theorem tokC_one (q : Bool) {s : ByteArray} : ∀ u ∈ ([.bool q, .string s] : List Value), u.oneCell' = true := by simp [Value.oneCell']
theorem flat_snoc (ts : List Tok) (t : Tok) : (ts ++ [t]).flatMap tokC = ts.flatMap tokC ++ tokC t := by simp
theorem info_tok : (Tryd.prog.info? 90).map (fun i => (i.zero, i.size, i.bytes)) = some (some (.agg #[.bool false, .string ⟨#[]⟩]), 2, 24) := by kernel_rfl
theorem tok_news (w : World) (t : TypeId) (q : Bool) (s : ByteArray) : ∀ j u, ([.bool q, .string s] : List Value)[j]? = some u → (w.alloc (.cells #[.bool q, .string s] t)).cell? ((⟨w.heap.size, 0, none⟩ : Addr).add j) = some u := by
  intro j u hj
  have h := cell_of_row _ w.heap.size j _ _ _ (new_block w (.cells #[.bool q, .string s] t)).2
  have e : (⟨w.heap.size, 0, none⟩ : Addr).add j = ⟨w.heap.size, j, none⟩ := by unfold Addr.add; split <;> simp_all
  rw [e, h]
  simpa using hj
theorem extr_list (s : ByteArray) (a b : Nat) : s.extract a b = ⟨((s.data.toList.drop a).take (b - a)).toArray⟩ := by
  apply ByteArray.ext
  rw [ByteArray.data_extract]
  apply Array.ext'
  rw [Array.toList_extract]
/-- what cut answers -/
def CutR (B : Nat) (w : World) (v : Value) (b : Bool) : Option (List Tok) → Prop
  | none => v = .slice none 0 0 ∧ b = false
  | some ts => b = true ∧ w.ownsRow B 90 2 v ts.length (ts.flatMap tokC)

set_option maxRecDepth 100000 in
set_option maxHeartbeats 8000000 in
theorem rcut_any (s : ByteArray) (w : World) (hs : s.size ≤ 100000000) : Calls Tryd.prog 24 #[.string s] w fun e w' => ∃ v b, e = .returned (.tuple #[v, .bool b]) ∧ CutR w.heap.size w' v b (cutL s.data.toList) ∧ Below w.heap.size w w' := by
  obtain ⟨i0, ji, jz0, jz1, jz2⟩ := info_parts info_tok
  obtain ⟨L, hL⟩ : ∃ l, l = s.data.toList := ⟨_, rfl⟩
  have hLs : L.length = s.size := by rw [hL]; simp
  have hLg : ∀ (i : Nat) (hi : i < s.size), s[i] = L[i]'(by omega) := by intro i hi; subst hL; rfl
  have HEX : Hid (∀ a b, s.extract a b = ⟨((L.drop a).take (b - a)).toArray⟩) := by show ∀ a b, _; intro a b; rw [hL]; exact extr_list s a b
  rw [← hL]
  have HLG := Lib.hid hLg
  clear hL hLg
  obtain ⟨q, hq⟩ : ∃ q, q = cutL L := ⟨_, rfl⟩
  rw [← hq]
  have HQQ := Lib.hid hq
  clear hq
  go_enter Tryd.func24, Tryd.ntmps24
  go_wp2_with (fail)
  go_loopw [4, 5] (fun lv iv wr => ∃ (k n cap : Nat) (ab : Option Addr) (ts : List Tok), k ≤ s.size ∧ iv = .int .i64 (k : Int) ∧ lv = .slice ab n cap ∧ Hid (n = ts.length) ∧ Hid (wr.ownsRow w.heap.size 90 2 (.slice ab n cap) n (ts.flatMap tokC)) ∧ Hid (CI L k ts) ∧ Hid (Below w.heap.size w wr) ∧ Hid (ts.length ≤ k)) (fun _ iv _ => s.size - (intOf iv).toNat)
  case atStart => exact ⟨0, 0, 0, none, [], Nat.zero_le _, rfl, rfl, rfl, World.ownsRow_nil _ _ _ _, CI.start _, Below.refl _ _, Nat.zero_le _⟩
  case round =>
    obtain ⟨k, n, cap, ab, ts, hk, rfl, rfl, HN, HO, HC, HB, HTL⟩ := hrel
    have HNN : Hid (n ≤ 100000000) := by show _ ≤ _; have := HN.out; have := HTL.out; omega
    by_cases hlt : k < s.size
    · obtain ⟨c, hc⟩ : ∃ c, s[k] = c := ⟨_, rfl⟩
      have hLc : L[k]'(by omega) = c := by rw [← HLG.out k hlt]; exact hc
      have hct := c.toNat_lt
      by_cases h35 : c = 35
      · subst h35
        have HE : Hid (q = some ts) := HQQ.out.trans (HC.out.hash (by omega) hLc)
        go_wp2_with (fail)
        go_ret2
        exact ⟨_, _, rfl, by rw [HE.out]; exact ⟨rfl, by rw [← HN.out]; exact HO.out⟩, HB.out⟩
      · have n35 : ((c.toNat : Int) == 35) = false := by
          rw [beq_eq_false_iff_ne]
          intro e
          exact h35 (UInt8.toNat_inj.1 (by show c.toNat = 35; omega))
        by_cases hb : blankB c = true
        · have HC2 : Hid (CI L (k + 1) ts) := HC.out.blank (by omega) (by rw [hLc]; exact hb)
          go_wp2_with (fail)
          with_reducible refine (rblank_any c _).mono ?_
          rintro e w' ⟨rfl, rfl⟩
          rw [hb]
          go_wp2_with (fail)
          go_roundw
          case rel => exact ⟨k + 1, n, cap, ab, ts, by omega, by go_num, rfl, HN.out, HO.out, HC2.out, HB.out, by have := HTL.out; show _ ≤ _; omega⟩
          case measure => simp [intOf] <;> omega
        · have hbf : blankB c = false := by simpa using hb
          by_cases h34 : c = 34
          · subst h34
            obtain ⟨p, hp⟩ : ∃ p, p = qF (L.drop (k + 1)) := ⟨_, rfl⟩
            have hxs : (s.extract k s.size).size = s.size - k := by simp [ByteArray.size_extract]
            have hcon := rquoted_any (s.extract k s.size) (by omega) wr (by omega)
            have hpe : qF ((s.extract k s.size).data.toList.drop (0 + 1)) = p := by
              rw [hp, HEX.out k s.size]
              simp only [List.toList_toArray]
              rw [List.take_of_length_le (by rw [List.length_drop]; omega), List.drop_drop]
            rw [hpe] at hcon
            have HCON := Lib.hid hcon
            have HP := Lib.hid hp
            clear hpe hp hcon hxs
            go_wp2_with (fail)
            with_reducible refine (rblank_34 _).mono ?_
            rintro e w' ⟨rfl, rfl⟩
            rw [hbf]
            go_wp2_with (fail)
            with_reducible refine HCON.out.mono ?_
            rintro e w1 ⟨rfl, hB1⟩
            have HO' := Lib.hid (owns_below HO.out hB1)
            have HB' := Lib.hid (HB.out.trans (hB1.mono HB.out.size))
            clear HCON hB1 HO HB
            obtain ⟨wr, rfl⟩ : ∃ W, W = w1 := ⟨_, rfl⟩
            have HO := HO'
            have HB := HB'
            clear HO' HB'
            cases p with
            | none =>
              simp only [quotT, quotN]
              have HE : Hid (q = none) := HQQ.out.trans (HC.out.qnone (by omega) hLc HP.out.symm)
              go_wp2_with (fail)
              go_ret2
              exact ⟨_, _, rfl, by rw [HE.out]; exact ⟨rfl, rfl⟩, HB.out⟩
            | some pr =>
              obtain ⟨t, m⟩ := pr
              have hm := qF_len _ t m HP.out.symm
              rw [List.length_drop] at hm
              have HM : Hid (qF (L.drop (k + 1)) = some (t, m) ∧ True) := ⟨HP.out.symm, trivial⟩
              have hmm : m + 1 ≤ s.size - k := by omega
              have hm0 : 1 ≤ m := hm.1
              clear HP hm
              simp only [quotT, quotN]
              by_cases he : k + (1 + m) < s.size
              · obtain ⟨d, hd⟩ : ∃ d, s[k + (1 + m)] = d := ⟨_, rfl⟩
                have hLd : L[k + 1 + m]'(by omega) = d := by
                  have h := HLG.out (k + (1 + m)) he
                  rw [hd] at h
                  rw [h]
                  congr 1
                  omega
                by_cases hdb : blankB d = true
                · go_wp2_with (fail)
                  with_reducible refine (rblank_any d _).mono ?_
                  rintro e w' ⟨rfl, rfl⟩
                  rw [hdb]
                  have HO1 := Lib.hid (owns_below HO.out (new_block wr (.cells #[.bool true, .string ⟨t.toArray⟩] 90)).1)
                  have HNW : Hid (∀ j u, ([.bool true, .string ⟨t.toArray⟩] : List Value)[j]? = some u → (wr.alloc (.cells #[.bool true, .string ⟨t.toArray⟩] 90)).cell? ((⟨wr.heap.size, 0, none⟩ : Addr).add j) = some u) := tok_news wr 90 true ⟨t.toArray⟩
                  have HTC : Hid (([.bool true, .string ⟨t.toArray⟩] : List Value) = tokC (Tok.mk true t)) := by show _ = _; rfl
                  go_wp2_with (at_builtin; (refine wpList_append_lies _ rfl _ _ 57 rfl w.heap.size 90 i0 _ 2 24 Tryd.underlying57 ji jz0 jz1 jz2 rfl (by decide) (.slice ab n cap) n (ts.flatMap tokC) rfl HO1.out ⟨wr.heap.size, 0, none⟩ 1 1 [.bool true, .string ⟨t.toArray⟩] rfl rfl (HNW.out) (tokC_one _) (by decide) (by have := HNN.out; unfold maxLen; omega) (by have := HNN.out; omega) (by have := HB.out.size; simp; omega) _ rfl ?_))
                  intro g2 cap2 w2 ho2 hg2 _ _
                  have HB2 := Lib.hid ((HB.out.trans ((new_block wr (.cells #[.bool true, .string ⟨t.toArray⟩] 90)).1.mono HB.out.size)).grown hg2 (Nat.le_trans HB.out.size (new_block wr _).1.size) (fun j e => (World.ownsRow.lt HO1.out j e).1))
                  rw [HTC.out, ← flat_snoc] at ho2
                  have HO2 := Lib.hid ho2
                  clear ho2 hg2
                  go_wp2_with (fail)
                  go_roundw
                  case rel => exact ⟨k + (1 + m), n + 1, cap2, some ⟨g2, 0, none⟩, ts ++ [(Tok.mk true t)], by omega, by go_num, rfl, (by have := HN.out; show _ = _; simp [this]), HO2, Lib.hid (by have h := HC.out.quote (by omega) hLc HM.out.1 (fun _ => by rw [hLd]; unfold stopB; rw [hdb]; rfl); rw [show k + 1 + m = k + (1 + m) by omega] at h; exact h), HB2, (by have := HTL.out; show _ ≤ _; simp; omega)⟩
                  case measure => simp [intOf] <;> omega
                · have hdf : blankB d = false := by simpa using hdb
                  by_cases hd35 : d = 35
                  · subst hd35
                    go_wp2_with (fail)
                    with_reducible refine (rblank_35 _).mono ?_
                    rintro e w' ⟨rfl, rfl⟩
                    rw [hdf]
                    have HO1 := Lib.hid (owns_below HO.out (new_block wr (.cells #[.bool true, .string ⟨t.toArray⟩] 90)).1)
                    have HNW : Hid (∀ j u, ([.bool true, .string ⟨t.toArray⟩] : List Value)[j]? = some u → (wr.alloc (.cells #[.bool true, .string ⟨t.toArray⟩] 90)).cell? ((⟨wr.heap.size, 0, none⟩ : Addr).add j) = some u) := tok_news wr 90 true ⟨t.toArray⟩
                    have HTC : Hid (([.bool true, .string ⟨t.toArray⟩] : List Value) = tokC (Tok.mk true t)) := by show _ = _; rfl
                    go_wp2_with (at_builtin; (refine wpList_append_lies _ rfl _ _ 57 rfl w.heap.size 90 i0 _ 2 24 Tryd.underlying57 ji jz0 jz1 jz2 rfl (by decide) (.slice ab n cap) n (ts.flatMap tokC) rfl HO1.out ⟨wr.heap.size, 0, none⟩ 1 1 [.bool true, .string ⟨t.toArray⟩] rfl rfl (HNW.out) (tokC_one _) (by decide) (by have := HNN.out; unfold maxLen; omega) (by have := HNN.out; omega) (by have := HB.out.size; simp; omega) _ rfl ?_))
                    intro g2 cap2 w2 ho2 hg2 _ _
                    have HB2 := Lib.hid ((HB.out.trans ((new_block wr (.cells #[.bool true, .string ⟨t.toArray⟩] 90)).1.mono HB.out.size)).grown hg2 (Nat.le_trans HB.out.size (new_block wr _).1.size) (fun j e => (World.ownsRow.lt HO1.out j e).1))
                    rw [HTC.out, ← flat_snoc] at ho2
                    have HO2 := Lib.hid ho2
                    clear ho2 hg2
                    go_wp2_with (fail)
                    go_roundw
                    case rel => exact ⟨k + (1 + m), n + 1, cap2, some ⟨g2, 0, none⟩, ts ++ [(Tok.mk true t)], by omega, by go_num, rfl, (by have := HN.out; show _ = _; simp [this]), HO2, Lib.hid (by have h := HC.out.quote (by omega) hLc HM.out.1 (fun _ => by rw [hLd]; rfl); rw [show k + 1 + m = k + (1 + m) by omega] at h; exact h), HB2, (by have := HTL.out; show _ ≤ _; simp; omega)⟩
                    case measure => simp [intOf] <;> omega
                  · have d35 : ((d.toNat : Int) == 35) = false := by
                      rw [beq_eq_false_iff_ne]
                      intro e
                      exact hd35 (UInt8.toNat_inj.1 (by show d.toNat = 35; omega))
                    have d35n : ((d.toNat : Int) != 35) = true := by unfold bne; rw [d35]; rfl
                    have m0 : (1 + (m : Int) == 0) = false := by rw [beq_eq_false_iff_ne]; omega
                    go_wp2_with (fail)
                    with_reducible refine (rblank_any d _).mono ?_
                    rintro e w' ⟨rfl, rfl⟩
                    rw [hdf]
                    have HE : Hid (q = none) := HQQ.out.trans (HC.out.qend (by omega) hLc HM.out.1 (by omega) (by rw [hLd]; unfold stopB; rw [hdf]; simpa using hd35))
                    go_wp2_with (fail)
                    go_ret2
                    exact ⟨_, _, rfl, by rw [HE.out]; exact ⟨rfl, rfl⟩, HB.out⟩
              · have he' : ¬ (k : Int) + (1 + (m : Int)) < (s.size : Int) := by omega
                have HO1 := Lib.hid (owns_below HO.out (new_block wr (.cells #[.bool true, .string ⟨t.toArray⟩] 90)).1)
                have HNW : Hid (∀ j u, ([.bool true, .string ⟨t.toArray⟩] : List Value)[j]? = some u → (wr.alloc (.cells #[.bool true, .string ⟨t.toArray⟩] 90)).cell? ((⟨wr.heap.size, 0, none⟩ : Addr).add j) = some u) := tok_news wr 90 true ⟨t.toArray⟩
                have HTC : Hid (([.bool true, .string ⟨t.toArray⟩] : List Value) = tokC (Tok.mk true t)) := by show _ = _; rfl
                go_wp2_with (at_builtin; (refine wpList_append_lies _ rfl _ _ 57 rfl w.heap.size 90 i0 _ 2 24 Tryd.underlying57 ji jz0 jz1 jz2 rfl (by decide) (.slice ab n cap) n (ts.flatMap tokC) rfl HO1.out ⟨wr.heap.size, 0, none⟩ 1 1 [.bool true, .string ⟨t.toArray⟩] rfl rfl (HNW.out) (tokC_one _) (by decide) (by have := HNN.out; unfold maxLen; omega) (by have := HNN.out; omega) (by have := HB.out.size; simp; omega) _ rfl ?_))
                intro g2 cap2 w2 ho2 hg2 _ _
                have HB2 := Lib.hid ((HB.out.trans ((new_block wr (.cells #[.bool true, .string ⟨t.toArray⟩] 90)).1.mono HB.out.size)).grown hg2 (Nat.le_trans HB.out.size (new_block wr _).1.size) (fun j e => (World.ownsRow.lt HO1.out j e).1))
                rw [HTC.out, ← flat_snoc] at ho2
                have HO2 := Lib.hid ho2
                clear ho2 hg2
                go_wp2_with (fail)
                go_roundw
                case rel => exact ⟨k + (1 + m), n + 1, cap2, some ⟨g2, 0, none⟩, ts ++ [(Tok.mk true t)], by omega, by go_num, rfl, (by have := HN.out; show _ = _; simp [this]), HO2, Lib.hid (by have h := HC.out.quote (by omega) hLc HM.out.1 (fun h => by omega); rw [show k + 1 + m = k + (1 + m) by omega] at h; exact h), HB2, (by have := HTL.out; show _ ≤ _; simp; omega)⟩
                case measure => simp [intOf] <;> omega
          · have n34 : ((c.toNat : Int) == 34) = false := by
              rw [beq_eq_false_iff_ne]
              intro e
              exact h34 (UInt8.toNat_inj.1 (by show c.toNat = 34; omega))
            have hL34 : L[k]'(by omega) ≠ 34 := by rw [hLc]; exact h34
            have hsk : stopB (L[k]'(by omega)) = false := by rw [hLc]; unfold stopB; rw [hbf]; simpa using h35
            have HSK := Lib.hid hsk
            clear hsk
            go_wp2_with (fail)
            with_reducible refine (rblank_any c _).mono ?_
            rintro e w' ⟨rfl, rfl⟩
            rw [hbf]
            go_wp2_with (fail)
            obtain ⟨wo, rfl⟩ : ∃ W, W = wr := ⟨_, rfl⟩
            go_loopw [8] (fun mv wr => ∃ m : Nat, k ≤ m ∧ m ≤ s.size ∧ mv = .int .i64 (m : Int) ∧ Hid (∀ j (h1 : k ≤ j) (h2 : j < m) (h3 : j < L.length), stopB L[j] = false) ∧ wr = wo) (fun mv _ => s.size - (intOf mv).toNat)
            case atStart => exact ⟨k, Nat.le_refl _, by omega, rfl, (fun j h1 h2 => by omega), rfl⟩
            case round =>
              obtain ⟨m, hkm0, hm, rfl, HW0, hww⟩ := hrel
              subst hww
              have HW : Hid (∀ j (h1 : k ≤ j) (h2 : j < m), stopB (L[j]'(by omega)) = false) := fun j h1 h2 => HW0.out j h1 h2 (by omega)
              by_cases hmt : m < s.size
              · obtain ⟨d, hd⟩ : ∃ d, s[m] = d := ⟨_, rfl⟩
                have hLd : L[m]'(by omega) = d := by rw [← HLG.out m hmt]; exact hd
                have hkm' : stopB d = true → k < m := by
                  intro h
                  rcases Nat.lt_or_eq_of_le hkm0 with h1 | h1
                  · exact h1
                  · subst h1
                    have h2 := HSK.out
                    rw [hLd, h] at h2
                    cases h2
                by_cases hdb : blankB d = true
                · have hds : stopB d = true := by unfold stopB; rw [hdb]; rfl
                  have hkm := hkm' hds
                  have hmL : m ≤ L.length := by omega
                  clear hkm'
                  go_wp2_with (fail)
                  with_reducible refine (rblank_any d _).mono ?_
                  rintro e w' ⟨rfl, rfl⟩
                  rw [hdb]
                  have HO1 := Lib.hid (owns_below HO.out (new_block wr (.cells #[.bool false, .string (s.extract k m)] 90)).1)
                  have HNW : Hid (∀ j u, ([.bool false, .string (s.extract k m)] : List Value)[j]? = some u → (wr.alloc (.cells #[.bool false, .string (s.extract k m)] 90)).cell? ((⟨wr.heap.size, 0, none⟩ : Addr).add j) = some u) := tok_news wr 90 false (s.extract k m)
                  have HTC : Hid (([.bool false, .string (s.extract k m)] : List Value) = tokC (Tok.mk false ((L.drop k).take (m - k)))) := by show _ = _; rw [HEX.out]; rfl
                  go_wp2_with (at_builtin; (refine wpList_append_lies _ rfl _ _ 57 rfl w.heap.size 90 i0 _ 2 24 Tryd.underlying57 ji jz0 jz1 jz2 rfl (by decide) (.slice ab n cap) n (ts.flatMap tokC) rfl HO1.out ⟨wr.heap.size, 0, none⟩ 1 1 [.bool false, .string (s.extract k m)] rfl rfl (HNW.out) (tokC_one _) (by decide) (by have := HNN.out; unfold maxLen; omega) (by have := HNN.out; omega) (by have := HB.out.size; simp; omega) _ rfl ?_))
                  intro g2 cap2 w2 ho2 hg2 _ _
                  have HB2 := Lib.hid ((HB.out.trans ((new_block wr (.cells #[.bool false, .string (s.extract k m)] 90)).1.mono HB.out.size)).grown hg2 (Nat.le_trans HB.out.size (new_block wr _).1.size) (fun j e => (World.ownsRow.lt HO1.out j e).1))
                  rw [HTC.out, ← flat_snoc] at ho2
                  have HO2 := Lib.hid ho2
                  clear ho2 hg2
                  go_wp2_with (fail)
                  go_roundw
                  case rel => exact ⟨m, n + 1, cap2, some ⟨g2, 0, none⟩, ts ++ [(Tok.mk false ((L.drop k).take (m - k)))], by omega, by go_num, rfl, (by have := HN.out; show _ = _; simp [this]), HO2, Lib.hid (HC.out.word hkm hmL hL34 HW.out (fun _ => by rw [hLd]; exact hds)), HB2, (by have := HTL.out; show _ ≤ _; simp; omega)⟩
                  case measure => simp [intOf] <;> omega
                · have hdf : blankB d = false := by simpa using hdb
                  by_cases hd35 : d = 35
                  · subst hd35
                    have hkm := hkm' (by decide)
                    have hmL : m ≤ L.length := by omega
                    clear hkm'
                    go_wp2_with (fail)
                    with_reducible refine (rblank_35 _).mono ?_
                    rintro e w' ⟨rfl, rfl⟩
                    rw [hdf]
                    have HO1 := Lib.hid (owns_below HO.out (new_block wr (.cells #[.bool false, .string (s.extract k m)] 90)).1)
                    have HNW : Hid (∀ j u, ([.bool false, .string (s.extract k m)] : List Value)[j]? = some u → (wr.alloc (.cells #[.bool false, .string (s.extract k m)] 90)).cell? ((⟨wr.heap.size, 0, none⟩ : Addr).add j) = some u) := tok_news wr 90 false (s.extract k m)
                    have HTC : Hid (([.bool false, .string (s.extract k m)] : List Value) = tokC (Tok.mk false ((L.drop k).take (m - k)))) := by show _ = _; rw [HEX.out]; rfl
                    go_wp2_with (at_builtin; (refine wpList_append_lies _ rfl _ _ 57 rfl w.heap.size 90 i0 _ 2 24 Tryd.underlying57 ji jz0 jz1 jz2 rfl (by decide) (.slice ab n cap) n (ts.flatMap tokC) rfl HO1.out ⟨wr.heap.size, 0, none⟩ 1 1 [.bool false, .string (s.extract k m)] rfl rfl (HNW.out) (tokC_one _) (by decide) (by have := HNN.out; unfold maxLen; omega) (by have := HNN.out; omega) (by have := HB.out.size; simp; omega) _ rfl ?_))
                    intro g2 cap2 w2 ho2 hg2 _ _
                    have HB2 := Lib.hid ((HB.out.trans ((new_block wr (.cells #[.bool false, .string (s.extract k m)] 90)).1.mono HB.out.size)).grown hg2 (Nat.le_trans HB.out.size (new_block wr _).1.size) (fun j e => (World.ownsRow.lt HO1.out j e).1))
                    rw [HTC.out, ← flat_snoc] at ho2
                    have HO2 := Lib.hid ho2
                    clear ho2 hg2
                    go_wp2_with (fail)
                    go_roundw
                    case rel => exact ⟨m, n + 1, cap2, some ⟨g2, 0, none⟩, ts ++ [(Tok.mk false ((L.drop k).take (m - k)))], by omega, by go_num, rfl, (by have := HN.out; show _ = _; simp [this]), HO2, Lib.hid (HC.out.word hkm hmL hL34 HW.out (fun _ => by rw [hLd]; rfl)), HB2, (by have := HTL.out; show _ ≤ _; simp; omega)⟩
                    case measure => simp [intOf] <;> omega
                  · have d35 : ((d.toNat : Int) == 35) = false := by
                      rw [beq_eq_false_iff_ne]
                      intro e
                      exact hd35 (UInt8.toNat_inj.1 (by show d.toNat = 35; omega))
                    have hds : stopB d = false := by unfold stopB; rw [hdf]; simpa using hd35
                    have HDS := Lib.hid hds
                    have HLD := Lib.hid hLd
                    clear hkm' hds hLd
                    go_wp2_with (fail)
                    with_reducible refine (rblank_any d _).mono ?_
                    rintro e w' ⟨rfl, rfl⟩
                    rw [hdf]
                    go_wp2_with (fail)
                    go_roundw
                    case rel => exact ⟨m + 1, by omega, by omega, by go_num, (fun j h1 h2 h3 => by
                      by_cases e : j = m
                      · subst e; rw [HLD.out]; exact HDS.out
                      · exact HW0.out j h1 (by omega) h3), by trivial⟩
                    case measure => simp [intOf] <;> omega
              · have hkm : k < m := by omega
                have hmL : m ≤ L.length := by omega
                have HO1 := Lib.hid (owns_below HO.out (new_block wr (.cells #[.bool false, .string (s.extract k m)] 90)).1)
                have HNW : Hid (∀ j u, ([.bool false, .string (s.extract k m)] : List Value)[j]? = some u → (wr.alloc (.cells #[.bool false, .string (s.extract k m)] 90)).cell? ((⟨wr.heap.size, 0, none⟩ : Addr).add j) = some u) := tok_news wr 90 false (s.extract k m)
                have HTC : Hid (([.bool false, .string (s.extract k m)] : List Value) = tokC (Tok.mk false ((L.drop k).take (m - k)))) := by show _ = _; rw [HEX.out]; rfl
                go_wp2_with (at_builtin; (refine wpList_append_lies _ rfl _ _ 57 rfl w.heap.size 90 i0 _ 2 24 Tryd.underlying57 ji jz0 jz1 jz2 rfl (by decide) (.slice ab n cap) n (ts.flatMap tokC) rfl HO1.out ⟨wr.heap.size, 0, none⟩ 1 1 [.bool false, .string (s.extract k m)] rfl rfl (HNW.out) (tokC_one _) (by decide) (by have := HNN.out; unfold maxLen; omega) (by have := HNN.out; omega) (by have := HB.out.size; simp; omega) _ rfl ?_))
                intro g2 cap2 w2 ho2 hg2 _ _
                have HB2 := Lib.hid ((HB.out.trans ((new_block wr (.cells #[.bool false, .string (s.extract k m)] 90)).1.mono HB.out.size)).grown hg2 (Nat.le_trans HB.out.size (new_block wr _).1.size) (fun j e => (World.ownsRow.lt HO1.out j e).1))
                rw [HTC.out, ← flat_snoc] at ho2
                have HO2 := Lib.hid ho2
                clear ho2 hg2
                go_wp2_with (fail)
                go_roundw
                case rel => exact ⟨m, n + 1, cap2, some ⟨g2, 0, none⟩, ts ++ [(Tok.mk false ((L.drop k).take (m - k)))], by omega, by go_num, rfl, (by have := HN.out; show _ = _; simp [this]), HO2, Lib.hid (HC.out.word hkm hmL hL34 HW.out (fun h => by omega)), HB2, (by have := HTL.out; show _ ≤ _; simp; omega)⟩
                case measure => simp [intOf] <;> omega
    · have HE : Hid (q = some ts) := HQQ.out.trans (HC.out.done (by omega))
      go_wp2_with (fail)
      go_ret2
      exact ⟨_, _, rfl, by rw [HE.out]; exact ⟨rfl, by rw [← HN.out]; exact HO.out⟩, HB.out⟩

end Go.Proofs.YtaeoghagpeihkaaDoor

