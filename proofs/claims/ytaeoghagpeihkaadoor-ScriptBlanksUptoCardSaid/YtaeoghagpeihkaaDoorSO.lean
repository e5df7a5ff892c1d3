/- Scripts, plain: a text read line by line from the left.
Scripts, plain: a line's words are no more and no longer than the line.
The document's Parse (by program: wip/tools/gen_sparse.py).
Scripts: rows of steps in memory; the document's Same (by program: wip/tools/gen_sprint.py). -/
import Derived.Test.YtaeoghagpeihkaaDoorSE
import Derived.Test.YtaeoghagpeihkaaDoorSH
import Derived.Test.YtaeoghagpeihkaaDoorSI
import Derived.BigQuiet
import Derived.Deep.QuietTactic
set_option linter.unusedSimpArgs false
set_option linter.unusedVariables false
namespace Go.Proofs.YtaeoghagpeihkaaDoor

/-- read up to the place a: ln lines, the steps out -/
def PI (L : List UInt8) (a ln : Nat) (out : List Stp) : Prop := ∃ f, (L.drop a).length < f ∧ parseA (L.length + 1) L 1 [] = parseA f (L.drop a) (ln + 1) out
theorem PI.start (L : List UInt8) : PI L 0 0 [] := ⟨L.length + 1, by simp, by rw [List.drop_zero]⟩
theorem PI.done {L : List UInt8} {a ln : Nat} {out : List Stp} (h : PI L a ln out) (ha : L.length ≤ a) : parseA (L.length + 1) L 1 [] = (out, 0, 0) := by
  obtain ⟨f, hf, e⟩ := h
  rw [e, List.drop_eq_nil_of_le ha]
  cases f with
  | zero => rfl
  | succ f => rw [parseA]
theorem while_to (s r : List UInt8) (hs : ∀ c ∈ s, c ≠ 10) (hr : r = [] ∨ ∃ t, r = 10 :: t) : (s ++ r).takeWhile (fun x => x != 10) = s ∧ (s ++ r).dropWhile (fun x => x != 10) = r := by
  induction s with
  | nil => rcases hr with rfl | ⟨t, rfl⟩ <;> simp
  | cons c s ih =>
    have h1 := hs c List.mem_cons_self
    have h2 := ih fun x hx => hs x (List.mem_cons_of_mem _ hx)
    simp [List.takeWhile_cons, List.dropWhile_cons, h1, h2.1, h2.2]
/-- one line: from a to e -/
theorem PI.line {L : List UInt8} {a e ln : Nat} {out : List Stp} (h : PI L a ln out) (ha : a < L.length) (hae : a ≤ e) (he : e ≤ L.length) (hn : ∀ j (_ : a ≤ j) (h2 : j < e), L[j]'(by omega) ≠ 10) (hend : ∀ he : e < L.length, L[e] = 10) :
    ∃ f, (L.drop (e + 1)).length < f ∧ parseA (L.length + 1) L 1 [] = match cutL ((L.drop a).take (e - a)) with
      | none => ([], ln + 1, 20)
      | some [] => parseA f (L.drop (e + 1)) (ln + 1 + 1) out
      | some (w :: ts) =>
        if (stepF (w :: ts)).2 ≠ 0 then ([], ln + 1, (stepF (w :: ts)).2)
        else if 65536 ≤ out.length then ([], ln + 1, 30)
        else parseA f (L.drop (e + 1)) (ln + 1 + 1) (out ++ [(stepF (w :: ts)).1]) := by
  obtain ⟨f, hf, hp⟩ := h
  have hl : (L.drop a).length = L.length - a := List.length_drop
  cases f with
  | zero => omega
  | succ f =>
    have e1 : L.drop a = (L.drop a).take (e - a) ++ L.drop e := by
      conv => lhs; rw [← List.take_append_drop (e - a) (L.drop a)]
      rw [List.drop_drop, show a + (e - a) = e by omega]
    have hw := while_to ((L.drop a).take (e - a)) (L.drop e) (by
      intro c hc
      obtain ⟨j, hj, rfl⟩ := List.mem_iff_getElem.1 hc
      rw [List.length_take, hl] at hj
      rw [List.getElem_take, List.getElem_drop]
      exact hn (a + j) (by omega) (by omega)) (by
      by_cases h1 : e < L.length
      · right
        exact ⟨L.drop (e + 1), by rw [List.drop_eq_getElem_cons h1, hend h1]⟩
      · left; exact List.drop_eq_nil_of_le (by omega))
    rw [← e1] at hw
    refine ⟨f, by rw [List.length_drop]; omega, ?_⟩
    rw [hp]
    obtain ⟨c, r, hcr⟩ : ∃ c r, L.drop a = c :: r := ⟨_, _, List.drop_eq_getElem_cons ha⟩
    rw [hcr] at hw ⊢
    rw [parseA, hw.1, hw.2, List.drop_drop]
    cases cutL (List.take (e - a) (c :: r)) with
    | none => rfl
    | some l => cases l <;> rfl
theorem PI.next {L : List UInt8} {f a ln : Nat} {out : List Stp} (hf : (L.drop a).length < f) (h : parseA (L.length + 1) L 1 [] = parseA f (L.drop a) (ln + 1) out) : PI L a ln out := ⟨f, hf, h⟩

end Go.Proofs.YtaeoghagpeihkaaDoor

namespace Go.Proofs.YtaeoghagpeihkaaDoor

theorem cutF_small : ∀ (f : Nat) (l : List UInt8) (ts : List Tok), cutF f l = some ts → ts.length ≤ l.length ∧ ∀ t ∈ ts, t.t.length ≤ l.length := by
  intro f
  induction f with
  | zero => intro l ts h; unfold cutF at h; injection h with h; subst h; exact ⟨Nat.zero_le _, fun t h => by cases h⟩
  | succ f ih =>
    intro l ts h
    cases l with
    | nil => unfold cutF at h; injection h with h; subst h; exact ⟨Nat.zero_le _, fun t h => by cases h⟩
    | cons c r =>
      have key : ∀ (r2 : List UInt8) (t0 : Tok), r2.length ≤ r.length → t0.t.length ≤ r.length + 1 → (cutF f r2).map (t0 :: ·) = some ts → ts.length ≤ r.length + 1 ∧ ∀ t ∈ ts, t.t.length ≤ r.length + 1 := by
        intro r2 t0 h1 h2 h3
        rw [Option.map_eq_some_iff] at h3
        obtain ⟨l2, e2, rfl⟩ := h3
        have := ih r2 l2 e2
        refine ⟨by simp; omega, fun t ht => ?_⟩
        rcases List.mem_cons.1 ht with rfl | ht
        · exact h2
        · have := this.2 t ht; omega
      simp only [List.length_cons]
      unfold cutF at h
      split at h
      · injection h with h; subst h; exact ⟨Nat.zero_le _, fun t h => by cases h⟩
      · split at h
        · have := ih r ts h
          exact ⟨by omega, fun t ht => by have := this.2 t ht; omega⟩
        · split at h
          · split at h
            · cases h
            · rename_i t n hq
              have hn := qF_len r t n hq
              split at h
              · exact key (r.drop n) _ (by rw [List.length_drop]; omega) (by show t.length ≤ _; omega) h
              · cases h
          · rename_i h35 hb _
            have hc : (!stopB c) = true := by
              unfold stopB
              simp only [Bool.not_or, Bool.and_eq_true, Bool.not_eq_true']
              exact ⟨by simpa using hb, by simpa using h35⟩
            have hl := drop_while_len (p := fun x => !stopB x) r
            rw [List.dropWhile_cons, if_pos hc] at h
            refine key _ _ hl ?_ h
            have h2 := (List.takeWhile_sublist (p := fun x => !stopB x) (l := c :: r)).length_le
            simp only [List.length_cons] at h2
            exact h2
theorem cutL_small {l : List UInt8} {ts : List Tok} (h : cutL l = some ts) : ts.length ≤ l.length ∧ ∀ t ∈ ts, t.t.length ≤ l.length := cutF_small _ _ _ h

end Go.Proofs.YtaeoghagpeihkaaDoor

namespace Go.Proofs.YtaeoghagpeihkaaDoor
open Go.RowKit

def stepL (s : Stp) : List Value := [.int .i64 s.kind, .int .i64 s.a, .int .i64 s.b, .string ⟨s.name.toArray⟩, .int .i64 s.k, .int .i64 s.n]
theorem stepL_one (s : Stp) : ∀ u ∈ stepL s, u.oneCell' = true := by simp [stepL, Value.oneCell']
theorem build_stp (s : Stp) (W : World) : (Instr.buildSlice 22 1 #[(0, .agg (stepC s))]).run Tryd.prog W = .ok (.slice (some ⟨W.heap.size, 0, none⟩) 1 1) (W.alloc (.cells (stepC s) 35)) := by kernel_rfl
theorem info_step : (Tryd.prog.info? 35).map (fun i => (i.zero, i.size, i.bytes)) = some (some (.agg #[.int .i64 0, .int .i64 0, .int .i64 0, .string ⟨#[]⟩, .int .i64 0, .int .i64 0]), 6, 56) := by kernel_rfl

set_option maxRecDepth 100000 in
set_option maxHeartbeats 8000000 in
theorem rparse_any (s : ByteArray) (w : World) (hs : s.size ≤ 281474976710656) : Calls Tryd.prog 9 #[.string s] w fun e w' => ∃ v, e = .returned (.tuple #[v, .int .i64 ((parseF s.data.toList).2.1 : Int), .int .i64 ((parseF s.data.toList).2.2 : Int)]) ∧ w'.ownsRow w.heap.size 35 6 v (parseF s.data.toList).1.length ((parseF s.data.toList).1.flatMap stepL) ∧ Below w.heap.size w w' := by
  obtain ⟨i0, ji, jz0, jz1, jz2⟩ := info_parts info_step
  obtain ⟨L, hL⟩ : ∃ l, l = s.data.toList := ⟨_, rfl⟩
  have hLs : L.length = s.size := by rw [hL]; simp
  have hLg : ∀ (i : Nat) (hi : i < s.size), s[i] = L[i]'(by omega) := by intro i hi; subst hL; rfl
  have HEX : Hid (∀ a b, s.extract a b = ⟨((L.drop a).take (b - a)).toArray⟩) := by show ∀ a b, _; intro a b; rw [hL]; exact extr_list s a b
  rw [← hL]
  have HLG := Lib.hid hLg
  clear hL hLg
  obtain ⟨p, hp⟩ : ∃ p, p = parseF L := ⟨_, rfl⟩
  rw [← hp]
  by_cases hbig : 1048576 < s.size
  · have hbi : (1048576 : Int) < (s.size : Int) := by omega
    have HE : Hid (p = ([], 0, 60)) := hp.trans (by unfold parseF; rw [if_pos (by omega)])
    clear hp
    go_enter Tryd.func9, Tryd.ntmps9
    go_wp2_with (fail)
    go_ret3
    exact ⟨_, by rw [HE.out]; rfl, by rw [HE.out]; exact World.ownsRow_nil _ _ _ _, Below.refl _ _⟩
  · replace hs : s.size ≤ 100000000 := by omega
    have hbi : ¬ (1048576 : Int) < (s.size : Int) := by omega
    have HPP : Hid (p = parseA (L.length + 1) L 1 []) := hp.trans (by unfold parseF; rw [if_neg (by omega)])
    clear hp
    go_enter Tryd.func9, Tryd.ntmps9
    go_wp2_with (fail)
    go_loopw [5, 6, 7] (fun ov lv iv wr => ∃ (k ln n cap : Nat) (ab : Option Addr) (out : List Stp), k ≤ s.size + 1 ∧ ln ≤ k ∧ iv = .int .i64 (k : Int) ∧ lv = .int .i64 (ln : Int) ∧ ov = .slice ab n cap ∧ Hid (n = out.length ∧ n ≤ 65536) ∧ Hid (wr.ownsRow w.heap.size 35 6 (.slice ab n cap) n (out.flatMap stepL)) ∧ Hid (PI L k ln out) ∧ Hid (Below w.heap.size w wr)) (fun _ _ iv _ => s.size + 1 - (intOf iv).toNat)
    case atStart => exact ⟨0, 0, 0, 0, none, [], by omega, Nat.le_refl _, rfl, rfl, rfl, ⟨rfl, by omega⟩, World.ownsRow_nil _ _ _ _, PI.start _, Below.refl _ _⟩
    case round =>
      obtain ⟨k, ln, n, cap, ab, out, hk, hln, rfl, rfl, rfl, HN, HO, HPI, HB⟩ := hrel
      by_cases hlt : k < s.size
      · go_wp2_with (fail)
        obtain ⟨wo, rfl⟩ : ∃ W, W = wr := ⟨_, rfl⟩
        go_loopw [8] (fun mv wr => ∃ m : Nat, k ≤ m ∧ m ≤ s.size ∧ mv = .int .i64 (m : Int) ∧ Hid (∀ j (_ : k ≤ j) (h2 : j < m) (h3 : j < L.length), L[j] ≠ 10) ∧ wr = wo) (fun mv _ => s.size - (intOf mv).toNat)
        case atStart => exact ⟨k, Nat.le_refl _, by omega, rfl, (fun j h1 h2 => by omega), rfl⟩
        case round =>
          obtain ⟨m, hkm0, hm, rfl, HW0, hww⟩ := hrel
          subst hww
          have HW : Hid (∀ j (_ : k ≤ j) (h2 : j < m), L[j]'(by omega) ≠ 10) := fun j h1 h2 => HW0.out j h1 h2 (by omega)
          by_cases hmt : m < s.size
          · obtain ⟨c, hc⟩ : ∃ c, s[m] = c := ⟨_, rfl⟩
            have hLc : L[m]'(by omega) = c := by rw [← HLG.out m hmt]; exact hc
            by_cases h10 : c = 10
            · subst h10
              have HEND : Hid (∀ he : m < L.length, L[m] = 10) := fun _ => hLc
              obtain ⟨f, hf, hln⟩ := HPI.out.line (e := m) (by omega) hkm0 (by omega) HW.out HEND.out
              obtain ⟨q, hq⟩ : ∃ q, q = cutL ((L.drop k).take (m - k)) := ⟨_, rfl⟩
              have hcon := rcut_any (s.extract k m) wr (by rw [ByteArray.size_extract]; omega)
              have hxe : (s.extract k m).data.toList = (L.drop k).take (m - k) := by rw [HEX.out]
              rw [hxe, ← hq] at hcon
              rw [← hq] at hln
              have HLN := Lib.hid hln
              have HF := Lib.hid hf
              have HQ := Lib.hid hq
              have HCON := Lib.hid hcon
              clear hf hln hq hcon hxe
              go_wp2_with (fail)
              with_reducible refine HCON.out.mono ?_
              rintro e w2 ⟨v2, b2, rfl, hR2, hB2⟩
              have HB2 := Lib.hid (HB.out.trans (hB2.mono HB.out.size))
              have HO2 := Lib.hid (owns_below HO.out hB2)
              have HR2 := Lib.hid hR2
              clear HCON hB2 hR2
              cases q with
              | none =>
                obtain ⟨rfl, rfl⟩ := HR2.out
                have HFIN : parseA (L.length + 1) L 1 [] = ([], ln + 1, 20) := HLN.out
                have HE : Hid (p = ([], ln + 1, 20)) := HPP.out.trans HFIN
                go_wp2_with (fail)
                go_ret3
                exact ⟨_, by rw [HE.out]; rfl, by rw [HE.out]; exact World.ownsRow_nil _ _ _ _, HB2.out⟩
              | some l =>
                obtain ⟨rfl, hV⟩ := HR2.out
                have HV := Lib.hid hV
                clear hV HR2
                cases l with
                | nil =>
                  obtain ⟨ab2, cap2, rfl⟩ := owns_form HV.out
                  have HPN : Hid (PI L (m + 1) (ln + 1) out) := PI.next HF.out HLN.out
                  go_wp2_with (fail)
                  go_roundw
                  case rel => exact ⟨m + 1, ln + 1, n, cap, ab, out, by omega, by omega, by go_num, by go_num, rfl, HN, HO2, HPN, HB2⟩
                  case measure => simp [intOf] <;> omega
                | cons w0 ts =>
                  obtain ⟨lb, lcap, rfl, hlc, hTA⟩ := tok_at HV.out (by simp)
                  have hsm := cutL_small HQ.out.symm
                  have hlen1 : ((L.drop k).take (m - k)).length ≤ s.size := by rw [List.length_take, List.length_drop]; omega
                  simp only [List.length_cons] at hlc hsm ⊢
                  have HST := Lib.hid (rstep_any w0 ts lb lcap w2 ⟨hlc, by have := hsm.1; omega⟩ hTA (fun t ht => by have := hsm.2 t ht; omega))
                  obtain ⟨sp, hsp⟩ : ∃ x, x = stepF (w0 :: ts) := ⟨_, rfl⟩
                  have HLN2 := HLN
                  simp only at HLN2
                  rw [← hsp] at HST HLN2
                  obtain ⟨st, en⟩ := sp
                  have htl : ts.length ≤ 100000000 := by have := hsm.1; omega
                  clear hsm hTA HQ hsp HLN HV
                  go_wp2_with (fail)
                  with_reducible refine HST.out.mono ?_
                  rintro e w3 ⟨cs, er, rfl, hR3, hB3⟩
                  obtain ⟨hre, s', rfl, hs'⟩ := hR3
                  simp only at hre hs'
                  subst hre
                  have HS' := Lib.hid hs'
                  obtain ⟨g4, k4⟩ := new_block w3 (.cells #[.int .i64 s'.kind, .int .i64 s'.a, .int .i64 s'.b, .string ⟨s'.name.toArray⟩, .int .i64 s'.k, .int .i64 s'.n] 35)
                  have HB3 := Lib.hid (HB2.out.trans (hB3.mono HB2.out.size))
                  have HB4 := Lib.hid (HB3.out.trans (g4.mono HB3.out.size))
                  have HO4 := Lib.hid (owns_below (owns_below HO2.out hB3) g4)
                  clear HST hB3 hs' k4 g4
                  simp only [stepC]
                  by_cases he0 : en = 0
                  · subst he0
                    by_cases hfull : 65536 ≤ n
                    · have hfi : (65536 : Int) ≤ (n : Int) := by omega
                      have HFIN : parseA (L.length + 1) L 1 [] = ([], ln + 1, 30) := by
                        have h := HLN2.out
                        simp only [ne_eq, not_true_eq_false, if_false] at h
                        rw [if_pos (by rw [← HN.out.1]; exact hfull)] at h
                        exact h
                      have HE : Hid (p = ([], ln + 1, 30)) := HPP.out.trans HFIN
                      go_wp2_with (fail)
                      go_ret3
                      exact ⟨_, by rw [HE.out]; rfl, by rw [HE.out]; exact World.ownsRow_nil _ _ _ _, HB4.out⟩
                    · have hfi : ¬ (65536 : Int) ≤ (n : Int) := by omega
                      obtain rfl : s' = st := HS'.out rfl
                      have HPN : Hid (PI L (m + 1) (ln + 1) (out ++ [s'])) := by
                        have h := HLN2.out
                        simp only [ne_eq, not_true_eq_false, if_false] at h
                        rw [if_neg (by rw [← HN.out.1]; exact hfull)] at h
                        exact PI.next HF.out h
                      obtain ⟨W4, hW4⟩ : ∃ W, W = w3.alloc (.cells #[.int .i64 s'.kind, .int .i64 s'.a, .int .i64 s'.b, .string ⟨s'.name.toArray⟩, .int .i64 s'.k, .int .i64 s'.n] 35) := ⟨_, rfl⟩
                      rw [← hW4] at HB4 HO4
                      obtain ⟨xb, hxb⟩ : ∃ b, b = w3.heap.size := ⟨_, rfl⟩
                      have HX4 : Hid (W4.heap[xb]? = some (.cells (stepC s') 35 (0, 0))) := by show _ = _; rw [hW4, hxb]; exact (new_block w3 _).2
                      have HW4 := Lib.hid hW4
                      have HXB := Lib.hid hxb
                      clear hW4 hxb
                      obtain ⟨g5, k5⟩ := new_block W4 (.cells (stepC s') 35)
                      have HO1 := Lib.hid (owns_below HO4.out g5)
                      obtain ⟨g6, cap6, w5, hrun, ho5, hg5, -⟩ := op_append_row 22 35 i0 _ 6 56 Tryd.underlying22 ji jz0 jz1 jz2 rfl (by decide) (W4.alloc (.cells (stepC s') 35)) w.heap.size (.slice ab n cap) n (out.flatMap stepL) W4.heap.size 1 [.int .i64 s'.kind, .int .i64 s'.a, .int .i64 s'.b, .string ⟨s'.name.toArray⟩, .int .i64 s'.k, .int .i64 s'.n] HO1.out k5 rfl (stepL_one s') (by decide) (by have := HN.out.2; omega) (by have := HN.out.2; omega) (Nat.le_trans HB4.out.size g5.size)
                      have HRUN := Lib.hid hrun
                      have HG5 := Lib.hid hg5
                      have HB4b := Lib.hid (HB4.out.trans (g5.mono HB4.out.size))
                      clear hrun hg5 g5 k5
                      go_upto_region 21 with (fail)
                      rw [← HW4.out]
                      refine wp_region_lit ?_
                      refine wpList_run (v := .slice ab n cap) (w' := W4) rfl (by rfl) ?_
                      refine wpList_run (w' := W4) rfl (exec_load_row 35 _ rfl xb _ _ (.struct (Tryd.prog.fieldsOf 35)) (by rw [HXB.out]; rfl) HX4.out (by kernel_rfl) rfl (by kernel_rfl)) ?_
                      refine wpList_run (w' := W4.alloc (.cells (stepC s') 35)) rfl (exec_buildSlice _ _ _ rfl #[(0, .agg (stepC s'))] (by kernel_rfl) _ _ (build_stp s' W4)) ?_
                      refine wpList_run (w' := w5) rfl (HRUN.out _ _ _ _ rfl rfl rfl rfl) ?_
                      refine wpList_run (v := .slice (some ⟨g6, 0, none⟩) (n + 1) cap6) (w' := w5) rfl (by rfl) ?_
                      refine wpList_nil ?_
                      have HB5 := Lib.hid (HB4b.out.grown HG5.out HB4b.out.size (fun j e => (World.ownsRow.lt HO1.out j e).1))
                      have hfs : out.flatMap stepL ++ [.int .i64 s'.kind, .int .i64 s'.a, .int .i64 s'.b, .string ⟨s'.name.toArray⟩, .int .i64 s'.k, .int .i64 s'.n] = (out ++ [s']).flatMap stepL := by simp [stepL]
                      rw [hfs] at ho5
                      have HO5 := Lib.hid ho5
                      clear ho5 hfs HRUN HG5 HW4 HXB HX4 HO1 HB4b
                      go_simp
                      go_wp2_with (fail)
                      go_roundw
                      case rel => exact ⟨m + 1, ln + 1, n + 1, cap6, some ⟨g6, 0, none⟩, out ++ [s'], by omega, by omega, by go_num, by go_num, rfl, (by have := HN.out.1; exact Lib.hid ⟨by simp [this], by omega⟩), HO5, HPN, HB5⟩
                      case measure => simp [intOf] <;> omega
                  · have hei : ((en : Int) == 0) = false := by rw [beq_eq_false_iff_ne]; omega
                    have HFIN : parseA (L.length + 1) L 1 [] = ([], ln + 1, en) := by
                      have h := HLN2.out
                      rw [if_pos he0] at h
                      exact h
                    have HE : Hid (p = ([], ln + 1, en)) := HPP.out.trans HFIN
                    go_wp2_with (fail)
                    go_ret3
                    exact ⟨_, by rw [HE.out]; rfl, by rw [HE.out]; exact World.ownsRow_nil _ _ _ _, HB4.out⟩
            · have n10 : ((c.toNat : Int) == 10) = false := by
                rw [beq_eq_false_iff_ne]
                intro e
                exact h10 (UInt8.toNat_inj.1 (by show c.toNat = 10; omega))
              have n10b : ((c.toNat : Int) != 10) = true := by unfold bne; rw [n10]; rfl
              have HLC : Hid (L[m]'(by omega) ≠ 10) := by show _ ≠ _; rw [hLc]; exact h10
              clear hLc
              go_wp2_with (fail)
              go_roundw
              case rel => exact ⟨m + 1, by omega, by omega, by go_num, (fun j h1 h2 h3 => by
                by_cases e : j = m
                · subst e; exact HLC.out
                · exact HW0.out j h1 (by omega) h3), by trivial⟩
              case measure => simp [intOf] <;> omega
          · have HEND : Hid (∀ he : m < L.length, L[m] = 10) := fun h => by omega
            obtain ⟨f, hf, hln⟩ := HPI.out.line (e := m) (by omega) hkm0 (by omega) HW.out HEND.out
            obtain ⟨q, hq⟩ : ∃ q, q = cutL ((L.drop k).take (m - k)) := ⟨_, rfl⟩
            have hcon := rcut_any (s.extract k m) wr (by rw [ByteArray.size_extract]; omega)
            have hxe : (s.extract k m).data.toList = (L.drop k).take (m - k) := by rw [HEX.out]
            rw [hxe, ← hq] at hcon
            rw [← hq] at hln
            have HLN := Lib.hid hln
            have HF := Lib.hid hf
            have HQ := Lib.hid hq
            have HCON := Lib.hid hcon
            clear hf hln hq hcon hxe
            go_wp2_with (fail)
            with_reducible refine HCON.out.mono ?_
            rintro e w2 ⟨v2, b2, rfl, hR2, hB2⟩
            have HB2 := Lib.hid (HB.out.trans (hB2.mono HB.out.size))
            have HO2 := Lib.hid (owns_below HO.out hB2)
            have HR2 := Lib.hid hR2
            clear HCON hB2 hR2
            cases q with
            | none =>
              obtain ⟨rfl, rfl⟩ := HR2.out
              have HFIN : parseA (L.length + 1) L 1 [] = ([], ln + 1, 20) := HLN.out
              have HE : Hid (p = ([], ln + 1, 20)) := HPP.out.trans HFIN
              go_wp2_with (fail)
              go_ret3
              exact ⟨_, by rw [HE.out]; rfl, by rw [HE.out]; exact World.ownsRow_nil _ _ _ _, HB2.out⟩
            | some l =>
              obtain ⟨rfl, hV⟩ := HR2.out
              have HV := Lib.hid hV
              clear hV HR2
              cases l with
              | nil =>
                obtain ⟨ab2, cap2, rfl⟩ := owns_form HV.out
                have HPN : Hid (PI L (m + 1) (ln + 1) out) := PI.next HF.out HLN.out
                go_wp2_with (fail)
                go_roundw
                case rel => exact ⟨m + 1, ln + 1, n, cap, ab, out, by omega, by omega, by go_num, by go_num, rfl, HN, HO2, HPN, HB2⟩
                case measure => simp [intOf] <;> omega
              | cons w0 ts =>
                obtain ⟨lb, lcap, rfl, hlc, hTA⟩ := tok_at HV.out (by simp)
                have hsm := cutL_small HQ.out.symm
                have hlen1 : ((L.drop k).take (m - k)).length ≤ s.size := by rw [List.length_take, List.length_drop]; omega
                simp only [List.length_cons] at hlc hsm ⊢
                have HST := Lib.hid (rstep_any w0 ts lb lcap w2 ⟨hlc, by have := hsm.1; omega⟩ hTA (fun t ht => by have := hsm.2 t ht; omega))
                obtain ⟨sp, hsp⟩ : ∃ x, x = stepF (w0 :: ts) := ⟨_, rfl⟩
                have HLN2 := HLN
                simp only at HLN2
                rw [← hsp] at HST HLN2
                obtain ⟨st, en⟩ := sp
                have htl : ts.length ≤ 100000000 := by have := hsm.1; omega
                clear hsm hTA HQ hsp HLN HV
                go_wp2_with (fail)
                with_reducible refine HST.out.mono ?_
                rintro e w3 ⟨cs, er, rfl, hR3, hB3⟩
                obtain ⟨hre, s', rfl, hs'⟩ := hR3
                simp only at hre hs'
                subst hre
                have HS' := Lib.hid hs'
                obtain ⟨g4, k4⟩ := new_block w3 (.cells #[.int .i64 s'.kind, .int .i64 s'.a, .int .i64 s'.b, .string ⟨s'.name.toArray⟩, .int .i64 s'.k, .int .i64 s'.n] 35)
                have HB3 := Lib.hid (HB2.out.trans (hB3.mono HB2.out.size))
                have HB4 := Lib.hid (HB3.out.trans (g4.mono HB3.out.size))
                have HO4 := Lib.hid (owns_below (owns_below HO2.out hB3) g4)
                clear HST hB3 hs' k4 g4
                simp only [stepC]
                by_cases he0 : en = 0
                · subst he0
                  by_cases hfull : 65536 ≤ n
                  · have hfi : (65536 : Int) ≤ (n : Int) := by omega
                    have HFIN : parseA (L.length + 1) L 1 [] = ([], ln + 1, 30) := by
                      have h := HLN2.out
                      simp only [ne_eq, not_true_eq_false, if_false] at h
                      rw [if_pos (by rw [← HN.out.1]; exact hfull)] at h
                      exact h
                    have HE : Hid (p = ([], ln + 1, 30)) := HPP.out.trans HFIN
                    go_wp2_with (fail)
                    go_ret3
                    exact ⟨_, by rw [HE.out]; rfl, by rw [HE.out]; exact World.ownsRow_nil _ _ _ _, HB4.out⟩
                  · have hfi : ¬ (65536 : Int) ≤ (n : Int) := by omega
                    obtain rfl : s' = st := HS'.out rfl
                    have HPN : Hid (PI L (m + 1) (ln + 1) (out ++ [s'])) := by
                      have h := HLN2.out
                      simp only [ne_eq, not_true_eq_false, if_false] at h
                      rw [if_neg (by rw [← HN.out.1]; exact hfull)] at h
                      exact PI.next HF.out h
                    obtain ⟨W4, hW4⟩ : ∃ W, W = w3.alloc (.cells #[.int .i64 s'.kind, .int .i64 s'.a, .int .i64 s'.b, .string ⟨s'.name.toArray⟩, .int .i64 s'.k, .int .i64 s'.n] 35) := ⟨_, rfl⟩
                    rw [← hW4] at HB4 HO4
                    obtain ⟨xb, hxb⟩ : ∃ b, b = w3.heap.size := ⟨_, rfl⟩
                    have HX4 : Hid (W4.heap[xb]? = some (.cells (stepC s') 35 (0, 0))) := by show _ = _; rw [hW4, hxb]; exact (new_block w3 _).2
                    have HW4 := Lib.hid hW4
                    have HXB := Lib.hid hxb
                    clear hW4 hxb
                    obtain ⟨g5, k5⟩ := new_block W4 (.cells (stepC s') 35)
                    have HO1 := Lib.hid (owns_below HO4.out g5)
                    obtain ⟨g6, cap6, w5, hrun, ho5, hg5, -⟩ := op_append_row 22 35 i0 _ 6 56 Tryd.underlying22 ji jz0 jz1 jz2 rfl (by decide) (W4.alloc (.cells (stepC s') 35)) w.heap.size (.slice ab n cap) n (out.flatMap stepL) W4.heap.size 1 [.int .i64 s'.kind, .int .i64 s'.a, .int .i64 s'.b, .string ⟨s'.name.toArray⟩, .int .i64 s'.k, .int .i64 s'.n] HO1.out k5 rfl (stepL_one s') (by decide) (by have := HN.out.2; omega) (by have := HN.out.2; omega) (Nat.le_trans HB4.out.size g5.size)
                    have HRUN := Lib.hid hrun
                    have HG5 := Lib.hid hg5
                    have HB4b := Lib.hid (HB4.out.trans (g5.mono HB4.out.size))
                    clear hrun hg5 g5 k5
                    go_upto_region 21 with (fail)
                    rw [← HW4.out]
                    refine wp_region_lit ?_
                    refine wpList_run (v := .slice ab n cap) (w' := W4) rfl (by rfl) ?_
                    refine wpList_run (w' := W4) rfl (exec_load_row 35 _ rfl xb _ _ (.struct (Tryd.prog.fieldsOf 35)) (by rw [HXB.out]; rfl) HX4.out (by kernel_rfl) rfl (by kernel_rfl)) ?_
                    refine wpList_run (w' := W4.alloc (.cells (stepC s') 35)) rfl (exec_buildSlice _ _ _ rfl #[(0, .agg (stepC s'))] (by kernel_rfl) _ _ (build_stp s' W4)) ?_
                    refine wpList_run (w' := w5) rfl (HRUN.out _ _ _ _ rfl rfl rfl rfl) ?_
                    refine wpList_run (v := .slice (some ⟨g6, 0, none⟩) (n + 1) cap6) (w' := w5) rfl (by rfl) ?_
                    refine wpList_nil ?_
                    have HB5 := Lib.hid (HB4b.out.grown HG5.out HB4b.out.size (fun j e => (World.ownsRow.lt HO1.out j e).1))
                    have hfs : out.flatMap stepL ++ [.int .i64 s'.kind, .int .i64 s'.a, .int .i64 s'.b, .string ⟨s'.name.toArray⟩, .int .i64 s'.k, .int .i64 s'.n] = (out ++ [s']).flatMap stepL := by simp [stepL]
                    rw [hfs] at ho5
                    have HO5 := Lib.hid ho5
                    clear ho5 hfs HRUN HG5 HW4 HXB HX4 HO1 HB4b
                    go_simp
                    go_wp2_with (fail)
                    go_roundw
                    case rel => exact ⟨m + 1, ln + 1, n + 1, cap6, some ⟨g6, 0, none⟩, out ++ [s'], by omega, by omega, by go_num, by go_num, rfl, (by have := HN.out.1; exact Lib.hid ⟨by simp [this], by omega⟩), HO5, HPN, HB5⟩
                    case measure => simp [intOf] <;> omega
                · have hei : ((en : Int) == 0) = false := by rw [beq_eq_false_iff_ne]; omega
                  have HFIN : parseA (L.length + 1) L 1 [] = ([], ln + 1, en) := by
                    have h := HLN2.out
                    rw [if_pos he0] at h
                    exact h
                  have HE : Hid (p = ([], ln + 1, en)) := HPP.out.trans HFIN
                  go_wp2_with (fail)
                  go_ret3
                  exact ⟨_, by rw [HE.out]; rfl, by rw [HE.out]; exact World.ownsRow_nil _ _ _ _, HB4.out⟩
      · have HE : Hid (p = (out, 0, 0)) := HPP.out.trans (HPI.out.done (by omega))
        go_wp2_with (fail)
        go_ret3
        exact ⟨_, by rw [HE.out]; rfl, by rw [HE.out]; show World.ownsRow _ _ _ _ _ out.length _; rw [← HN.out.1]; exact HO.out, HB.out⟩

end Go.Proofs.YtaeoghagpeihkaaDoor

namespace Go.Proofs.YtaeoghagpeihkaaDoor
open Go.RowKit

/-- a slice that reads as steps, all of it below block B -/
def Sps (w : World) (B : Nat) (v : Value) (xs : List Stp) : Prop :=
  ∃ ao cap, v = .slice ao xs.length cap ∧ xs.length ≤ cap ∧ xs.length ≤ maxLen ∧ (xs ≠ [] → ∃ b off, ao = some ⟨b, off, none⟩ ∧ b < B ∧ ∀ i x, xs[i]? = some x → w.rangeAt b (off + i * 6) (stepL x))
theorem Sps.below {w w' : World} {B B' : Nat} {v : Value} {xs : List Stp} (h : Sps w B v xs) (hb : Below B w w') (hB : B ≤ B') : Sps w' B' v xs := by
  obtain ⟨ao, cap, h1, h2, h3, h4⟩ := h
  refine ⟨ao, cap, h1, h2, h3, fun hne => ?_⟩
  obtain ⟨b, off, h5, h6, h7⟩ := h4 hne
  refine ⟨b, off, h5, by omega, fun i x hx j u hu => ?_⟩
  rw [hb.cell (p := ⟨b, off + i * 6 + j, none⟩) h6]
  exact h7 i x hx j u hu
theorem Sps.kept {w w' : World} {v : Value} {xs : List Stp} (h : Sps w w.heap.size v xs) (hb : Below w.heap.size w w') : Sps w' w'.heap.size v xs := h.below hb hb.size
theorem Sps.nil (w : World) (B : Nat) : Sps w B (.slice none 0 0) [] := ⟨none, 0, rfl, by simp, by simp, fun h => absurd rfl h⟩
theorem Sps.slice {w : World} {B : Nat} {v : Value} {xs : List Stp} (h : Sps w B v xs) : ∃ ao cap, v = .slice ao xs.length cap ∧ xs.length ≤ cap ∧ xs.length ≤ maxLen := by
  obtain ⟨ao, cap, h1, h2, h3, -⟩ := h
  exact ⟨ao, cap, h1, h2, h3⟩
theorem Sps.at {w : World} {B n cap : Nat} {ao : Option Addr} {xs : List Stp} (h : Sps w B (.slice ao n cap) xs) (k : Nat) (hk : k < xs.length) : ∃ b off, ao = some ⟨b, off, none⟩ ∧ b < B ∧ w.rangeAt b (off + k * 6) (stepL xs[k]) := by
  obtain ⟨ao', cap', h1, -, -, h4⟩ := h
  cases h1
  obtain ⟨b, off, h5, h6, h7⟩ := h4 (by intro e; subst e; simp at hk)
  exact ⟨b, off, h5, h6, h7 k _ (by simp [hk])⟩
theorem flat_stp : ∀ (xs : List Stp) (i : Nat) (x : Stp), xs[i]? = some x → ∀ j, j < 6 → (xs.flatMap stepL)[i * 6 + j]? = (stepL x)[j]? := by
  intro xs
  induction xs with
  | nil => intro i x h; simp at h
  | cons y ys ih =>
    intro i x h j hj
    cases i with
    | zero =>
      simp only [List.getElem?_cons_zero, Option.some.injEq] at h
      subst h
      rw [List.flatMap_cons, Nat.zero_mul, Nat.zero_add, List.getElem?_append_left (by show j < 6; exact hj)]
    | succ i =>
      rw [List.getElem?_cons_succ] at h
      rw [List.flatMap_cons, List.getElem?_append_right (by show 6 ≤ _; omega)]
      have := ih i x h j hj
      rw [← this]
      congr 1
      show (i + 1) * 6 + j - 6 = _
      omega
abbrev OwnS (w : World) (B : Nat) (v : Value) (xs : List Stp) : Prop := w.ownsRow B 35 6 v xs.length (xs.flatMap stepL)
theorem OwnS.sps {w : World} {B : Nat} {v : Value} {xs : List Stp} (h : OwnS w B v xs) : Sps w w.heap.size v xs := by
  rcases h.2 with ⟨h1, h2⟩ | ⟨g, cap, cur, rfl, hg, hh, hc, hm, hs, ht⟩
  · obtain rfl : xs = [] := List.eq_nil_of_length_eq_zero (by omega)
    subst h1
    exact Sps.nil _ _
  · refine ⟨_, cap, rfl, hc, by omega, fun hne => ⟨g, 0, rfl, (Array.getElem?_eq_some_iff.1 hh).1, fun i x hx j u hu => ?_⟩⟩
    have hj : j < 6 := (List.getElem?_eq_some_iff.1 hu).1
    have hi := (List.getElem?_eq_some_iff.1 hx).1
    rw [Nat.zero_add, World.ownsRow.cellAt h _ (by omega), flat_stp xs i x hx j hj]
    exact hu
/-- steps within the limits of these proofs -/
def SmS (xs : List Stp) : Prop := xs.length ≤ 1048576 ∧ ∀ s ∈ xs, Stp64 s ∧ s.name.length ≤ 1048576
theorem lineF_len {s : Stp} (h : Stp64 s) (hn : s.name.length ≤ 1048576) : (lineF s).length ≤ 16799999 := by
  unfold lineF
  split
  · rw [List.length_append]
    have h1 := wordF_len s.kind
    have h2 : ∀ cs : List UInt8, (cs.flatMap (fun c => 32 :: fieldV s c)).length ≤ cs.length * 4194400 := by
      intro cs
      induction cs with
      | nil => simp
      | cons c cs ih =>
        have := fieldV_len h c
        simp only [List.flatMap_cons, List.length_append, List.length_cons]
        omega
    have h3 := h2 (shapeF s.kind)
    have h4 := shape_len s.kind
    have h5 : (shapeF s.kind).length * 4194400 ≤ 4 * 4194400 := Nat.mul_le_mul_right _ h4
    omega
  · simp
theorem printF_all {xs : List Stp} (h : ∀ s ∈ xs, fitS s = true) : printF xs = xs.flatMap (fun s => lineF s ++ [10]) := by
  unfold printF
  rw [if_pos (List.all_eq_true.2 h)]
theorem printF_bad {xs : List Stp} {s : Stp} (h : s ∈ xs) (hl : lineF s = []) : printF xs = [] := by
  unfold printF
  rw [if_neg]
  intro h2
  have := List.all_eq_true.1 h2 s h
  exact lineF_ne ((fitS_iff s).1 this) hl
theorem lineF_fit {s : Stp} (h : lineF s ≠ []) : fitS s = true := by
  cases hf : fitS s with
  | true => rfl
  | false => exact absurd (by unfold lineF; rw [hf]; rfl) h
/-- are two rows the same? -/
def sameR (xs ys : List Stp) : Bool := decide (xs.length = ys.length) && (List.range xs.length).all fun k => sameS (xs.getD k zeroS) (ys.getD k zeroS)
theorem sameR_iff {xs ys : List Stp} : sameR xs ys = true ↔ xs = ys := by
  unfold sameR
  simp only [Bool.and_eq_true, decide_eq_true_eq, List.all_eq_true, List.mem_range, sameS_iff]
  constructor
  · rintro ⟨h1, h2⟩
    refine List.ext_getElem h1 fun k hk hk2 => ?_
    have := h2 k hk
    simpa [List.getD, hk, hk2] using this
  · rintro rfl
    exact ⟨rfl, fun _ _ => rfl⟩
theorem sameR_bad {xs ys : List Stp} (k : Nat) (hk : k < xs.length) (hk2 : k < ys.length) (h : sameS xs[k] ys[k] = false) : sameR xs ys = false := by
  cases hs : sameR xs ys with
  | false => rfl
  | true =>
    have := sameR_iff.1 hs
    subst this
    rw [sameS_iff.2 rfl] at h
    cases h
theorem sameR_len {xs ys : List Stp} (h : ¬ xs.length = ys.length) : sameR xs ys = false := by
  unfold sameR
  simp [h]
theorem sameR_good {xs ys : List Stp} (h : xs.length = ys.length) (ha : ∀ j (h1 : j < xs.length) (h2 : j < ys.length), sameS xs[j] ys[j] = true) : sameR xs ys = true := by
  rw [sameR_iff]
  exact List.ext_getElem h fun k h1 h2 => sameS_iff.1 (ha k h1 h2)

set_option maxRecDepth 100000 in
set_option maxHeartbeats 4000000 in
theorem rsame_any (v u : Value) (xs ys : List Stp) (w : World) (hv : Sps w w.heap.size v xs) (hu : Sps w w.heap.size u ys) :
    Calls Tryd.prog 10 #[v, u] w fun e w' => e = .returned (.bool (sameR xs ys)) ∧ Below w.heap.size w w' := by
  obtain ⟨a1, c1, rfl, h1, h2⟩ := hv.slice
  obtain ⟨a2, c2, rfl, h3, h4⟩ := hu.slice
  have HV := Lib.hid hv
  have HU := Lib.hid hu
  clear hv hu h1 h3 h4
  obtain ⟨R, hR⟩ : ∃ R, R = sameR xs ys := ⟨_, rfl⟩
  rw [← hR]
  obtain ⟨n, hn⟩ : ∃ n, n = xs.length := ⟨_, rfl⟩
  have hmx' : n ≤ 9223372036854775807 := by rw [hn]; unfold maxLen at h2; exact h2
  clear h2
  obtain ⟨m, hm⟩ : ∃ n, n = ys.length := ⟨_, rfl⟩
  rw [← hn] at HV ⊢
  rw [← hm] at HU ⊢
  by_cases hnm : n = m
  case neg =>
    have hr : R = false := by rw [hR]; exact sameR_len (by omega)
    have e1 : ¬ ((n : Int) = (m : Int)) := by omega
    clear hR hn hm
    subst hr
    go_enter Tryd.func10, Tryd.ntmps10
    go_wp2
    go_ret
    exact ⟨rfl, Below.refl _ _⟩
  subst hnm
  have HN := Lib.hid hn
  have HM := Lib.hid hm
  have HR := Lib.hid hR
  clear hR hn hm
  go_enter Tryd.func10, Tryd.ntmps10
  go_wp2_with (fail)
  go_loopw [5] (fun iv wr => ∃ k : Nat, k ≤ n ∧ iv = .int .i64 (k : Int) ∧ Hid (∀ j (h1 : j < xs.length) (h2 : j < ys.length), j < k → sameS xs[j] ys[j] = true) ∧ Hid (Below w.heap.size w wr)) (fun iv _ => n - (intOf iv).toNat)
  case atStart => exact ⟨0, Nat.zero_le _, rfl, fun j _ _ h => by omega, Below.refl _ _⟩
  case round =>
    obtain ⟨k, hk, rfl, HA, HB⟩ := hrel
    by_cases hlt : k < n
    · obtain ⟨b1, o1, hb1, -, hr1⟩ := (HV.out.below HB.out (Nat.le_refl _)).at k (by rw [← HN.out]; exact hlt)
      obtain ⟨b2, o2, hb2, -, hr2⟩ := (HU.out.below HB.out (Nat.le_refl _)).at k (by rw [← HM.out]; exact hlt)
      subst hb1
      subst hb2
      obtain ⟨x, hx⟩ : ∃ x, x = xs[k]'(by rw [← HN.out]; exact hlt) := ⟨_, rfl⟩
      obtain ⟨y, hy⟩ : ∃ x, x = ys[k]'(by rw [← HM.out]; exact hlt) := ⟨_, rfl⟩
      rw [← hx] at hr1
      rw [← hy] at hr2
      have hkn : 0 ≤ (k : Int) ∧ (k : Int) < (n : Int) := by omega
      obtain ⟨bs, hbs⟩ : ∃ b, b = sameS x y := ⟨_, rfl⟩
      have HNE : Hid (∀ W, (binOp .neq 35 (.agg (stepC x)) (.agg (stepC y))).run Tryd.prog W = .ok (.bool (!bs)) W) := by show ∀ W, _; intro W; rw [hbs]; exact ne_S _ _ W
      have HBS : Hid (sameS (xs[k]'(by rw [← HN.out]; exact hlt)) (ys[k]'(by rw [← HM.out]; exact hlt)) = bs) := by show _ = _; rw [← hx, ← hy]; exact hbs.symm
      have HR1 := Lib.hid hr1
      have HR2 := Lib.hid hr2
      clear hx hy hbs hr1 hr2
      go_upto_region 6 with (fail)
      refine wpIn_wide (n := 5).1 (wpIn_flowM (F0 := Fence.wide) (n0 := 5) (fun _ => trivial) (fun h => by cases h) (by kernel_rfl) (by kernel_rfl) 9 9 (by kernel_rfl) (fun j => ([0, 1, 2, 3, 4, 5, 6, 7, 8] : List Nat).getD j 0) (fun j => ([17, 18, 19, 20, 21, 22, 23, 24, 25] : List Nat).getD j 0) (by kernel_rfl) (by kernel_rfl) (by kernel_rfl) (by kernel_rfl) (by kernel_rfl) (by kernel_rfl) (by kernel_rfl) (fun j zv => ([(fun zv => zv = (.slice (some ⟨b1, o1, none⟩) n c1)), (fun zv => zv = (.int .i64 (k : Int))), (fun zv => zv = (.pointer (some ⟨b1, o1 + k * 6, none⟩))), (fun zv => zv = (.agg (stepC x))), (fun zv => zv = (.slice (some ⟨b2, o2, none⟩) n c2)), (fun zv => zv = (.int .i64 (k : Int))), (fun zv => zv = (.pointer (some ⟨b2, o2 + k * 6, none⟩))), (fun zv => zv = (.agg (stepC y))), (fun zv => zv = (.bool (!bs)))] : List (Value → Prop)).getD j (fun _ => True) zv) (fun _ _ W => W = wr.drew) ?h0z ?stepz ?finz)
      case h0z => exact fun _ => rfl
      case stepz =>
        intro i o a W d vs hi ho hdi hJ hf hr hF
        replace hi : i < 9 := hi
        rcases (show i = 0 ∨ i = 1 ∨ i = 2 ∨ i = 3 ∨ i = 4 ∨ i = 5 ∨ i = 6 ∨ i = 7 ∨ i = 8 by omega) with rfl | rfl | rfl | rfl | rfl | rfl | rfl | rfl | rfl
        · replace ho := op_at ho (by rfl)
          subst ho
          have f0 : a.tmps.getD 0 undef = (.slice (some ⟨b1, o1, none⟩) n c1) := hf 0 (by kernel_rfl)
          exact .inl ⟨(fun k b h => by cases h), .inl ⟨0, by decide, rfl, (.slice (some ⟨b1, o1, none⟩) n c1), W, (by simp [go_sem, Act.eval, f0]), rfl, hJ⟩⟩
        · replace ho := op_at ho (by rfl)
          subst ho
          have f5 : a.tmps.getD 5 undef = (.int .i64 (k : Int)) := hf 5 (by kernel_rfl)
          exact .inl ⟨(fun k b h => by cases h), .inl ⟨1, by decide, rfl, (.int .i64 (k : Int)), W, (by simp [go_sem, Act.eval, f5]), rfl, hJ⟩⟩
        · replace ho := op_at ho (by rfl)
          subst ho
          have d0 : a.tmps.getD 17 undef = (.slice (some ⟨b1, o1, none⟩) n c1) := by have h1 := hF 0 (by decide) (hr 0 (by kernel_rfl)); exact h1.2.trans h1.1
          have d1 : a.tmps.getD 18 undef = (.int .i64 (k : Int)) := by have h1 := hF 1 (by decide) (hr 1 (by kernel_rfl)); exact h1.2.trans h1.1
          exact .inl ⟨(fun k b h => by cases h), .inl ⟨2, by decide, rfl, (.pointer (some ⟨b1, o1 + k * 6, none⟩)), W, (by simp [go_sem, Act.eval, d0, d1]; intro h; omega), rfl, hJ⟩⟩
        · replace ho := op_at ho (by rfl)
          subst ho
          have d2 : a.tmps.getD 19 undef = (.pointer (some ⟨b1, o1 + k * 6, none⟩)) := by have h1 := hF 2 (by decide) (hr 2 (by kernel_rfl)); exact h1.2.trans h1.1
          exact .inl ⟨(fun k b h => by cases h), .inl ⟨3, by decide, rfl, (.agg (stepC x)), W, (by subst hJ; exact exec_load_mid 35 _ rfl b1 (o1 + k * 6) (stepL x) (.struct (Tryd.prog.fieldsOf 35)) (by simp only [Act.eval, d2]) HR1.out (by kernel_rfl) rfl (by kernel_rfl)), rfl, hJ⟩⟩
        · replace ho := op_at ho (by rfl)
          subst ho
          have f1 : a.tmps.getD 1 undef = (.slice (some ⟨b2, o2, none⟩) n c2) := hf 1 (by kernel_rfl)
          exact .inl ⟨(fun k b h => by cases h), .inl ⟨4, by decide, rfl, (.slice (some ⟨b2, o2, none⟩) n c2), W, (by simp [go_sem, Act.eval, f1]), rfl, hJ⟩⟩
        · replace ho := op_at ho (by rfl)
          subst ho
          have f5 : a.tmps.getD 5 undef = (.int .i64 (k : Int)) := hf 5 (by kernel_rfl)
          exact .inl ⟨(fun k b h => by cases h), .inl ⟨5, by decide, rfl, (.int .i64 (k : Int)), W, (by simp [go_sem, Act.eval, f5]), rfl, hJ⟩⟩
        · replace ho := op_at ho (by rfl)
          subst ho
          have d4 : a.tmps.getD 21 undef = (.slice (some ⟨b2, o2, none⟩) n c2) := by have h1 := hF 4 (by decide) (hr 4 (by kernel_rfl)); exact h1.2.trans h1.1
          have d5 : a.tmps.getD 22 undef = (.int .i64 (k : Int)) := by have h1 := hF 5 (by decide) (hr 5 (by kernel_rfl)); exact h1.2.trans h1.1
          exact .inl ⟨(fun k b h => by cases h), .inl ⟨6, by decide, rfl, (.pointer (some ⟨b2, o2 + k * 6, none⟩)), W, (by simp [go_sem, Act.eval, d4, d5]; intro h; omega), rfl, hJ⟩⟩
        · replace ho := op_at ho (by rfl)
          subst ho
          have d6 : a.tmps.getD 23 undef = (.pointer (some ⟨b2, o2 + k * 6, none⟩)) := by have h1 := hF 6 (by decide) (hr 6 (by kernel_rfl)); exact h1.2.trans h1.1
          exact .inl ⟨(fun k b h => by cases h), .inl ⟨7, by decide, rfl, (.agg (stepC y)), W, (by subst hJ; exact exec_load_mid 35 _ rfl b2 (o2 + k * 6) (stepL y) (.struct (Tryd.prog.fieldsOf 35)) (by simp only [Act.eval, d6]) HR2.out (by kernel_rfl) rfl (by kernel_rfl)), rfl, hJ⟩⟩
        · replace ho := op_at ho (by rfl)
          subst ho
          have d3 : a.tmps.getD 20 undef = (.agg (stepC x)) := by have h1 := hF 3 (by decide) (hr 3 (by kernel_rfl)); exact h1.2.trans h1.1
          have d7 : a.tmps.getD 24 undef = (.agg (stepC y)) := by have h1 := hF 7 (by decide) (hr 7 (by kernel_rfl)); exact h1.2.trans h1.1
          exact .inl ⟨(fun k b h => by cases h), .inl ⟨8, by decide, rfl, (.bool (!bs)), W, (exec_neq_agg 35 _ _ _ rfl _ _ _ (by simp only [Act.eval, d3]) (by simp only [Act.eval, d7]) (by kernel_rfl) (HNE.out _)), rfl, hJ⟩⟩
      case finz =>
        intro d vs Wz hall hJ hF
        have h0 : vs 0 = (.slice (some ⟨b1, o1, none⟩) n c1) := hF 0 (by decide)
        have h1 : vs 1 = (.int .i64 (k : Int)) := hF 1 (by decide)
        have h2 : vs 2 = (.pointer (some ⟨b1, o1 + k * 6, none⟩)) := hF 2 (by decide)
        have h3 : vs 3 = (.agg (stepC x)) := hF 3 (by decide)
        have h4 : vs 4 = (.slice (some ⟨b2, o2, none⟩) n c2) := hF 4 (by decide)
        have h5 : vs 5 = (.int .i64 (k : Int)) := hF 5 (by decide)
        have h6 : vs 6 = (.pointer (some ⟨b2, o2 + k * 6, none⟩)) := hF 6 (by decide)
        have h7 : vs 7 = (.agg (stepC y)) := hF 7 (by decide)
        have h8 : vs 8 = (.bool (!bs)) := hF 8 (by decide)
        clear hF
        show (_ : Exit → Act → World → Prop) Exit.normal (puts _ vs 9 _) Wz
        simp only [puts, h0, h1, h2, h3, h4, h5, h6, h7, h8, List.getD_cons_zero, List.getD_cons_succ]
        clear h0 h1 h2 h3 h4 h5 h6 h7 h8
        subst hJ
        go_simp
        cases bs with
        | true =>
          go_wp2_with (fail)
          go_roundw
          case rel => exact ⟨k + 1, by omega, by go_num, (fun j h1 h2 h3 => by
            by_cases e : j = k
            · subst e; exact HBS.out
            · exact HA.out j h1 h2 (by omega)), HB.out.drew⟩
          case measure => simp [intOf] <;> omega
        | false =>
          have hr : R = false := by rw [HR.out]; exact sameR_bad k _ _ HBS.out
          subst hr
          go_wp2_with (fail)
          go_ret
          exact ⟨rfl, HB.out.drew⟩
    · obtain rfl : k = n := by omega
      have hr : R = true := by rw [HR.out]; exact sameR_good (by rw [← HN.out, ← HM.out]) (fun j h1 h2 => HA.out j h1 h2 (by rw [← HN.out] at h1; exact h1))
      subst hr
      go_wp2_with (fail)
      go_ret
      exact ⟨rfl, HB.out⟩

end Go.Proofs.YtaeoghagpeihkaaDoor

