/- The law's plain: a comment's first bytes (by program: wip/tools/gen_sblank.py).
ScriptBlanks: the law, walked (by program: wip/tools/gen_sblank.py). -/
import Derived.Test.YtaeoghagpeihkaaDoorSQ
import Derived.Test.YtaeoghagpeihkaaDoorSO
import Derived.Test.YtaeoghagpeihkaaDoorSA
set_option linter.unusedSimpArgs false
set_option linter.unusedVariables false
namespace Go.Proofs.YtaeoghagpeihkaaDoor
open Go.RowKit

theorem plain_take (L : List UInt8) (i : Nat) (h : i < L.length) : (L.take (i + 1)).filter (fun c => c != 10) = (L.take i).filter (fun c => c != 10) ++ if L[i] = 10 then [] else [L[i]] := by
  rw [List.take_succ_eq_append_getElem h, List.filter_append]
  by_cases hc : L[i] = 10
  · rw [if_pos hc, List.filter_cons_of_neg (by simp [hc])]; rfl
  · rw [if_neg hc, List.filter_cons_of_pos (by simp [hc])]; rfl
theorem plain_end (L : List UInt8) (i : Nat) (h : L.length ≤ i ∧ i ≤ 40 ∨ i = 40) : (L.take i).filter (fun c => c != 10) = plainF L := by
  unfold plainF
  rcases h with ⟨h1, h2⟩ | rfl
  · rw [List.take_of_length_le h1, List.take_of_length_le (by omega)]
  · rfl
theorem plainF_len (L : List UInt8) : (plainF L).length ≤ 40 := by
  unfold plainF
  exact Nat.le_trans (List.length_filter_le _ _) (List.length_take_le _ _)

set_option maxRecDepth 100000 in
set_option maxHeartbeats 4000000 in
theorem plain_any (s : ByteArray) (w : World) (hs : s.size ≤ 100000000) : Calls Tryd.prog 14 #[.string s] w fun e w' => ∃ v, e = .returned v ∧ Own w' w.heap.size v (plainF s.data.toList) ∧ Below w.heap.size w w' := by
  obtain ⟨L, hL⟩ : ∃ l, l = s.data.toList := ⟨_, rfl⟩
  have hLs : L.length = s.size := by rw [hL]; simp
  have hLg : ∀ (i : Nat) (hi : i < s.size), s[i] = L[i]'(by omega) := by intro i hi; subst hL; rfl
  rw [← hL]
  have HLG := Lib.hid hLg
  clear hL hLg
  obtain ⟨R, hR⟩ : ∃ r, r = plainF L := ⟨_, rfl⟩
  rw [← hR]
  have HR := Lib.hid hR
  clear hR
  go_enter Tryd.func14, Tryd.ntmps14
  go_wp2_with (fail)
  go_loopw [3, 4] (fun bv iv wr => ∃ (i nb cb : Nat) (ab : Option Addr), i ≤ s.size ∧ i ≤ 40 ∧ nb ≤ 40 ∧ iv = .int .i64 (i : Int) ∧ bv = .slice ab nb cb ∧ Hid (nb = ((L.take i).filter fun c => c != 10).length) ∧ Hid (Own wr w.heap.size (.slice ab nb cb) ((L.take i).filter fun c => c != 10)) ∧ Hid (Below w.heap.size w wr)) (fun _ iv _ => s.size - (intOf iv).toNat)
  case atStart => exact ⟨0, 0, 0, none, Nat.zero_le _, by omega, by omega, rfl, rfl, by show _ = _; rw [List.take_zero]; rfl, by show Own _ _ _ _; rw [List.take_zero]; exact Own.nil _ _, Below.refl _ _⟩
  case round =>
    obtain ⟨i, nb, cb, ab, hi, hi4, hnb, rfl, rfl, HN, HO, HB⟩ := hrel
    by_cases hlt : i < s.size
    · by_cases hlt4 : i < 40
      · have HTK := Lib.hid (plain_take L i (by omega))
        obtain ⟨c, hc⟩ : ∃ c, s[i] = c := ⟨_, rfl⟩
        have hLc : L[i]'(by omega) = c := by rw [← HLG.out i hlt]; exact hc
        have HNL : Hid (((L.take (i + 1)).filter fun c => c != 10).length ≤ 40) := by
          show _ ≤ _
          refine Nat.le_trans (List.length_filter_le _ _) (Nat.le_trans (List.length_take_le _ _) (by omega))
        by_cases h10 : c = 10
        · subst h10
          have HTK2 : Hid ((L.take (i + 1)).filter (fun c => c != 10) = (L.take i).filter (fun c => c != 10)) := by show _ = _; rw [HTK.out, if_pos hLc, List.append_nil]
          clear HTK hLc
          go_wp2_with (fail)
          go_roundw
          case rel => exact ⟨i + 1, nb, cb, ab, by omega, by omega, by omega, by go_num, rfl, by rw [HTK2.out]; exact HN, by rw [HTK2.out]; exact HO, HB⟩
          case measure => simp [intOf] <;> omega
        · have n10 : ((c.toNat : Int) == 10) = false := by
            rw [beq_eq_false_iff_ne]
            intro e
            exact h10 (UInt8.toNat_inj.1 (by show c.toNat = 10; omega))
          have n10b : ((c.toNat : Int) != 10) = true := by unfold bne; rw [n10]; rfl
          have hct := c.toNat_lt
          have HTK2 : Hid ((L.take (i + 1)).filter (fun c => c != 10) = (L.take i).filter (fun c => c != 10) ++ [c]) := by show _ = _; rw [HTK.out, if_neg (by rw [hLc]; exact h10), hLc]
          obtain ⟨g5, k5⟩ := new_block wr (.cells #[.int .u8 (c.toNat : Int)] 5)
          have HO1 := Lib.hid (owns_below HO.out g5 : Own _ w.heap.size (.slice ab nb cb) ((L.take i).filter fun c => c != 10))
          have HB1 := Lib.hid (HB.out.trans (g5.mono HB.out.size))
          clear HTK hLc g5 k5
          go_wp2_with (at_builtin; (refine wpList_append_bts rfl _ _ rfl w.heap.size _ _ rfl HO1.out _ [c] (wr.heap.size + 1) rfl ((Bts.lit _ wr.heap.size _ 5 (0, 0) [c] 1 1 (heap_alloc_new wr _) rfl (by omega) (by decide) (lit1 c)).mono (by simp)) (by rw [← HN.out]; simp; omega) HB1.out.size ?_))
          intro b2 w2 ho2 hg2 _
          have HB2 := Lib.hid (HB1.out.grown hg2 HB1.out.size (fun j e => (HO1.out.lt j e).1))
          rw [← HTK2.out] at ho2
          obtain ⟨ab2, cb2, hb2, -⟩ := ho2.bts
          obtain ⟨nb2, hnb2⟩ : ∃ n, n = ((L.take (i + 1)).filter fun c => c != 10).length := ⟨_, rfl⟩
          rw [← hnb2] at hb2 HNL
          subst hb2
          have HN2 := Lib.hid hnb2
          have HO2 := Lib.hid ho2
          clear ho2 hg2 hnb2 HO1
          go_wp2_with (fail)
          go_roundw
          case rel => exact ⟨i + 1, nb2, cb2, ab2, by omega, by omega, HNL.out, by go_num, rfl, HN2, HO2, HB2⟩
          case measure => simp [intOf] <;> omega
      · have he : i = 40 := by omega
        have HE : Hid (R = (L.take i).filter fun c => c != 10) := HR.out.trans (plain_end L i (.inr he)).symm
        clear he
        go_wp2_with (fail)
        go_ret
        exact ⟨_, rfl, by rw [HE.out]; exact HO.out, HB.out⟩
    · have HE : Hid (R = (L.take i).filter fun c => c != 10) := HR.out.trans (plain_end L i (.inl ⟨by omega, hi4⟩)).symm
      go_wp2_with (fail)
      go_ret
      exact ⟨_, rfl, by rw [HE.out]; exact HO.out, HB.out⟩

end Go.Proofs.YtaeoghagpeihkaaDoor

namespace Go.Proofs.YtaeoghagpeihkaaDoor
open Go.RowKit

/-- a slice of numbers, all of it below block B -/
def Ints (w : World) (B : Nat) (v : Value) (ks : List Int) : Prop :=
  ∃ ao cap, v = .slice ao ks.length cap ∧ ks.length ≤ cap ∧ ks.length ≤ maxLen ∧ (ks ≠ [] → ∃ b off, ao = some ⟨b, off, none⟩ ∧ b < B ∧ ∀ i, i < ks.length → w.cell? ⟨b, off + i, none⟩ = some (.int .i64 (ks.getD i 0)))
theorem Ints.below {w w' : World} {B B' : Nat} {v : Value} {ks : List Int} (h : Ints w B v ks) (hb : Below B w w') (hB : B ≤ B') : Ints w' B' v ks := by
  obtain ⟨ao, cap, h1, h2, h3, h4⟩ := h
  refine ⟨ao, cap, h1, h2, h3, fun hne => ?_⟩
  obtain ⟨b, off, h5, h6, h7⟩ := h4 hne
  refine ⟨b, off, h5, by omega, fun i hi => ?_⟩
  rw [hb.cell (p := ⟨b, off + i, none⟩) h6]
  exact h7 i hi
theorem Ints.at {w : World} {B n cap : Nat} {ao : Option Addr} {ks : List Int} (h : Ints w B (.slice ao n cap) ks) (k : Nat) (hk : k < ks.length) : ∃ b off, ao = some ⟨b, off, none⟩ ∧ w.cell? ⟨b, off + k, none⟩ = some (.int .i64 (ks.getD k 0)) := by
  obtain ⟨ao', cap', h1, -, -, h4⟩ := h
  cases h1
  obtain ⟨b, off, h5, h6, h7⟩ := h4 (by intro e; subst e; simp at hk)
  exact ⟨b, off, h5, h7 k hk⟩

set_option maxRecDepth 100000 in
set_option maxHeartbeats 8000000 in
theorem law_ScriptBlanks (v vg : Value) (xs : List Stp) (ks : List Int) (t : List UInt8) (w : World) (hv : Sps w w.heap.size v xs) (hx : SmS xs) (hk : Ints w w.heap.size vg ks) (hkl : ks.length ≤ 1048576) (htl : t.length ≤ 1048576) (ht : TabT w) (he : ErrT w) : Calls Tryd.prog 6 #[v, vg, .string ⟨t.toArray⟩] w fun e w' => e = .returned (.bool true) ∧ Below w.heap.size w w' := by
  obtain ⟨i0, ji, jz0, jz1, jz2⟩ := info_parts info_step
  obtain ⟨ao, cp, rfl, -, -⟩ := hv.slice
  obtain ⟨ag, cg, rfl, -, -, hkc⟩ := id hk
  have HV := Lib.hid hv
  have HX := Lib.hid hx
  have HK := Lib.hid hk
  have HT := Lib.hid ht
  have HEE := Lib.hid he
  have HPA : Hid (∀ W, Calls Tryd.prog 14 #[.string ⟨t.toArray⟩] W fun e w' => ∃ v, e = .returned v ∧ Own w' W.heap.size v (plainF t) ∧ Below W.heap.size W w') := fun W => plain_any ⟨t.toArray⟩ W (by show t.length ≤ _; omega)
  have hpl := plainF_len t
  have HNO : Hid (∀ c ∈ plainF t, c ≠ 10) := plainF_no10 t
  obtain ⟨cm, hcm⟩ : ∃ l, l = plainF t := ⟨_, rfl⟩
  rw [← hcm] at hpl
  simp only [← hcm] at HPA HNO
  have HPL := Lib.hid hpl
  obtain ⟨tb, htb⟩ : ∃ b, b = (⟨t.toArray⟩ : ByteArray) := ⟨_, rfl⟩
  rw [← htb] at HPA ⊢
  obtain ⟨m, hm⟩ : ∃ n, n = xs.length := ⟨_, rfl⟩
  have hmm : m ≤ 1048576 := by rw [hm]; exact hx.1
  rw [← hm] at HV ⊢
  have HM := Lib.hid hm
  obtain ⟨gl, hgl⟩ : ∃ n, n = ks.length := ⟨_, rfl⟩
  have hglm : gl ≤ 1048576 := by rw [hgl]; exact hkl
  rw [← hgl] at HK ⊢
  have HGL := Lib.hid hgl
  clear hv hx hk hkc hkl htl ht he hpl hcm htb hm hgl
  go_enter Tryd.func6, Tryd.ntmps6
  go_wp2_with (fail)
  go_loopw [7, 8, 9] (fun ov sv iv wr => ∃ (i n nb cap cb : Nat) (ab abb : Option Addr) (gs : List (Nat × Stp)), i ≤ m ∧ n ≤ 200 ∧ n ≤ i ∧ nb ≤ n * 16800200 ∧ iv = .int .i64 (i : Int) ∧ ov = .slice abb nb cb ∧ sv = .slice ab n cap ∧ Hid (n = gs.length) ∧ Hid (nb = (gapsText cm gs).length) ∧ Hid (Own wr w.heap.size (.slice abb nb cb) (gapsText cm gs)) ∧ Hid (OwnS wr w.heap.size (.slice ab n cap) (gs.map Prod.snd)) ∧ Hid (∀ x ∈ gs, okS x.2 ∧ Stp64 x.2) ∧ Hid (Below w.heap.size w wr)) (fun _ _ iv _ => m - (intOf iv).toNat)
  case atStart => exact ⟨0, 0, 0, 0, 0, none, none, [], Nat.zero_le _, by omega, by omega, by omega, rfl, rfl, rfl, rfl, rfl, Own.nil _ _, World.ownsRow_nil _ _ _ _, (fun x h => by cases h), Below.refl _ _⟩
  case round =>
    obtain ⟨i, n, nb, cap, cb, ab, abb, gs, hi, hn2, hni, hnb, rfl, rfl, rfl, HN, HNB, HO, HS, HOKG, HB⟩ := hrel
    by_cases hlt : i < m
    · have hix : i < xs.length := by rw [← HM.out]; exact hlt
      obtain ⟨b, off, hb, -, hr⟩ := (HV.out.below HB.out (Nat.le_refl _)).at i hix
      subst hb
      have hsm := HX.out.2 xs[i] (List.getElem_mem _)
      have HF1 : Hid (lineF xs[i] ≠ [] → okS xs[i]) := fun h => (fitS_iff _).1 (lineF_fit h)
      have hll := lineF_len hsm.1 hsm.2
      have HL := Lib.hid (line_any xs[i] hsm.1 (by have := hsm.2; omega) wr (HT.out.below HB.out))
      have H64 := Lib.hid hsm.1
      have HRW : Hid (∀ W, Below w.heap.size w W → W.rangeAt b (off + i * 6) (stepL xs[i])) := fun W hW => by
        obtain ⟨b2, off2, e2, -, h2⟩ := (HV.out.below hW (Nat.le_refl _)).at i hix
        cases e2
        exact h2
      obtain ⟨s, hs⟩ : ∃ s, s = xs[i] := ⟨_, rfl⟩
      rw [← hs] at hr HF1 hll H64
      simp only [← hs] at HL HRW
      have c0 : wr.cell? ⟨b, off + i * 6, none⟩ = some (.int .i64 s.kind) := hr 0 _ rfl
      have c1 : wr.cell? ⟨b, off + i * 6 + 1, none⟩ = some (.int .i64 s.a) := hr 1 _ rfl
      have c2 : wr.cell? ⟨b, off + i * 6 + 2, none⟩ = some (.int .i64 s.b) := hr 2 _ rfl
      have c3 : wr.cell? ⟨b, off + i * 6 + 3, none⟩ = some (.string ⟨s.name.toArray⟩) := hr 3 _ rfl
      have c4 : wr.cell? ⟨b, off + i * 6 + 4, none⟩ = some (.int .i64 s.k) := hr 4 _ rfl
      have c5 : wr.cell? ⟨b, off + i * 6 + 5, none⟩ = some (.int .i64 s.n) := hr 5 _ rfl
      obtain ⟨ls, hls⟩ : ∃ l, l = lineF s := ⟨_, rfl⟩
      rw [← hls] at HL HF1 hll
      have HLS := Lib.hid hll
      have HLL := Lib.hid hls
      unfold stepC at HL
      have hkn : 0 ≤ (i : Int) ∧ (i : Int) < (m : Int) := by omega
      clear hr hsm hs hix hll hls
      go_wp2_with (fail)
      with_reducible refine HL.out.mono ?_
      rintro e w2 ⟨rfl, hB2⟩
      have HB2 := Lib.hid (HB.out.trans (hB2.mono HB.out.size))
      have HO2 := Lib.hid (HO.out.below hB2)
      have HS2 := Lib.hid (owns_below HS.out hB2)
      clear HL hB2 c0 c1 c2 c3 c4 c5
      by_cases hle : ls = []
      · subst hle
        clear HF1
        go_wp2_with (fail)
        go_roundw
        case rel => exact ⟨i + 1, n, nb, cap, cb, ab, abb, gs, by omega, by omega, by omega, by omega, by go_num, rfl, rfl, HN, HNB, HO2, HS2, HOKG, HB2⟩
        case measure => simp [intOf] <;> omega
      · have hlf : (ls == []) = false := by simpa using hle
        have hle3 : ls.isEmpty = false := by simpa using hle
        by_cases h200 : 200 ≤ n
        · have h2i : (200 : Int) ≤ (n : Int) := by omega
          clear HF1 hle
          go_wp2_with (fail)
          go_roundw
          case rel => exact ⟨i + 1, n, nb, cap, cb, ab, abb, gs, by omega, by omega, by omega, by omega, by go_num, rfl, rfl, HN, HNB, HO2, HS2, HOKG, HB2⟩
          case measure => simp [intOf] <;> omega
        · have h2i : ¬ (200 : Int) ≤ (n : Int) := by omega
          have HOK : Hid (∀ g : Nat, ∀ x ∈ gs ++ [(g, s)], okS x.2 ∧ Stp64 x.2) := by
            show ∀ g : Nat, ∀ x ∈ gs ++ [(g, s)], _
            intro g x hx
            rcases List.mem_append.1 hx with hx | hx
            · exact HOKG.out x hx
            · rw [List.mem_singleton] at hx; subst hx; exact ⟨HF1.out hle, H64.out⟩
          have hr2 := HRW.out w2 HB2.out
          have c0 : w2.cell? ⟨b, off + i * 6, none⟩ = some (.int .i64 s.kind) := hr2 0 _ rfl
          have c1 : w2.cell? ⟨b, off + i * 6 + 1, none⟩ = some (.int .i64 s.a) := hr2 1 _ rfl
          have c2 : w2.cell? ⟨b, off + i * 6 + 2, none⟩ = some (.int .i64 s.b) := hr2 2 _ rfl
          have c3 : w2.cell? ⟨b, off + i * 6 + 3, none⟩ = some (.string ⟨s.name.toArray⟩) := hr2 3 _ rfl
          have c4 : w2.cell? ⟨b, off + i * 6 + 4, none⟩ = some (.int .i64 s.k) := hr2 4 _ rfl
          have c5 : w2.cell? ⟨b, off + i * 6 + 5, none⟩ = some (.int .i64 s.n) := hr2 5 _ rfl
          obtain ⟨g5, k5⟩ := new_block w2 (.cells #[.int .i64 s.kind, .int .i64 s.a, .int .i64 s.b, .string ⟨s.name.toArray⟩, .int .i64 s.k, .int .i64 s.n] 35)
          have HS5 := Lib.hid (owns_below HS2.out g5)
          have HO5 := Lib.hid (HO2.out.below g5)
          have HB5 := Lib.hid (HB2.out.trans (g5.mono HB2.out.size))
          obtain ⟨g6, cap6, w6, hrun, ho6, hg6, -⟩ := op_append_row 22 35 i0 _ 6 56 Tryd.underlying22 ji jz0 jz1 jz2 rfl (by decide) (w2.alloc (.cells #[.int .i64 s.kind, .int .i64 s.a, .int .i64 s.b, .string ⟨s.name.toArray⟩, .int .i64 s.k, .int .i64 s.n] 35)) w.heap.size (.slice ab n cap) n ((gs.map Prod.snd).flatMap stepL) w2.heap.size 1 [.int .i64 s.kind, .int .i64 s.a, .int .i64 s.b, .string ⟨s.name.toArray⟩, .int .i64 s.k, .int .i64 s.n] (by have h := HS5.out; unfold OwnS at h; rw [List.length_map, ← HN.out] at h; exact h) k5 rfl (stepL_one s) (by decide) (by omega) (by omega) HB5.out.size
          have hfs : (gs.map Prod.snd).flatMap stepL ++ [.int .i64 s.kind, .int .i64 s.a, .int .i64 s.b, .string ⟨s.name.toArray⟩, .int .i64 s.k, .int .i64 s.n] = (gs.map Prod.snd ++ [s]).flatMap stepL := by simp [stepL]
          have hol : n + 1 = (gs.map Prod.snd ++ [s]).length := by rw [List.length_append, List.length_map, ← HN.out]; rfl
          rw [hfs] at ho6
          obtain ⟨ab6, hab6⟩ : ∃ a, a = (some ⟨g6, 0, none⟩ : Option Addr) := ⟨_, rfl⟩
          rw [← hab6] at ho6
          simp only [← hab6] at hrun
          have HS6 : Hid (OwnS w6 w.heap.size (.slice ab6 (n + 1) cap6) (gs.map Prod.snd ++ [s])) := by show World.ownsRow _ _ _ _ _ _ _; rw [← hol]; exact ho6
          have HO6 := Lib.hid (owns_kept (show World.ownsRow _ _ _ _ _ _ _ from HS5.out) (show World.ownsRow _ _ _ _ _ _ _ from HO5.out) (by decide) hg6 : Own w6 w.heap.size (.slice abb nb cb) (gapsText cm gs))
          have HRUN := Lib.hid hrun
          have HB6 := Lib.hid (HB5.out.grown hg6 HB5.out.size (fun j e => (World.ownsRow.lt HS5.out j e).1))
          have HCU : Hid ((gapsText cm gs).length ≤ n * 16800200) := by show _ ≤ _; rw [← HNB.out]; exact hnb
          have HA6 := Lib.hid hab6
          clear hle HF1 hrun ho6 hg6 hfs g5 k5 hr2 hol HRW H64 HOKG hab6 HO5 HS5 HO2 HS2
          by_cases hgi : i < gl
          · obtain ⟨bg, og, hag, hz⟩ := (HK.out.below HB6.out (Nat.le_refl _)).at i (by rw [← HGL.out]; exact hgi)
            subst hag
            obtain ⟨z, hzz⟩ : ∃ z, z = ks.getD i 0 := ⟨_, rfl⟩
            rw [← hzz] at hz
            have hkg : 0 ≤ (i : Int) ∧ (i : Int) < (gl : Int) := by omega
            obtain ⟨u, hu⟩ : ∃ u, IntKind.u64.wrap z = u := ⟨_, rfl⟩
            have hu0 : 0 ≤ u ∧ u < 18446744073709551616 := by rw [← hu]; exact ⟨by simp [IntKind.wrap, IntKind.signed, IntKind.bits]; omega, by simp [IntKind.wrap, IntKind.signed, IntKind.bits]; omega⟩
            obtain ⟨g, hg⟩ : ∃ g, u % 4 = g := ⟨_, rfl⟩
            have hg0 : 0 ≤ g ∧ g < 4 := by omega
            clear hzz
            rcases (show g = 0 ∨ g = 1 ∨ g = 2 ∨ g = 3 by omega) with rfl | rfl | rfl | rfl
            · go_upto_region 12 with (at_builtin; (refine wpList_run rfl (HRUN.out _ _ 32 37 rfl rfl rfl rfl) ?_))
              go_wp2_with (at_builtin; (refine wpList_append_text rfl _ _ rfl w.heap.size _ _ rfl HO6.out ls rfl (by have := HCU.out; have := HPL.out; have := HLS.out; (try simp only [List.length_append, List.length_cons, List.length_nil]); omega) HB6.out.size ?_))
              intro bv10 w10 ho10 hg10
              have HB10 := Lib.hid (HB6.out.grown hg10 HB6.out.size (fun j e => (HO6.out.lt j e).1))
              have hs10 : OwnS w10 w.heap.size (.slice ab6 (n + 1) cap6) ((gs.map Prod.snd) ++ [s]) := owns_kept (show World.ownsRow _ _ _ _ _ _ _ from HO6.out) HS6.out (by decide) hg10
              have HS10 := Lib.hid hs10
              replace ho10 : Own w10 w.heap.size bv10 (gapsText cm gs ++ ls) := by first | exact ho10 | simpa using ho10
              obtain ⟨abk10, cbk10, hbk10, -⟩ := ho10.bts
              obtain ⟨nb10, hnb10⟩ : ∃ n, n = (gapsText cm gs ++ ls).length := ⟨_, rfl⟩
              rw [← hnb10] at hbk10
              subst hbk10
              have HN10 := Lib.hid hnb10
              have HO10 := Lib.hid ho10
              clear ho10 hg10 hs10 hnb10
              obtain ⟨gq11, -⟩ := new_block w10 (.cells #[.int .u8 10] 5)
              have HOq11 := Lib.hid (owns_below HO10.out gq11 : Own _ w.heap.size _ (gapsText cm gs ++ ls))
              have HSq11 := Lib.hid (owns_below HS10.out gq11)
              have HBq11 := Lib.hid (HB10.out.trans (gq11.mono HB10.out.size))
              clear gq11
              go_wp2_with (at_builtin; (refine wpList_append_bts rfl _ _ rfl w.heap.size _ _ rfl HOq11.out _ [10] (w10.heap.size + 1) rfl ((Bts.lit _ w10.heap.size _ 5 (0, 0) [10] 1 1 (heap_alloc_new w10 _) rfl (by omega) (by decide) (lit1 10)).mono (by simp)) (by have := HCU.out; have := HPL.out; have := HLS.out; (try simp only [List.length_append, List.length_cons, List.length_nil]); omega) HBq11.out.size ?_))
              intro bv11 w11 ho11 hg11 _
              have HB11 := Lib.hid (HBq11.out.grown hg11 HBq11.out.size (fun j e => (HOq11.out.lt j e).1))
              have hs11 : OwnS w11 w.heap.size (.slice ab6 (n + 1) cap6) ((gs.map Prod.snd) ++ [s]) := owns_kept (show World.ownsRow _ _ _ _ _ _ _ from HOq11.out) HSq11.out (by decide) hg11
              have HS11 := Lib.hid hs11
              replace ho11 : Own w11 w.heap.size bv11 (gapsText cm gs ++ (ls ++ [10])) := by first | exact ho11 | simpa using ho11
              obtain ⟨abk11, cbk11, hbk11, -⟩ := ho11.bts
              obtain ⟨nb11, hnb11⟩ : ∃ n, n = (gapsText cm gs ++ (ls ++ [10])).length := ⟨_, rfl⟩
              rw [← hnb11] at hbk11
              subst hbk11
              have HN11 := Lib.hid hnb11
              have HO11 := Lib.hid ho11
              clear ho11 hg11 hs11 hnb11
              have HG : Hid (gapsText cm gs ++ (ls ++ [10]) = gapsText cm (gs ++ [(0, s)])) := by show _ = _; rw [HLL.out]; simp [gapsText, gapText]
              rw [HG.out] at HO11 HN11
              go_wp2_with (fail)
              go_roundw
              case rel => exact ⟨i + 1, n + 1, nb11, cap6, cbk11, ab6, abk11, gs ++ [(0, s)], by omega, by omega, by omega, by have h1 := HN11.out; rw [← HG.out] at h1; have := HCU.out; have := HPL.out; have := HLS.out; simp only [List.length_append, List.length_cons, List.length_nil] at h1; omega, by go_num, rfl, rfl, by have := HN.out; show _ = _; simp; omega, HN11, HO11, by show OwnS _ _ _ _; rw [List.map_append]; exact HS11.out, HOK.out 0, HB11⟩
              case measure => simp [intOf] <;> omega
            · go_upto_region 12 with (at_builtin; (refine wpList_run rfl (HRUN.out _ _ 32 37 rfl rfl rfl rfl) ?_))
              go_wp2_with (at_builtin; (refine wpList_append_text rfl _ _ rfl w.heap.size _ _ rfl HO6.out [9, 32] rfl (by have := HCU.out; have := HPL.out; have := HLS.out; (try simp only [List.length_append, List.length_cons, List.length_nil]); omega) HB6.out.size ?_))
              intro bv10 w10 ho10 hg10
              have HB10 := Lib.hid (HB6.out.grown hg10 HB6.out.size (fun j e => (HO6.out.lt j e).1))
              have hs10 : OwnS w10 w.heap.size (.slice ab6 (n + 1) cap6) ((gs.map Prod.snd) ++ [s]) := owns_kept (show World.ownsRow _ _ _ _ _ _ _ from HO6.out) HS6.out (by decide) hg10
              have HS10 := Lib.hid hs10
              replace ho10 : Own w10 w.heap.size bv10 (gapsText cm gs ++ [9, 32]) := by first | exact ho10 | simpa using ho10
              obtain ⟨abk10, cbk10, hbk10, -⟩ := ho10.bts
              obtain ⟨nb10, hnb10⟩ : ∃ n, n = (gapsText cm gs ++ [9, 32]).length := ⟨_, rfl⟩
              rw [← hnb10] at hbk10
              subst hbk10
              have HN10 := Lib.hid hnb10
              have HO10 := Lib.hid ho10
              clear ho10 hg10 hs10 hnb10
              go_wp2_with (at_builtin; (refine wpList_append_text rfl _ _ rfl w.heap.size _ _ rfl HO10.out ls rfl (by have := HCU.out; have := HPL.out; have := HLS.out; (try simp only [List.length_append, List.length_cons, List.length_nil]); omega) HB10.out.size ?_))
              intro bv11 w11 ho11 hg11
              have HB11 := Lib.hid (HB10.out.grown hg11 HB10.out.size (fun j e => (HO10.out.lt j e).1))
              have hs11 : OwnS w11 w.heap.size (.slice ab6 (n + 1) cap6) ((gs.map Prod.snd) ++ [s]) := owns_kept (show World.ownsRow _ _ _ _ _ _ _ from HO10.out) HS10.out (by decide) hg11
              have HS11 := Lib.hid hs11
              replace ho11 : Own w11 w.heap.size bv11 (gapsText cm gs ++ ([9, 32] ++ ls)) := by first | exact ho11 | simpa using ho11
              obtain ⟨abk11, cbk11, hbk11, -⟩ := ho11.bts
              obtain ⟨nb11, hnb11⟩ : ∃ n, n = (gapsText cm gs ++ ([9, 32] ++ ls)).length := ⟨_, rfl⟩
              rw [← hnb11] at hbk11
              subst hbk11
              have HN11 := Lib.hid hnb11
              have HO11 := Lib.hid ho11
              clear ho11 hg11 hs11 hnb11
              obtain ⟨gq12, -⟩ := new_block w11 (.cells #[.int .u8 10] 5)
              have HOq12 := Lib.hid (owns_below HO11.out gq12 : Own _ w.heap.size _ (gapsText cm gs ++ ([9, 32] ++ ls)))
              have HSq12 := Lib.hid (owns_below HS11.out gq12)
              have HBq12 := Lib.hid (HB11.out.trans (gq12.mono HB11.out.size))
              clear gq12
              go_wp2_with (at_builtin; (refine wpList_append_bts rfl _ _ rfl w.heap.size _ _ rfl HOq12.out _ [10] (w11.heap.size + 1) rfl ((Bts.lit _ w11.heap.size _ 5 (0, 0) [10] 1 1 (heap_alloc_new w11 _) rfl (by omega) (by decide) (lit1 10)).mono (by simp)) (by have := HCU.out; have := HPL.out; have := HLS.out; (try simp only [List.length_append, List.length_cons, List.length_nil]); omega) HBq12.out.size ?_))
              intro bv12 w12 ho12 hg12 _
              have HB12 := Lib.hid (HBq12.out.grown hg12 HBq12.out.size (fun j e => (HOq12.out.lt j e).1))
              have hs12 : OwnS w12 w.heap.size (.slice ab6 (n + 1) cap6) ((gs.map Prod.snd) ++ [s]) := owns_kept (show World.ownsRow _ _ _ _ _ _ _ from HOq12.out) HSq12.out (by decide) hg12
              have HS12 := Lib.hid hs12
              replace ho12 : Own w12 w.heap.size bv12 (gapsText cm gs ++ ([9, 32] ++ (ls ++ [10]))) := by first | exact ho12 | simpa using ho12
              obtain ⟨abk12, cbk12, hbk12, -⟩ := ho12.bts
              obtain ⟨nb12, hnb12⟩ : ∃ n, n = (gapsText cm gs ++ ([9, 32] ++ (ls ++ [10]))).length := ⟨_, rfl⟩
              rw [← hnb12] at hbk12
              subst hbk12
              have HN12 := Lib.hid hnb12
              have HO12 := Lib.hid ho12
              clear ho12 hg12 hs12 hnb12
              have HG : Hid (gapsText cm gs ++ ([9, 32] ++ (ls ++ [10])) = gapsText cm (gs ++ [(1, s)])) := by show _ = _; rw [HLL.out]; simp [gapsText, gapText]
              rw [HG.out] at HO12 HN12
              go_wp2_with (fail)
              go_roundw
              case rel => exact ⟨i + 1, n + 1, nb12, cap6, cbk12, ab6, abk12, gs ++ [(1, s)], by omega, by omega, by omega, by have h1 := HN12.out; rw [← HG.out] at h1; have := HCU.out; have := HPL.out; have := HLS.out; simp only [List.length_append, List.length_cons, List.length_nil] at h1; omega, by go_num, rfl, rfl, by have := HN.out; show _ = _; simp; omega, HN12, HO12, by show OwnS _ _ _ _; rw [List.map_append]; exact HS12.out, HOK.out 1, HB12⟩
              case measure => simp [intOf] <;> omega
            · go_upto_region 12 with (at_builtin; (refine wpList_run rfl (HRUN.out _ _ 32 37 rfl rfl rfl rfl) ?_))
              go_wp2_with (at_builtin; (refine wpList_append_text rfl _ _ rfl w.heap.size _ _ rfl HO6.out [32, 13, 10, 35] rfl (by have := HCU.out; have := HPL.out; have := HLS.out; (try simp only [List.length_append, List.length_cons, List.length_nil]); omega) HB6.out.size ?_))
              intro bv10 w10 ho10 hg10
              have HB10 := Lib.hid (HB6.out.grown hg10 HB6.out.size (fun j e => (HO6.out.lt j e).1))
              have hs10 : OwnS w10 w.heap.size (.slice ab6 (n + 1) cap6) ((gs.map Prod.snd) ++ [s]) := owns_kept (show World.ownsRow _ _ _ _ _ _ _ from HO6.out) HS6.out (by decide) hg10
              have HS10 := Lib.hid hs10
              replace ho10 : Own w10 w.heap.size bv10 (gapsText cm gs ++ [32, 13, 10, 35]) := by first | exact ho10 | simpa using ho10
              obtain ⟨abk10, cbk10, hbk10, -⟩ := ho10.bts
              obtain ⟨nb10, hnb10⟩ : ∃ n, n = (gapsText cm gs ++ [32, 13, 10, 35]).length := ⟨_, rfl⟩
              rw [← hnb10] at hbk10
              subst hbk10
              have HN10 := Lib.hid hnb10
              have HO10 := Lib.hid ho10
              clear ho10 hg10 hs10 hnb10
              go_wp2_with (fail)
              with_reducible refine (HPA.out w10).mono ?_
              rintro e wp11 ⟨vp11, rfl, hop11, hBp11⟩
              have HOp11 := Lib.hid (HO10.out.below hBp11)
              have HSp11 := Lib.hid (owns_below HS10.out hBp11)
              have HBp11 := Lib.hid (HB10.out.trans (hBp11.mono HB10.out.size))
              have HVp11 := Lib.hid hop11.bts
              clear hop11 hBp11
              go_wp2_with (at_builtin; (refine wpList_append_bts rfl _ _ rfl w.heap.size _ _ rfl HOp11.out _ cm _ rfl HVp11.out (by have := HCU.out; have := HPL.out; have := HLS.out; (try simp only [List.length_append, List.length_cons, List.length_nil]); omega) HBp11.out.size ?_))
              intro bv11 w11 ho11 hg11 _
              have HB11 := Lib.hid (HBp11.out.grown hg11 HBp11.out.size (fun j e => (HOp11.out.lt j e).1))
              have hs11 : OwnS w11 w.heap.size (.slice ab6 (n + 1) cap6) ((gs.map Prod.snd) ++ [s]) := owns_kept (show World.ownsRow _ _ _ _ _ _ _ from HOp11.out) HSp11.out (by decide) hg11
              have HS11 := Lib.hid hs11
              replace ho11 : Own w11 w.heap.size bv11 (gapsText cm gs ++ ([32, 13, 10, 35] ++ cm)) := by first | exact ho11 | simpa using ho11
              obtain ⟨abk11, cbk11, hbk11, -⟩ := ho11.bts
              obtain ⟨nb11, hnb11⟩ : ∃ n, n = (gapsText cm gs ++ ([32, 13, 10, 35] ++ cm)).length := ⟨_, rfl⟩
              rw [← hnb11] at hbk11
              subst hbk11
              have HN11 := Lib.hid hnb11
              have HO11 := Lib.hid ho11
              clear ho11 hg11 hs11 hnb11
              obtain ⟨gq12, -⟩ := new_block w11 (.cells #[.int .u8 10] 5)
              have HOq12 := Lib.hid (owns_below HO11.out gq12 : Own _ w.heap.size _ (gapsText cm gs ++ ([32, 13, 10, 35] ++ cm)))
              have HSq12 := Lib.hid (owns_below HS11.out gq12)
              have HBq12 := Lib.hid (HB11.out.trans (gq12.mono HB11.out.size))
              clear gq12
              go_wp2_with (at_builtin; (refine wpList_append_bts rfl _ _ rfl w.heap.size _ _ rfl HOq12.out _ [10] (w11.heap.size + 1) rfl ((Bts.lit _ w11.heap.size _ 5 (0, 0) [10] 1 1 (heap_alloc_new w11 _) rfl (by omega) (by decide) (lit1 10)).mono (by simp)) (by have := HCU.out; have := HPL.out; have := HLS.out; (try simp only [List.length_append, List.length_cons, List.length_nil]); omega) HBq12.out.size ?_))
              intro bv12 w12 ho12 hg12 _
              have HB12 := Lib.hid (HBq12.out.grown hg12 HBq12.out.size (fun j e => (HOq12.out.lt j e).1))
              have hs12 : OwnS w12 w.heap.size (.slice ab6 (n + 1) cap6) ((gs.map Prod.snd) ++ [s]) := owns_kept (show World.ownsRow _ _ _ _ _ _ _ from HOq12.out) HSq12.out (by decide) hg12
              have HS12 := Lib.hid hs12
              replace ho12 : Own w12 w.heap.size bv12 (gapsText cm gs ++ ([32, 13, 10, 35] ++ (cm ++ [10]))) := by first | exact ho12 | simpa using ho12
              obtain ⟨abk12, cbk12, hbk12, -⟩ := ho12.bts
              obtain ⟨nb12, hnb12⟩ : ∃ n, n = (gapsText cm gs ++ ([32, 13, 10, 35] ++ (cm ++ [10]))).length := ⟨_, rfl⟩
              rw [← hnb12] at hbk12
              subst hbk12
              have HN12 := Lib.hid hnb12
              have HO12 := Lib.hid ho12
              clear ho12 hg12 hs12 hnb12
              go_wp2_with (at_builtin; (refine wpList_append_text rfl _ _ rfl w.heap.size _ _ rfl HO12.out ls rfl (by have := HCU.out; have := HPL.out; have := HLS.out; (try simp only [List.length_append, List.length_cons, List.length_nil]); omega) HB12.out.size ?_))
              intro bv13 w13 ho13 hg13
              have HB13 := Lib.hid (HB12.out.grown hg13 HB12.out.size (fun j e => (HO12.out.lt j e).1))
              have hs13 : OwnS w13 w.heap.size (.slice ab6 (n + 1) cap6) ((gs.map Prod.snd) ++ [s]) := owns_kept (show World.ownsRow _ _ _ _ _ _ _ from HO12.out) HS12.out (by decide) hg13
              have HS13 := Lib.hid hs13
              replace ho13 : Own w13 w.heap.size bv13 (gapsText cm gs ++ ([32, 13, 10, 35] ++ (cm ++ ([10] ++ ls)))) := by first | exact ho13 | simpa using ho13
              obtain ⟨abk13, cbk13, hbk13, -⟩ := ho13.bts
              obtain ⟨nb13, hnb13⟩ : ∃ n, n = (gapsText cm gs ++ ([32, 13, 10, 35] ++ (cm ++ ([10] ++ ls)))).length := ⟨_, rfl⟩
              rw [← hnb13] at hbk13
              subst hbk13
              have HN13 := Lib.hid hnb13
              have HO13 := Lib.hid ho13
              clear ho13 hg13 hs13 hnb13
              obtain ⟨gq14, -⟩ := new_block w13 (.cells #[.int .u8 10] 5)
              have HOq14 := Lib.hid (owns_below HO13.out gq14 : Own _ w.heap.size _ (gapsText cm gs ++ ([32, 13, 10, 35] ++ (cm ++ ([10] ++ ls)))))
              have HSq14 := Lib.hid (owns_below HS13.out gq14)
              have HBq14 := Lib.hid (HB13.out.trans (gq14.mono HB13.out.size))
              clear gq14
              go_wp2_with (at_builtin; (refine wpList_append_bts rfl _ _ rfl w.heap.size _ _ rfl HOq14.out _ [10] (w13.heap.size + 1) rfl ((Bts.lit _ w13.heap.size _ 5 (0, 0) [10] 1 1 (heap_alloc_new w13 _) rfl (by omega) (by decide) (lit1 10)).mono (by simp)) (by have := HCU.out; have := HPL.out; have := HLS.out; (try simp only [List.length_append, List.length_cons, List.length_nil]); omega) HBq14.out.size ?_))
              intro bv14 w14 ho14 hg14 _
              have HB14 := Lib.hid (HBq14.out.grown hg14 HBq14.out.size (fun j e => (HOq14.out.lt j e).1))
              have hs14 : OwnS w14 w.heap.size (.slice ab6 (n + 1) cap6) ((gs.map Prod.snd) ++ [s]) := owns_kept (show World.ownsRow _ _ _ _ _ _ _ from HOq14.out) HSq14.out (by decide) hg14
              have HS14 := Lib.hid hs14
              replace ho14 : Own w14 w.heap.size bv14 (gapsText cm gs ++ ([32, 13, 10, 35] ++ (cm ++ ([10] ++ (ls ++ [10]))))) := by first | exact ho14 | simpa using ho14
              obtain ⟨abk14, cbk14, hbk14, -⟩ := ho14.bts
              obtain ⟨nb14, hnb14⟩ : ∃ n, n = (gapsText cm gs ++ ([32, 13, 10, 35] ++ (cm ++ ([10] ++ (ls ++ [10]))))).length := ⟨_, rfl⟩
              rw [← hnb14] at hbk14
              subst hbk14
              have HN14 := Lib.hid hnb14
              have HO14 := Lib.hid ho14
              clear ho14 hg14 hs14 hnb14
              have HG : Hid (gapsText cm gs ++ ([32, 13, 10, 35] ++ (cm ++ ([10] ++ (ls ++ [10])))) = gapsText cm (gs ++ [(2, s)])) := by show _ = _; rw [HLL.out]; simp [gapsText, gapText]
              rw [HG.out] at HO14 HN14
              go_wp2_with (fail)
              go_roundw
              case rel => exact ⟨i + 1, n + 1, nb14, cap6, cbk14, ab6, abk14, gs ++ [(2, s)], by omega, by omega, by omega, by have h1 := HN14.out; rw [← HG.out] at h1; have := HCU.out; have := HPL.out; have := HLS.out; simp only [List.length_append, List.length_cons, List.length_nil] at h1; omega, by go_num, rfl, rfl, by have := HN.out; show _ = _; simp; omega, HN14, HO14, by show OwnS _ _ _ _; rw [List.map_append]; exact HS14.out, HOK.out 2, HB14⟩
              case measure => simp [intOf] <;> omega
            · go_upto_region 12 with (at_builtin; (refine wpList_run rfl (HRUN.out _ _ 32 37 rfl rfl rfl rfl) ?_))
              go_wp2_with (at_builtin; (refine wpList_append_text rfl _ _ rfl w.heap.size _ _ rfl HO6.out ls rfl (by have := HCU.out; have := HPL.out; have := HLS.out; (try simp only [List.length_append, List.length_cons, List.length_nil]); omega) HB6.out.size ?_))
              intro bv10 w10 ho10 hg10
              have HB10 := Lib.hid (HB6.out.grown hg10 HB6.out.size (fun j e => (HO6.out.lt j e).1))
              have hs10 : OwnS w10 w.heap.size (.slice ab6 (n + 1) cap6) ((gs.map Prod.snd) ++ [s]) := owns_kept (show World.ownsRow _ _ _ _ _ _ _ from HO6.out) HS6.out (by decide) hg10
              have HS10 := Lib.hid hs10
              replace ho10 : Own w10 w.heap.size bv10 (gapsText cm gs ++ ls) := by first | exact ho10 | simpa using ho10
              obtain ⟨abk10, cbk10, hbk10, -⟩ := ho10.bts
              obtain ⟨nb10, hnb10⟩ : ∃ n, n = (gapsText cm gs ++ ls).length := ⟨_, rfl⟩
              rw [← hnb10] at hbk10
              subst hbk10
              have HN10 := Lib.hid hnb10
              have HO10 := Lib.hid ho10
              clear ho10 hg10 hs10 hnb10
              go_wp2_with (at_builtin; (refine wpList_append_text rfl _ _ rfl w.heap.size _ _ rfl HO10.out [35] rfl (by have := HCU.out; have := HPL.out; have := HLS.out; (try simp only [List.length_append, List.length_cons, List.length_nil]); omega) HB10.out.size ?_))
              intro bv11 w11 ho11 hg11
              have HB11 := Lib.hid (HB10.out.grown hg11 HB10.out.size (fun j e => (HO10.out.lt j e).1))
              have hs11 : OwnS w11 w.heap.size (.slice ab6 (n + 1) cap6) ((gs.map Prod.snd) ++ [s]) := owns_kept (show World.ownsRow _ _ _ _ _ _ _ from HO10.out) HS10.out (by decide) hg11
              have HS11 := Lib.hid hs11
              replace ho11 : Own w11 w.heap.size bv11 (gapsText cm gs ++ (ls ++ [35])) := by first | exact ho11 | simpa using ho11
              obtain ⟨abk11, cbk11, hbk11, -⟩ := ho11.bts
              obtain ⟨nb11, hnb11⟩ : ∃ n, n = (gapsText cm gs ++ (ls ++ [35])).length := ⟨_, rfl⟩
              rw [← hnb11] at hbk11
              subst hbk11
              have HN11 := Lib.hid hnb11
              have HO11 := Lib.hid ho11
              clear ho11 hg11 hs11 hnb11
              go_wp2_with (fail)
              with_reducible refine (HPA.out w11).mono ?_
              rintro e wp12 ⟨vp12, rfl, hop12, hBp12⟩
              have HOp12 := Lib.hid (HO11.out.below hBp12)
              have HSp12 := Lib.hid (owns_below HS11.out hBp12)
              have HBp12 := Lib.hid (HB11.out.trans (hBp12.mono HB11.out.size))
              have HVp12 := Lib.hid hop12.bts
              clear hop12 hBp12
              go_wp2_with (at_builtin; (refine wpList_append_bts rfl _ _ rfl w.heap.size _ _ rfl HOp12.out _ cm _ rfl HVp12.out (by have := HCU.out; have := HPL.out; have := HLS.out; (try simp only [List.length_append, List.length_cons, List.length_nil]); omega) HBp12.out.size ?_))
              intro bv12 w12 ho12 hg12 _
              have HB12 := Lib.hid (HBp12.out.grown hg12 HBp12.out.size (fun j e => (HOp12.out.lt j e).1))
              have hs12 : OwnS w12 w.heap.size (.slice ab6 (n + 1) cap6) ((gs.map Prod.snd) ++ [s]) := owns_kept (show World.ownsRow _ _ _ _ _ _ _ from HOp12.out) HSp12.out (by decide) hg12
              have HS12 := Lib.hid hs12
              replace ho12 : Own w12 w.heap.size bv12 (gapsText cm gs ++ (ls ++ ([35] ++ cm))) := by first | exact ho12 | simpa using ho12
              obtain ⟨abk12, cbk12, hbk12, -⟩ := ho12.bts
              obtain ⟨nb12, hnb12⟩ : ∃ n, n = (gapsText cm gs ++ (ls ++ ([35] ++ cm))).length := ⟨_, rfl⟩
              rw [← hnb12] at hbk12
              subst hbk12
              have HN12 := Lib.hid hnb12
              have HO12 := Lib.hid ho12
              clear ho12 hg12 hs12 hnb12
              obtain ⟨gq13, -⟩ := new_block w12 (.cells #[.int .u8 10] 5)
              have HOq13 := Lib.hid (owns_below HO12.out gq13 : Own _ w.heap.size _ (gapsText cm gs ++ (ls ++ ([35] ++ cm))))
              have HSq13 := Lib.hid (owns_below HS12.out gq13)
              have HBq13 := Lib.hid (HB12.out.trans (gq13.mono HB12.out.size))
              clear gq13
              go_wp2_with (at_builtin; (refine wpList_append_bts rfl _ _ rfl w.heap.size _ _ rfl HOq13.out _ [10] (w12.heap.size + 1) rfl ((Bts.lit _ w12.heap.size _ 5 (0, 0) [10] 1 1 (heap_alloc_new w12 _) rfl (by omega) (by decide) (lit1 10)).mono (by simp)) (by have := HCU.out; have := HPL.out; have := HLS.out; (try simp only [List.length_append, List.length_cons, List.length_nil]); omega) HBq13.out.size ?_))
              intro bv13 w13 ho13 hg13 _
              have HB13 := Lib.hid (HBq13.out.grown hg13 HBq13.out.size (fun j e => (HOq13.out.lt j e).1))
              have hs13 : OwnS w13 w.heap.size (.slice ab6 (n + 1) cap6) ((gs.map Prod.snd) ++ [s]) := owns_kept (show World.ownsRow _ _ _ _ _ _ _ from HOq13.out) HSq13.out (by decide) hg13
              have HS13 := Lib.hid hs13
              replace ho13 : Own w13 w.heap.size bv13 (gapsText cm gs ++ (ls ++ ([35] ++ (cm ++ [10])))) := by first | exact ho13 | simpa using ho13
              obtain ⟨abk13, cbk13, hbk13, -⟩ := ho13.bts
              obtain ⟨nb13, hnb13⟩ : ∃ n, n = (gapsText cm gs ++ (ls ++ ([35] ++ (cm ++ [10])))).length := ⟨_, rfl⟩
              rw [← hnb13] at hbk13
              subst hbk13
              have HN13 := Lib.hid hnb13
              have HO13 := Lib.hid ho13
              clear ho13 hg13 hs13 hnb13
              have HG : Hid (gapsText cm gs ++ (ls ++ ([35] ++ (cm ++ [10]))) = gapsText cm (gs ++ [(3, s)])) := by show _ = _; rw [HLL.out]; simp [gapsText, gapText]
              rw [HG.out] at HO13 HN13
              go_wp2_with (fail)
              go_roundw
              case rel => exact ⟨i + 1, n + 1, nb13, cap6, cbk13, ab6, abk13, gs ++ [(3, s)], by omega, by omega, by omega, by have h1 := HN13.out; rw [← HG.out] at h1; have := HCU.out; have := HPL.out; have := HLS.out; simp only [List.length_append, List.length_cons, List.length_nil] at h1; omega, by go_num, rfl, rfl, by have := HN.out; show _ = _; simp; omega, HN13, HO13, by show OwnS _ _ _ _; rw [List.map_append]; exact HS13.out, HOK.out 3, HB13⟩
              case measure => simp [intOf] <;> omega
          · have hgn : ¬ (i : Int) < (gl : Int) := by omega
            go_upto_region 12 with (at_builtin; (refine wpList_run rfl (HRUN.out _ _ 32 37 rfl rfl rfl rfl) ?_))
            go_wp2_with (at_builtin; (refine wpList_append_text rfl _ _ rfl w.heap.size _ _ rfl HO6.out ls rfl (by have := HCU.out; have := HPL.out; have := HLS.out; (try simp only [List.length_append, List.length_cons, List.length_nil]); omega) HB6.out.size ?_))
            intro bv10 w10 ho10 hg10
            have HB10 := Lib.hid (HB6.out.grown hg10 HB6.out.size (fun j e => (HO6.out.lt j e).1))
            have hs10 : OwnS w10 w.heap.size (.slice ab6 (n + 1) cap6) ((gs.map Prod.snd) ++ [s]) := owns_kept (show World.ownsRow _ _ _ _ _ _ _ from HO6.out) HS6.out (by decide) hg10
            have HS10 := Lib.hid hs10
            replace ho10 : Own w10 w.heap.size bv10 (gapsText cm gs ++ ls) := by first | exact ho10 | simpa using ho10
            obtain ⟨abk10, cbk10, hbk10, -⟩ := ho10.bts
            obtain ⟨nb10, hnb10⟩ : ∃ n, n = (gapsText cm gs ++ ls).length := ⟨_, rfl⟩
            rw [← hnb10] at hbk10
            subst hbk10
            have HN10 := Lib.hid hnb10
            have HO10 := Lib.hid ho10
            clear ho10 hg10 hs10 hnb10
            obtain ⟨gq11, -⟩ := new_block w10 (.cells #[.int .u8 10] 5)
            have HOq11 := Lib.hid (owns_below HO10.out gq11 : Own _ w.heap.size _ (gapsText cm gs ++ ls))
            have HSq11 := Lib.hid (owns_below HS10.out gq11)
            have HBq11 := Lib.hid (HB10.out.trans (gq11.mono HB10.out.size))
            clear gq11
            go_wp2_with (at_builtin; (refine wpList_append_bts rfl _ _ rfl w.heap.size _ _ rfl HOq11.out _ [10] (w10.heap.size + 1) rfl ((Bts.lit _ w10.heap.size _ 5 (0, 0) [10] 1 1 (heap_alloc_new w10 _) rfl (by omega) (by decide) (lit1 10)).mono (by simp)) (by have := HCU.out; have := HPL.out; have := HLS.out; (try simp only [List.length_append, List.length_cons, List.length_nil]); omega) HBq11.out.size ?_))
            intro bv11 w11 ho11 hg11 _
            have HB11 := Lib.hid (HBq11.out.grown hg11 HBq11.out.size (fun j e => (HOq11.out.lt j e).1))
            have hs11 : OwnS w11 w.heap.size (.slice ab6 (n + 1) cap6) ((gs.map Prod.snd) ++ [s]) := owns_kept (show World.ownsRow _ _ _ _ _ _ _ from HOq11.out) HSq11.out (by decide) hg11
            have HS11 := Lib.hid hs11
            replace ho11 : Own w11 w.heap.size bv11 (gapsText cm gs ++ (ls ++ [10])) := by first | exact ho11 | simpa using ho11
            obtain ⟨abk11, cbk11, hbk11, -⟩ := ho11.bts
            obtain ⟨nb11, hnb11⟩ : ∃ n, n = (gapsText cm gs ++ (ls ++ [10])).length := ⟨_, rfl⟩
            rw [← hnb11] at hbk11
            subst hbk11
            have HN11 := Lib.hid hnb11
            have HO11 := Lib.hid ho11
            clear ho11 hg11 hs11 hnb11
            have HG : Hid (gapsText cm gs ++ (ls ++ [10]) = gapsText cm (gs ++ [(0, s)])) := by show _ = _; rw [HLL.out]; simp [gapsText, gapText]
            rw [HG.out] at HO11 HN11
            go_wp2_with (fail)
            go_roundw
            case rel => exact ⟨i + 1, n + 1, nb11, cap6, cbk11, ab6, abk11, gs ++ [(0, s)], by omega, by omega, by omega, by have h1 := HN11.out; rw [← HG.out] at h1; have := HCU.out; have := HPL.out; have := HLS.out; simp only [List.length_append, List.length_cons, List.length_nil] at h1; omega, by go_num, rfl, rfl, by have := HN.out; show _ = _; simp; omega, HN11, HO11, by show OwnS _ _ _ _; rw [List.map_append]; exact HS11.out, HOK.out 0, HB11⟩
            case measure => simp [intOf] <;> omega
    · obtain rfl : i = m := by omega
      have hst := HO.out.bts.strB
      obtain ⟨T, hT⟩ : ∃ l, l = gapsText cm gs := ⟨_, rfl⟩
      rw [← hT] at HNB hst
      by_cases hbig : 1048576 < nb
      · have hbi : (1048576 : Int) < (nb : Int) := by omega
        have HW := Lib.hid (awake_any wr (HT.out.below HB.out) (HEE.out.below HB.out))
        clear hst hT
        go_wp2_with (fail)
        with_reducible refine HW.out.mono ?_
        rintro e w3 ⟨rfl, hB3⟩
        have HB3 := Lib.hid (HB.out.trans (hB3.mono HB.out.size))
        clear HW hB3
        go_wp2_with (fail)
        go_ret
        exact ⟨rfl, HB3.out⟩
      · have hbi : ¬ (1048576 : Int) < (nb : Int) := by omega
        have hpf : parseF T = (gs.map Prod.snd, 0, 0) := by
          rw [hT]
          exact parse_gaps HNO.out HOKG.out (by rw [← hT, ← HNB.out]; omega) (by rw [← HN.out]; omega)
        have hc := parse_any ⟨T.toArray⟩ wr (HT.out.below HB.out) (HEE.out.below HB.out) (by show T.length ≤ _; rw [← HNB.out]; omega)
        have hpf2 : parseF (⟨T.toArray⟩ : ByteArray).data.toList = (gs.map Prod.snd, 0, 0) := hpf
        rw [hpf2] at hc
        have HC := Lib.hid hc
        have HGN : Hid ((gs.map Prod.snd).length = n) := by show _ = _; rw [List.length_map]; exact HN.out.symm
        clear hc hpf hpf2 hT HN HNB
        go_wp2_with (fail)
        with_reducible refine HC.out.mono ?_
        rintro e w3 ⟨v3, rfl, ho3, hB3⟩
        simp only [HGN.out] at ho3
        obtain ⟨ab3, cap3, rfl⟩ := owns_form ho3
        obtain ⟨g4, k4⟩ := new_block w3 (.cells #[.int .i64 0, .int .i64 0] 25)
        have HB3 := Lib.hid (HB.out.trans (hB3.mono HB.out.size))
        have HB4 := Lib.hid (HB3.out.trans (g4.mono HB3.out.size))
        have ho4 : OwnS (w3.alloc (.cells #[.int .i64 0, .int .i64 0] 25)) wr.heap.size (.slice ab3 n cap3) (gs.map Prod.snd) := by show World.ownsRow _ _ _ _ _ _ _; rw [HGN.out]; exact owns_below ho3 g4
        have ho5 : OwnS (w3.alloc (.cells #[.int .i64 0, .int .i64 0] 25)) w.heap.size (.slice ab n cap) (gs.map Prod.snd) := owns_below (owns_below HS.out hB3) g4
        have hsame := rsame_any _ _ (gs.map Prod.snd) (gs.map Prod.snd) (w3.alloc (.cells #[.int .i64 0, .int .i64 0] 25)) (OwnS.sps ho4) (OwnS.sps ho5)
        rw [sameR_iff.2 rfl] at hsame
        have HSM := Lib.hid hsame
        have d0 := cell_of_row _ _ 0 _ _ _ k4
        have d1 := cell_of_row _ _ 1 _ _ _ k4
        clear HC ho3 hB3 g4 k4 ho4 ho5 hsame
        go_wp2_with (fail)
        with_reducible refine HSM.out.mono ?_
        rintro e w5 ⟨rfl, hB5⟩
        have HB5 := Lib.hid (HB4.out.trans (hB5.mono HB4.out.size))
        have HW := Lib.hid (awake_any w5 (HT.out.below HB5.out) (HEE.out.below HB5.out))
        clear HSM hB5 d0 d1
        go_wp2_with (fail)
        with_reducible refine HW.out.mono ?_
        rintro e w6 ⟨rfl, hB6⟩
        have HB6 := Lib.hid (HB5.out.trans (hB6.mono HB5.out.size))
        clear HW hB6
        go_wp2_with (fail)
        go_ret
        exact ⟨rfl, HB6.out⟩

end Go.Proofs.YtaeoghagpeihkaaDoor

