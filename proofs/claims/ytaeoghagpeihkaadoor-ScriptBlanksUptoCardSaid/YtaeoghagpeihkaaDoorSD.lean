/- A quoted name read, both sides (by program: wip/tools/gen_sqin.py). -/
import Derived.Test.YtaeoghagpeihkaaDoorSC
set_option linter.unusedSimpArgs false
set_option linter.unusedVariables false
namespace Go.Proofs.YtaeoghagpeihkaaDoor
open Go.RowKit

theorem build_one (c : UInt8) (W : World) : (Instr.buildSlice 39 1 #[(0, .int .u8 (c.toNat : Int))]).run Tryd.prog W = .ok (.slice (some ⟨W.heap.size, 0, none⟩) 1 1) (W.alloc (.cells (([c] : List UInt8).map byteV).toArray 5)) := by kernel_rfl
theorem or16 : ∀ x y : Fin 16, bits .or .i64 (16 * ((x.1 : Nat) : Int)) ((y.1 : Nat) : Int) = 16 * ((x.1 : Nat) : Int) + ((y.1 : Nat) : Int) := by decide +kernel
theorem exec_shl16 {o : Oper} {a : Act} {W : World} (y : Operand) (ho : o.op = .binOp .shl 3 y (.const (.int .u64 4)) 77) (n : Nat) (hn : n < 16) (hy : a.eval y = .int .i64 (n : Int)) : (execOp a.eval o).run Tryd.prog W = .ok (.value (.int .i64 (16 * (n : Int)))) W := by
  unfold execOp
  simp only [ho, hy]
  rcases (show n = 0 ∨ n = 1 ∨ n = 2 ∨ n = 3 ∨ n = 4 ∨ n = 5 ∨ n = 6 ∨ n = 7 ∨ n = 8 ∨ n = 9 ∨ n = 10 ∨ n = 11 ∨ n = 12 ∨ n = 13 ∨ n = 14 ∨ n = 15 by omega) with rfl | rfl | rfl | rfl | rfl | rfl | rfl | rfl | rfl | rfl | rfl | rfl | rfl | rfl | rfl | rfl <;> kernel_rfl
theorem exec_or16 {o : Oper} {a : Act} {W : World} (x y : Operand) (ho : o.op = .binOp .or 3 x y 3) (n m : Nat) (hn : n < 16) (hm : m < 16) (hx : a.eval x = .int .i64 (16 * (n : Int))) (hy : a.eval y = .int .i64 (m : Int)) : (execOp a.eval o).run Tryd.prog W = .ok (.value (.int .i64 (16 * (n : Int) + (m : Int)))) W := by
  have h := or16 ⟨n, hn⟩ ⟨m, hm⟩
  simp only at h
  unfold execOp
  simp only [ho, hx, hy]
  simp [go_sem, h]
def quotT : Option (List UInt8 × Nat) → List UInt8 | none => [] | some p => p.1
def quotN (a : Nat) (bad : Int) : Option (List UInt8 × Nat) → Int | none => bad | some p => (a + p.2 : Nat)

set_option maxRecDepth 100000 in
set_option maxHeartbeats 4000000 in
theorem rquoted_any (s : ByteArray) (hs0 : 1 ≤ s.size) (w : World) (hs : s.size ≤ 100000000) : Calls Tryd.prog 42 #[.string s] w fun e w' => e = .returned (.tuple #[.string ⟨(quotT (qF (s.data.toList.drop (0 + 1)))).toArray⟩, .int .i64 (quotN (0 + 1) (0) (qF (s.data.toList.drop (0 + 1))))]) ∧ Below w.heap.size w w' := by
  obtain ⟨L, hL⟩ : ∃ l, l = s.data.toList := ⟨_, rfl⟩
  have hLs : L.length = s.size := by rw [hL]; simp
  have hLg : ∀ (i : Nat) (hi : i < s.size), s[i] = L[i]'(by omega) := by intro i hi; subst hL; rfl
  rw [← hL]
  have HLG := Lib.hid hLg
  clear hL hLg
  obtain ⟨q, hq⟩ : ∃ q, q = qF (L.drop (0 + 1)) := ⟨_, rfl⟩
  rw [← hq]
  have HQQ := Lib.hid hq
  clear hq
  go_enter Tryd.func42, Tryd.ntmps42
  go_wp2_with (fail)
  go_loopw [4, 5] (fun bv iv wr => ∃ (k nb cb : Nat) (ab : Option Addr) (cur : List UInt8), k ≤ s.size ∧ iv = .int .i64 (k : Int) ∧ bv = .slice ab nb cb ∧ Hid (nb = cur.length) ∧ Hid (Own wr w.heap.size (.slice ab nb cb) cur) ∧ Hid (QI L (0) k cur ∧ cur.length ≤ k) ∧ Hid (Below w.heap.size w wr)) (fun _ iv _ => s.size - (intOf iv).toNat)
  case atStart => exact ⟨0 + 1, 0, 0, none, [], by omega, by go_num, rfl, rfl, Own.nil _ _, ⟨QI.start _ _, Nat.zero_le _⟩, Below.refl _ _⟩
  case round =>
    obtain ⟨k, nb, cb, ab, cur, hk, rfl, rfl, HN, HO, HQ, HB⟩ := hrel
    have HCL : Hid (cur.length ≤ 100000001) := by show _ ≤ _; have := HQ.out.2; omega
    have HOC : Hid (wr.ownsRow w.heap.size 5 1 (.slice ab nb cb) nb (cur.map byteV)) := by have h := HO.out; unfold Own at h; rw [← HN.out] at h; exact h
    have hnb : nb ≤ 100000001 := by rw [HN.out]; exact HCL.out
    by_cases hlt : k < s.size
    · obtain ⟨c, hc⟩ : ∃ c, s[k] = c := ⟨_, rfl⟩
      have hLc : L[k]'(by omega) = c := by rw [← HLG.out k hlt]; exact hc
      have hct := c.toNat_lt
      by_cases h34 : c = 34
      · subst h34
        have HE : Hid (q = some (cur, k + 1 - (0 + 1))) := HQQ.out.trans (HQ.out.1.quote (by omega) hLc)
        have hst := (HO.out).bts.strB
        have HST := hst
        go_wp2_with (fail)
        go_ret2
        exact ⟨by rw [HE.out]; simp [quotT, quotN]; have := HQ.out.1.1; omega, HB.out⟩
      · have n34 : ((c.toNat : Int) == 34) = false := by
          rw [beq_eq_false_iff_ne]
          intro e
          exact h34 (UInt8.toNat_inj.1 (by show c.toNat = 34; omega))
        by_cases h2 : c.toNat < 32 ∨ 126 < c.toNat
        · have HE : Hid (q = none) := HQQ.out.trans (HQ.out.1.ctl (by omega) (by rw [hLc]; exact h34) (by rw [hLc]; exact h2))
          rcases h2 with h2 | h2
          · have h2' : (c.toNat : Int) < 32 := by omega
            go_wp2_with (fail)
            go_ret2
            exact ⟨by rw [HE.out]; rfl, HB.out⟩
          · have h2' : ¬ (c.toNat : Int) < 32 := by omega
            have h2'' : (126 : Int) < (c.toNat : Int) := by omega
            go_wp2_with (fail)
            go_ret2
            exact ⟨by rw [HE.out]; rfl, HB.out⟩
        · have h3 : ¬ (c.toNat : Int) < 32 := by omega
          have h4 : ¬ (126 : Int) < (c.toNat : Int) := by omega
          by_cases h92 : c = 92
          · subst h92
            by_cases k1 : k + 1 < s.size
            · obtain ⟨d, hd⟩ : ∃ d, s[k + 1] = d := ⟨_, rfl⟩
              have hLd : L[k + 1]'(by omega) = d := by rw [← HLG.out (k + 1) k1]; exact hd
              have k1i : (k : Int) + 1 < (s.size : Int) := by omega
              by_cases hd2 : d = 34 ∨ d = 92
              · have HQ2 : Hid (QI L (0) (k + 2) (cur ++ [d]) ∧ (cur ++ [d]).length ≤ k + 2) := ⟨by have h := HQ.out.1.esc (by omega) hLc (by rw [hLd]; exact hd2); rw [hLd] at h; exact h, by have := HQ.out.2; rw [List.length_append]; simp; omega⟩
                rcases hd2 with rfl | rfl
                · have HO1 := Lib.hid (owns_below HO.out (new_block wr (.cells #[.int .u8 ((34 : UInt8).toNat : Int)] 5)).1 : Own _ w.heap.size (.slice ab nb cb) cur)
                  go_wp2_with (at_builtin; (refine wpList_append_bts rfl _ _ rfl w.heap.size _ cur rfl HO1.out _ [(34 : UInt8)] (wr.heap.size + 1) rfl ((Bts.lit _ wr.heap.size _ 5 (0, 0) [(34 : UInt8)] 1 1 (heap_alloc_new wr _) rfl (by omega) (by decide) (lit1 (34 : UInt8))).mono (by simp)) (by have := HCL.out; simp; omega) (by have := HB.out.size; simp; omega) ?_))
                  intro b2 w2 ho2 hg2 _
                  have HB2 := Lib.hid ((HB.out.trans ((new_block wr (.cells #[.int .u8 ((34 : UInt8).toNat : Int)] 5)).1.mono HB.out.size)).grown hg2 (Nat.le_trans HB.out.size (new_block wr _).1.size) (fun j e => (World.ownsRow.lt HO1.out j e).1))
                  obtain ⟨ab2, cb2, hb2, -⟩ := ho2.bts
                  obtain ⟨nb2, hnb2⟩ : ∃ n, n = (cur ++ [(34 : UInt8)]).length := ⟨_, rfl⟩
                  rw [← hnb2] at hb2
                  subst hb2
                  have HN2 := Lib.hid hnb2
                  have HO2 := Lib.hid ho2
                  clear ho2 hg2 hnb2 HO1
                  go_wp2_with (fail)
                  go_roundw
                  case rel => exact ⟨k + 2, nb2, cb2, ab2, cur ++ [(34 : UInt8)], by omega, by go_num, rfl, HN2.out, HO2.out, HQ2.out, HB2.out⟩
                  case measure => simp [intOf] <;> omega
                · have HO1 := Lib.hid (owns_below HO.out (new_block wr (.cells #[.int .u8 ((92 : UInt8).toNat : Int)] 5)).1 : Own _ w.heap.size (.slice ab nb cb) cur)
                  go_wp2_with (at_builtin; (refine wpList_append_bts rfl _ _ rfl w.heap.size _ cur rfl HO1.out _ [(92 : UInt8)] (wr.heap.size + 1) rfl ((Bts.lit _ wr.heap.size _ 5 (0, 0) [(92 : UInt8)] 1 1 (heap_alloc_new wr _) rfl (by omega) (by decide) (lit1 (92 : UInt8))).mono (by simp)) (by have := HCL.out; simp; omega) (by have := HB.out.size; simp; omega) ?_))
                  intro b2 w2 ho2 hg2 _
                  have HB2 := Lib.hid ((HB.out.trans ((new_block wr (.cells #[.int .u8 ((92 : UInt8).toNat : Int)] 5)).1.mono HB.out.size)).grown hg2 (Nat.le_trans HB.out.size (new_block wr _).1.size) (fun j e => (World.ownsRow.lt HO1.out j e).1))
                  obtain ⟨ab2, cb2, hb2, -⟩ := ho2.bts
                  obtain ⟨nb2, hnb2⟩ : ∃ n, n = (cur ++ [(92 : UInt8)]).length := ⟨_, rfl⟩
                  rw [← hnb2] at hb2
                  subst hb2
                  have HN2 := Lib.hid hnb2
                  have HO2 := Lib.hid ho2
                  clear ho2 hg2 hnb2 HO1
                  go_wp2_with (fail)
                  go_roundw
                  case rel => exact ⟨k + 2, nb2, cb2, ab2, cur ++ [(92 : UInt8)], by omega, by go_num, rfl, HN2.out, HO2.out, HQ2.out, HB2.out⟩
                  case measure => simp [intOf] <;> omega
              · have d34 : ((d.toNat : Int) == 34) = false := by
                  rw [beq_eq_false_iff_ne]
                  intro e
                  exact hd2 (.inl (UInt8.toNat_inj.1 (by show d.toNat = 34; omega)))
                have d92 : ((d.toNat : Int) == 92) = false := by
                  rw [beq_eq_false_iff_ne]
                  intro e
                  exact hd2 (.inr (UInt8.toNat_inj.1 (by show d.toNat = 92; omega)))
                by_cases k3 : k + 3 < s.size
                · have k3i : (k : Int) + 3 < (s.size : Int) := by omega
                  have hk2 : k + 2 < s.size := by omega
                  obtain ⟨c2, hc2⟩ : ∃ d, s[k + 2] = d := ⟨_, rfl⟩
                  obtain ⟨c3, hc3⟩ : ∃ d, s[k + 3] = d := ⟨_, rfl⟩
                  have hL2 : L[k + 2]'(by omega) = c2 := by rw [← HLG.out (k + 2) hk2]; exact hc2
                  have hL3 : L[k + 3]'(by omega) = c3 := by rw [← HLG.out (k + 3) k3]; exact hc3
                  by_cases hx : d = 120
                  · subst hx
                    by_cases g2 : 0 ≤ hexF c2
                    · by_cases g3 : 0 ≤ hexF c3
                      · obtain ⟨x2, hx2⟩ : ∃ x : Nat, hexF c2 = (x : Int) := ⟨(hexF c2).toNat, by omega⟩
                        obtain ⟨x3, hx3⟩ : ∃ x : Nat, hexF c3 = (x : Int) := ⟨(hexF c3).toNat, by omega⟩
                        have l2 : x2 < 16 := by have := hexF_lt c2; omega
                        have l3 : x3 < 16 := by have := hexF_lt c3; omega
                        obtain ⟨hx, hhx⟩ : ∃ x : UInt8, x = UInt8.ofNat (16 * x2 + x3) := ⟨_, rfl⟩
                        have HQ2 : Hid (QI L (0) (k + 4) (cur ++ [hx]) ∧ (cur ++ [hx]).length ≤ k + 4) := ⟨by have h := HQ.out.1.hex (by omega) hLc hLd (by rw [hL2]; exact g2) (by rw [hL3]; exact g3); rw [hL2, hL3, hx2, hx3] at h; rw [hhx]; exact h, by have := HQ.out.2; rw [List.length_append]; simp; omega⟩
                        have hhn : (hx.toNat : Int) = 16 * (x2 : Int) + (x3 : Int) := by rw [hhx, UInt8.toNat_ofNat']; omega
                        clear hhx g2 g3
                        have hk2w : IntKind.i64.wrap ((k : Int) + 2) = (k : Int) + 2 := by simp only [IntKind.wrap_i64]; omega
                        have hk3w : IntKind.i64.wrap ((k : Int) + 3) = (k : Int) + 3 := by simp only [IntKind.wrap_i64]; omega
                        have hk2n : ((k : Int) + 2).toNat = k + 2 := by omega
                        have hk3n : ((k : Int) + 3).toNat = k + 3 := by omega
                        have hm2 : IntKind.i64.wrap (16 * (x2 : Int)) = 16 * (x2 : Int) := by simp only [IntKind.wrap_i64]; omega
                        have hm3 : IntKind.i64.wrap (16 * (x2 : Int) + (x3 : Int)) = 16 * (x2 : Int) + (x3 : Int) := by simp only [IntKind.wrap_i64]; omega
                        have hcv : IntKind.u8.wrap (16 * (x2 : Int) + (x3 : Int)) = (hx.toNat : Int) := by rw [hhn]; simp only [IntKind.wrap_u8]; omega
                        go_wp2_with (fail)
                        with_reducible refine (digit_any c2 _).mono ?_
                        rintro e w' ⟨rfl, rfl⟩
                        rw [hx2]
                        go_wp2_with (fail)
                        with_reducible refine (digit_any c3 _).mono ?_
                        rintro e w' ⟨rfl, rfl⟩
                        rw [hx3]
                        go_upto_region 17 with (fail)
                        refine wpIn_wide (n := 5).1 (wpIn_flowM2 (F0 := Fence.wide) (n0 := 5) (fun _ => trivial) (fun h => by cases h) (by kernel_rfl) (by kernel_rfl) 17 17 (by kernel_rfl) (fun j => ([0, 1, 2, 3, 4, 5, 6, 7, 8, 9, 10, 11, 12, 13, 14, 15, 16] : List Nat).getD j 0) (fun j => ([95, 96, 97, 98, 99, 100, 101, 102, 103, 104, 105, 106, 107, 108, 109, 110, 4] : List Nat).getD j 0) (by kernel_rfl) (by kernel_rfl) (by kernel_rfl) (by kernel_rfl) (by kernel_rfl) (by kernel_rfl) (by kernel_rfl) (fun j zv => ([(fun zv => zv = (.slice ab nb cb)), (fun zv => zv = (.string s)), (fun zv => zv = (.int .i64 (k : Int))), (fun zv => zv = (.int .i64 ((k : Int) + 2))), (fun zv => zv = (.int .u8 (c2.toNat : Int))), (fun zv => zv = (.int .i64 (x2 : Int))), (fun zv => zv = (.int .i64 (16 * (x2 : Int)))), (fun zv => zv = (.string s)), (fun zv => zv = (.int .i64 (k : Int))), (fun zv => zv = (.int .i64 ((k : Int) + 3))), (fun zv => zv = (.int .u8 (c3.toNat : Int))), (fun zv => zv = (.int .i64 (x3 : Int))), (fun zv => zv = (.int .i64 (16 * (x2 : Int) + (x3 : Int)))), (fun zv => zv = (.int .u8 (hx.toNat : Int))), (fun zv => ∃ g, zv = .slice (some ⟨g, 0, none⟩) 1 1), (fun zv => ∃ g cap, zv = .slice (some ⟨g, 0, none⟩) (nb + 1) cap), (fun zv => ∃ g cap, zv = .slice (some ⟨g, 0, none⟩) (nb + 1) cap)] : List (Value → Prop)).getD j (fun _ => True) zv) (fun d vs W => AppJ wr w.heap.size 5 1 (.slice ab nb cb) nb (cur.map byteV) (([hx] : List UInt8).map byteV) 1 (d 14) (d 15) (vs 14) (vs 15) W ∧ (d 15 = true → d 0 = true) ∧ (d 16 = true → d 15 = true ∧ vs 16 = vs 15)) ?h0z ?stepz ?finz)
                        case h0z => exact fun vs => ⟨AppJ.start _ _ _ _ HB.out.size HOC.out, (fun e => by cases e), (fun e => by cases e)⟩
                        case stepz =>
                          intro i o a W d vs hi ho hdi hJ hf hr hF hz
                          replace hi : i < 17 := hi
                          rcases (show i = 0 ∨ i = 1 ∨ i = 2 ∨ i = 3 ∨ i = 4 ∨ i = 5 ∨ i = 6 ∨ i = 7 ∨ i = 8 ∨ i = 9 ∨ i = 10 ∨ i = 11 ∨ i = 12 ∨ i = 13 ∨ i = 14 ∨ i = 15 ∨ i = 16 by omega) with rfl | rfl | rfl | rfl | rfl | rfl | rfl | rfl | rfl | rfl | rfl | rfl | rfl | rfl | rfl | rfl | rfl
                          · replace ho := op_at ho (by rfl)
                            subst ho
                            have f4 : a.tmps.getD 4 undef = (.slice ab nb cb) := hz 16 (by decide) (show d 16 = false from by cases h : d 16 with | false => rfl | true => have h1 := hJ.2.1 (hJ.2.2 h).1; rw [hdi] at h1; cases h1)
                            exact .inl ⟨(fun k b h => by cases h), .inl ⟨0, by decide, rfl, (.slice ab nb cb), W, (by simp [go_sem, Act.eval, f4]), rfl, ⟨hJ.1, fun _ => rfl, hJ.2.2⟩⟩⟩
                          · replace ho := op_at ho (by rfl)
                            subst ho
                            have f0 : a.tmps.getD 0 undef = (.string s) := hf 0 (by kernel_rfl)
                            exact .inl ⟨(fun k b h => by cases h), .inl ⟨1, by decide, rfl, (.string s), W, (by simp [go_sem, Act.eval, f0]), rfl, hJ⟩⟩
                          · replace ho := op_at ho (by rfl)
                            subst ho
                            have f5 : a.tmps.getD 5 undef = (.int .i64 (k : Int)) := hf 5 (by kernel_rfl)
                            exact .inl ⟨(fun k b h => by cases h), .inl ⟨2, by decide, rfl, (.int .i64 (k : Int)), W, (by simp [go_sem, Act.eval, f5]), rfl, hJ⟩⟩
                          · replace ho := op_at ho (by rfl)
                            subst ho
                            have d2 : a.tmps.getD 97 undef = (.int .i64 (k : Int)) := by have h1 := hF 2 (by decide) (hr 2 (by kernel_rfl)); exact h1.2.trans h1.1
                            exact .inl ⟨(fun k b h => by cases h), .inl ⟨3, by decide, rfl, (.int .i64 ((k : Int) + 2)), W, (by simp [go_sem, Act.eval, d2, hk2w]), rfl, hJ⟩⟩
                          · replace ho := op_at ho (by rfl)
                            subst ho
                            have d1 : a.tmps.getD 96 undef = (.string s) := by have h1 := hF 1 (by decide) (hr 1 (by kernel_rfl)); exact h1.2.trans h1.1
                            have d3 : a.tmps.getD 98 undef = (.int .i64 ((k : Int) + 2)) := by have h1 := hF 3 (by decide) (hr 3 (by kernel_rfl)); exact h1.2.trans h1.1
                            exact .inl ⟨(fun k b h => by cases h), .inl ⟨4, by decide, rfl, (.int .u8 (c2.toNat : Int)), W, (by simp [go_sem, Act.eval, d1, d3, hk2n, hc2]; intro h; omega), rfl, hJ⟩⟩
                          · replace ho := op_at ho (by rfl)
                            subst ho
                            have d4 : a.tmps.getD 99 undef = (.int .u8 (c2.toNat : Int)) := by have h1 := hF 4 (by decide) (hr 4 (by kernel_rfl)); exact h1.2.trans h1.1
                            refine .inl ⟨(fun k b h => by cases h), .inr (.inr ⟨5, by decide, rfl, 51, #[.int .u8 (c2.toNat : Int)], W, (by simp [go_sem, Act.eval, d4]), ?_⟩)⟩
                            exact (callsIn_wide.2 (digit_any c2 W)).mono fun e W' hh => ⟨.int .i64 (x2 : Int), hh.1.trans (by rw [hx2]), rfl, hh.2 ▸ hJ⟩
                          · replace ho := op_at ho (by rfl)
                            subst ho
                            have d5 : a.tmps.getD 100 undef = (.int .i64 (x2 : Int)) := by have h1 := hF 5 (by decide) (hr 5 (by kernel_rfl)); exact h1.2.trans h1.1
                            exact .inl ⟨(fun k b h => by cases h), .inl ⟨6, by decide, rfl, (.int .i64 (16 * (x2 : Int))), W, (by simp [go_sem, Act.eval, d5, hm2]), rfl, hJ⟩⟩
                          · replace ho := op_at ho (by rfl)
                            subst ho
                            have f0 : a.tmps.getD 0 undef = (.string s) := hf 0 (by kernel_rfl)
                            exact .inl ⟨(fun k b h => by cases h), .inl ⟨7, by decide, rfl, (.string s), W, (by simp [go_sem, Act.eval, f0]), rfl, hJ⟩⟩
                          · replace ho := op_at ho (by rfl)
                            subst ho
                            have f5 : a.tmps.getD 5 undef = (.int .i64 (k : Int)) := hf 5 (by kernel_rfl)
                            exact .inl ⟨(fun k b h => by cases h), .inl ⟨8, by decide, rfl, (.int .i64 (k : Int)), W, (by simp [go_sem, Act.eval, f5]), rfl, hJ⟩⟩
                          · replace ho := op_at ho (by rfl)
                            subst ho
                            have d8 : a.tmps.getD 103 undef = (.int .i64 (k : Int)) := by have h1 := hF 8 (by decide) (hr 8 (by kernel_rfl)); exact h1.2.trans h1.1
                            exact .inl ⟨(fun k b h => by cases h), .inl ⟨9, by decide, rfl, (.int .i64 ((k : Int) + 3)), W, (by simp [go_sem, Act.eval, d8, hk3w]), rfl, hJ⟩⟩
                          · replace ho := op_at ho (by rfl)
                            subst ho
                            have d7 : a.tmps.getD 102 undef = (.string s) := by have h1 := hF 7 (by decide) (hr 7 (by kernel_rfl)); exact h1.2.trans h1.1
                            have d9 : a.tmps.getD 104 undef = (.int .i64 ((k : Int) + 3)) := by have h1 := hF 9 (by decide) (hr 9 (by kernel_rfl)); exact h1.2.trans h1.1
                            exact .inl ⟨(fun k b h => by cases h), .inl ⟨10, by decide, rfl, (.int .u8 (c3.toNat : Int)), W, (by simp [go_sem, Act.eval, d7, d9, hk3n, hc3]; intro h; omega), rfl, hJ⟩⟩
                          · replace ho := op_at ho (by rfl)
                            subst ho
                            have d10 : a.tmps.getD 105 undef = (.int .u8 (c3.toNat : Int)) := by have h1 := hF 10 (by decide) (hr 10 (by kernel_rfl)); exact h1.2.trans h1.1
                            refine .inl ⟨(fun k b h => by cases h), .inr (.inr ⟨11, by decide, rfl, 51, #[.int .u8 (c3.toNat : Int)], W, (by simp [go_sem, Act.eval, d10]), ?_⟩)⟩
                            exact (callsIn_wide.2 (digit_any c3 W)).mono fun e W' hh => ⟨.int .i64 (x3 : Int), hh.1.trans (by rw [hx3]), rfl, hh.2 ▸ hJ⟩
                          · replace ho := op_at ho (by rfl)
                            subst ho
                            have d6 : a.tmps.getD 101 undef = (.int .i64 (16 * (x2 : Int))) := by have h1 := hF 6 (by decide) (hr 6 (by kernel_rfl)); exact h1.2.trans h1.1
                            have d11 : a.tmps.getD 106 undef = (.int .i64 (x3 : Int)) := by have h1 := hF 11 (by decide) (hr 11 (by kernel_rfl)); exact h1.2.trans h1.1
                            exact .inl ⟨(fun k b h => by cases h), .inl ⟨12, by decide, rfl, (.int .i64 (16 * (x2 : Int) + (x3 : Int))), W, (by simp [go_sem, Act.eval, d6, d11, hm3]), rfl, hJ⟩⟩
                          · replace ho := op_at ho (by rfl)
                            subst ho
                            have d12 : a.tmps.getD 107 undef = (.int .i64 (16 * (x2 : Int) + (x3 : Int))) := by have h1 := hF 12 (by decide) (hr 12 (by kernel_rfl)); exact h1.2.trans h1.1
                            exact .inl ⟨(fun k b h => by cases h), .inl ⟨13, by decide, rfl, (.int .u8 (hx.toNat : Int)), W, (by simp [go_sem, Act.eval, d12, hcv]), rfl, hJ⟩⟩
                          · replace ho := op_at ho (by rfl)
                            subst ho
                            have d13 : a.tmps.getD 108 undef = (.int .u8 (hx.toNat : Int)) := by have h1 := hF 13 (by decide) (hr 13 (by kernel_rfl)); exact h1.2.trans h1.1
                            rw [hdi] at hJ
                            exact .inl ⟨(fun k b h => by cases h), .inl ⟨14, by decide, rfl, .slice (some ⟨W.heap.size, 0, none⟩) 1 1, W.alloc (.cells (([hx] : List UInt8).map byteV).toArray 5), (exec_buildSlice _ _ _ rfl #[(0, .int .u8 (hx.toNat : Int))] (by simp only [List.map_toArray, List.map_cons, List.map_nil, Act.eval, d13]) _ _ (build_one hx W)), ⟨_, rfl⟩, ⟨hJ.1.builds rfl, hJ.2.1, hJ.2.2⟩⟩⟩
                          · replace ho := op_at ho (by rfl)
                            subst ho
                            have d0 : a.tmps.getD 95 undef = (.slice ab nb cb) := by have h1 := hF 0 (by decide) (hr 0 (by kernel_rfl)); exact h1.2.trans h1.1
                            obtain ⟨g14, e14⟩ := hF 14 (by decide) (hr 14 (by kernel_rfl))
                            replace e14 : a.tmps.getD 109 undef = vs 14 := e14
                            replace g14 : (fun zv => ∃ g, zv = .slice (some ⟨g, 0, none⟩) 1 1) (vs 14) := g14
                            have t14 : d 14 = true := hr 14 (by kernel_rfl)
                            have h1 := hJ.1
                            rw [t14, hdi] at h1
                            obtain ⟨g, hg, hgr⟩ := h1.lit rfl rfl
                            rw [hg] at e14
                            obtain ⟨i0, ji, jz0, jz1, jz2⟩ := info_parts info_u8
                            obtain ⟨gz, capz, W8, hrunz, nz, gz8, -⟩ := op_append_row 39 5 i0 _ 1 1 Tryd.underlying39 ji jz0 jz1 jz2 rfl (by decide) W w.heap.size (.slice ab nb cb) nb _ g 1 _ (h1.own0 rfl) hgr rfl (bytes_oneCell _) (by decide) (by omega) (by omega) (Nat.le_trans h1.bs h1.siz)
                            refine .inl ⟨(fun k b h => by cases h), .inl ⟨15, by decide, rfl, .slice (some ⟨gz, 0, none⟩) (nb + 1) capz, W8, hrunz a _ 95 109 d0 e14 rfl rfl, ⟨_, _, rfl⟩, ?_, fun _ => hr 0 (by kernel_rfl), fun e => ?_⟩⟩
                            · show AppJ _ _ _ _ _ _ _ _ _ (d 14) true (vs 14) _ W8
                              rw [t14]; exact h1.appends nz gz8
                            · have h2 := (hJ.2.2 e).1
                              rw [hdi] at h2; cases h2
                          · replace ho := op_at ho (by rfl)
                            subst ho
                            obtain ⟨g15, e15⟩ := hF 15 (by decide) (hr 15 (by kernel_rfl))
                            replace e15 : a.tmps.getD 110 undef = vs 15 := e15
                            replace g15 : (fun zv => ∃ g cap, zv = .slice (some ⟨g, 0, none⟩) (nb + 1) cap) (vs 15) := g15
                            obtain ⟨g9, cap9, h9⟩ := g15
                            have e8b := e15
                            rw [h9] at e8b
                            have t8 : d 15 = true := hr 15 (by kernel_rfl)
                            exact .inl ⟨(fun k b h => by cases h), .inl ⟨16, by decide, rfl, .slice (some ⟨g9, 0, none⟩) (nb + 1) cap9, W, (by simp [go_sem, Act.eval, e8b]), ⟨_, _, rfl⟩, ⟨hJ.1, hJ.2.1, fun _ => ⟨t8, h9.symm⟩⟩⟩⟩
                        case finz =>
                          intro d vs Wz hall hJ hF
                          have h0 : vs 0 = (.slice ab nb cb) := hF 0 (by decide)
                          have h1 : vs 1 = (.string s) := hF 1 (by decide)
                          have h2 : vs 2 = (.int .i64 (k : Int)) := hF 2 (by decide)
                          have h3 : vs 3 = (.int .i64 ((k : Int) + 2)) := hF 3 (by decide)
                          have h4 : vs 4 = (.int .u8 (c2.toNat : Int)) := hF 4 (by decide)
                          have h5 : vs 5 = (.int .i64 (x2 : Int)) := hF 5 (by decide)
                          have h6 : vs 6 = (.int .i64 (16 * (x2 : Int))) := hF 6 (by decide)
                          have h7 : vs 7 = (.string s) := hF 7 (by decide)
                          have h8 : vs 8 = (.int .i64 (k : Int)) := hF 8 (by decide)
                          have h9 : vs 9 = (.int .i64 ((k : Int) + 3)) := hF 9 (by decide)
                          have h10 : vs 10 = (.int .u8 (c3.toNat : Int)) := hF 10 (by decide)
                          have h11 : vs 11 = (.int .i64 (x3 : Int)) := hF 11 (by decide)
                          have h12 : vs 12 = (.int .i64 (16 * (x2 : Int) + (x3 : Int))) := hF 12 (by decide)
                          have h13 : vs 13 = (.int .u8 (hx.toNat : Int)) := hF 13 (by decide)
                          have h14 : (fun zv => ∃ g, zv = .slice (some ⟨g, 0, none⟩) 1 1) (vs 14) := hF 14 (by decide)
                          have h15 : (fun zv => ∃ g cap, zv = .slice (some ⟨g, 0, none⟩) (nb + 1) cap) (vs 15) := hF 15 (by decide)
                          have h16 : (fun zv => ∃ g cap, zv = .slice (some ⟨g, 0, none⟩) (nb + 1) cap) (vs 16) := hF 16 (by decide)
                          clear hF
                          obtain ⟨g9, cap9, hg9⟩ := h16
                          have hans := (hJ.2.2 (hall 16 (by decide))).2
                          have hown9 := hJ.1.own1 (hall 15 (by decide))
                          rw [← hans, hg9] at hown9
                          have OWN9 := Lib.hid hown9
                          have LB9 := Lib.hid hJ.1.low
                          clear hJ hall hown9 h14 h15 hans
                          show (_ : Exit → Act → World → Prop) Exit.normal (puts _ vs 17 _) Wz
                          simp only [puts, h0, h1, h2, h3, h4, h5, h6, h7, h8, h9, h10, h11, h12, h13, List.getD_cons_zero, List.getD_cons_succ]
                          clear h0 h1 h2 h3 h4 h5 h6 h7 h8 h9 h10 h11 h12 h13
                          go_simp
                          go_wp2_with (fail)
                          go_roundw
                          case rel => exact ⟨k + 4, nb + 1, cap9, some ⟨g9, 0, none⟩, cur ++ [hx], by omega, by go_num, rfl, (by rw [HN.out, List.length_append]; rfl), (by
                            have h := OWN9.out
                            unfold Own
                            rw [List.length_append, List.map_append, ← HN.out]
                            exact h), HQ2.out, (HB.out.trans LB9.out)⟩
                          case measure => simp [intOf] <;> omega
                      · have HE : Hid (q = none) := HQQ.out.trans (HQ.out.1.bad (by omega) hLc (fun _ => by rw [hLd]; exact hd2) (fun _ => by rw [hL2, hL3]; exact fun h => g3 h.2.2))
                        go_wp2_with (fail)
                        with_reducible refine (digit_any c2 _).mono ?_
                        rintro e w' ⟨rfl, rfl⟩
                        go_wp2_with (fail)
                        with_reducible refine (digit_any c3 _).mono ?_
                        rintro e w' ⟨rfl, rfl⟩
                        go_wp2_with (fail)
                        go_ret2
                        exact ⟨by rw [HE.out]; rfl, HB.out⟩
                    · have HE : Hid (q = none) := HQQ.out.trans (HQ.out.1.bad (by omega) hLc (fun _ => by rw [hLd]; exact hd2) (fun _ => by rw [hL2]; exact fun h => g2 h.2.1))
                      go_wp2_with (fail)
                      with_reducible refine (digit_any c2 _).mono ?_
                      rintro e w' ⟨rfl, rfl⟩
                      go_wp2_with (fail)
                      go_ret2
                      exact ⟨by rw [HE.out]; rfl, HB.out⟩
                  · have d120 : ((d.toNat : Int) == 120) = false := by
                      rw [beq_eq_false_iff_ne]
                      intro e
                      exact hx (UInt8.toNat_inj.1 (by show d.toNat = 120; omega))
                    have HE : Hid (q = none) := HQQ.out.trans (HQ.out.1.bad (by omega) hLc (fun _ => by rw [hLd]; exact hd2) (fun _ => by rw [hLd]; exact fun h => hx h.1))
                    go_wp2_with (fail)
                    go_ret2
                    exact ⟨by rw [HE.out]; rfl, HB.out⟩
                · have k3i : ¬ (k : Int) + 3 < (s.size : Int) := by omega
                  have HE : Hid (q = none) := HQQ.out.trans (HQ.out.1.bad (by omega) hLc (fun _ => by rw [hLd]; exact hd2) (fun h => by omega))
                  go_wp2_with (fail)
                  go_ret2
                  exact ⟨by rw [HE.out]; rfl, HB.out⟩
            · have k1i : ¬ (k : Int) + 1 < (s.size : Int) := by omega
              have k3i : ¬ (k : Int) + 3 < (s.size : Int) := by omega
              have HE : Hid (q = none) := HQQ.out.trans (HQ.out.1.bad (by omega) hLc (fun h => by omega) (fun h => by omega))
              go_wp2_with (fail)
              go_ret2
              exact ⟨by rw [HE.out]; rfl, HB.out⟩
          · have n92 : ((c.toNat : Int) == 92) = false := by
              rw [beq_eq_false_iff_ne]
              intro e
              exact h92 (UInt8.toNat_inj.1 (by show c.toNat = 92; omega))
            have HQ2 : Hid (QI L (0) (k + 1) (cur ++ [c]) ∧ (cur ++ [c]).length ≤ k + 1) := ⟨by have h := HQ.out.1.plain (by omega) (by rw [hLc]; exact h34) (by rw [hLc]; exact h2) (by rw [hLc]; exact h92); rw [hLc] at h; exact h, by have := HQ.out.2; rw [List.length_append]; simp; omega⟩
            have HO1 := Lib.hid (owns_below HO.out (new_block wr (.cells #[.int .u8 (c.toNat : Int)] 5)).1 : Own _ w.heap.size (.slice ab nb cb) cur)
            go_wp2_with (at_builtin; (refine wpList_append_bts rfl _ _ rfl w.heap.size _ cur rfl HO1.out _ [c] (wr.heap.size + 1) rfl ((Bts.lit _ wr.heap.size _ 5 (0, 0) [c] 1 1 (heap_alloc_new wr _) rfl (by omega) (by decide) (lit1 c)).mono (by simp)) (by have := HCL.out; simp; omega) (by have := HB.out.size; simp; omega) ?_))
            intro b2 w2 ho2 hg2 _
            have HB2 := Lib.hid ((HB.out.trans ((new_block wr (.cells #[.int .u8 (c.toNat : Int)] 5)).1.mono HB.out.size)).grown hg2 (Nat.le_trans HB.out.size (new_block wr _).1.size) (fun j e => (World.ownsRow.lt HO1.out j e).1))
            obtain ⟨ab2, cb2, hb2, -⟩ := ho2.bts
            obtain ⟨nb2, hnb2⟩ : ∃ n, n = (cur ++ [c]).length := ⟨_, rfl⟩
            rw [← hnb2] at hb2
            subst hb2
            have HN2 := Lib.hid hnb2
            have HO2 := Lib.hid ho2
            clear ho2 hg2 hnb2 HO1
            go_wp2_with (fail)
            go_roundw
            case rel => exact ⟨k + 1, nb2, cb2, ab2, cur ++ [c], by omega, by go_num, rfl, HN2.out, HO2.out, HQ2.out, HB2.out⟩
            case measure => simp [intOf] <;> omega
    · have HE : Hid (q = none) := HQQ.out.trans (HQ.out.1.done (by omega))
      go_wp2_with (fail)
      go_ret2
      exact ⟨by rw [HE.out]; rfl, HB.out⟩

set_option maxRecDepth 100000 in
set_option maxHeartbeats 4000000 in
theorem quoted_any (s : ByteArray) (at0 : Nat) (hat : at0 < s.size) (w : World) (hs : s.size ≤ 100000000) : Calls Tryd.prog 38 #[.string s, .int .i64 (at0 : Int)] w fun e w' => e = .returned (.tuple #[.string ⟨(quotT (qF (s.data.toList.drop (at0 + 1)))).toArray⟩, .int .i64 (quotN (at0 + 1) (-1) (qF (s.data.toList.drop (at0 + 1))))]) ∧ Below w.heap.size w w' := by
  obtain ⟨L, hL⟩ : ∃ l, l = s.data.toList := ⟨_, rfl⟩
  have hLs : L.length = s.size := by rw [hL]; simp
  have hLg : ∀ (i : Nat) (hi : i < s.size), s[i] = L[i]'(by omega) := by intro i hi; subst hL; rfl
  rw [← hL]
  have HLG := Lib.hid hLg
  clear hL hLg
  obtain ⟨q, hq⟩ : ∃ q, q = qF (L.drop (at0 + 1)) := ⟨_, rfl⟩
  rw [← hq]
  have HQQ := Lib.hid hq
  clear hq
  go_enter Tryd.func38, Tryd.ntmps38
  go_wp2_with (fail)
  go_loopw [6, 7] (fun bv iv wr => ∃ (k nb cb : Nat) (ab : Option Addr) (cur : List UInt8), k ≤ s.size ∧ iv = .int .i64 (k : Int) ∧ bv = .slice ab nb cb ∧ Hid (nb = cur.length) ∧ Hid (Own wr w.heap.size (.slice ab nb cb) cur) ∧ Hid (QI L (at0) k cur ∧ cur.length ≤ k) ∧ Hid (Below w.heap.size w wr)) (fun _ iv _ => s.size - (intOf iv).toNat)
  case atStart => exact ⟨at0 + 1, 0, 0, none, [], by omega, by go_num, rfl, rfl, Own.nil _ _, ⟨QI.start _ _, Nat.zero_le _⟩, Below.refl _ _⟩
  case round =>
    obtain ⟨k, nb, cb, ab, cur, hk, rfl, rfl, HN, HO, HQ, HB⟩ := hrel
    have HCL : Hid (cur.length ≤ 100000001) := by show _ ≤ _; have := HQ.out.2; omega
    have HOC : Hid (wr.ownsRow w.heap.size 5 1 (.slice ab nb cb) nb (cur.map byteV)) := by have h := HO.out; unfold Own at h; rw [← HN.out] at h; exact h
    have hnb : nb ≤ 100000001 := by rw [HN.out]; exact HCL.out
    by_cases hlt : k < s.size
    · obtain ⟨c, hc⟩ : ∃ c, s[k] = c := ⟨_, rfl⟩
      have hLc : L[k]'(by omega) = c := by rw [← HLG.out k hlt]; exact hc
      have hct := c.toNat_lt
      by_cases h34 : c = 34
      · subst h34
        have HE : Hid (q = some (cur, k + 1 - (at0 + 1))) := HQQ.out.trans (HQ.out.1.quote (by omega) hLc)
        have hst := (HO.out).bts.strB
        have HST := hst
        go_wp2_with (fail)
        go_ret2
        exact ⟨by rw [HE.out]; simp [quotT, quotN]; have := HQ.out.1.1; omega, HB.out⟩
      · have n34 : ((c.toNat : Int) == 34) = false := by
          rw [beq_eq_false_iff_ne]
          intro e
          exact h34 (UInt8.toNat_inj.1 (by show c.toNat = 34; omega))
        by_cases h2 : c.toNat < 32 ∨ 126 < c.toNat
        · have HE : Hid (q = none) := HQQ.out.trans (HQ.out.1.ctl (by omega) (by rw [hLc]; exact h34) (by rw [hLc]; exact h2))
          rcases h2 with h2 | h2
          · have h2' : (c.toNat : Int) < 32 := by omega
            go_wp2_with (fail)
            go_ret2
            exact ⟨by rw [HE.out]; rfl, HB.out⟩
          · have h2' : ¬ (c.toNat : Int) < 32 := by omega
            have h2'' : (126 : Int) < (c.toNat : Int) := by omega
            go_wp2_with (fail)
            go_ret2
            exact ⟨by rw [HE.out]; rfl, HB.out⟩
        · have h3 : ¬ (c.toNat : Int) < 32 := by omega
          have h4 : ¬ (126 : Int) < (c.toNat : Int) := by omega
          by_cases h92 : c = 92
          · subst h92
            by_cases k1 : k + 1 < s.size
            · obtain ⟨d, hd⟩ : ∃ d, s[k + 1] = d := ⟨_, rfl⟩
              have hLd : L[k + 1]'(by omega) = d := by rw [← HLG.out (k + 1) k1]; exact hd
              have k1i : (k : Int) + 1 < (s.size : Int) := by omega
              by_cases hd2 : d = 34 ∨ d = 92
              · have HQ2 : Hid (QI L (at0) (k + 2) (cur ++ [d]) ∧ (cur ++ [d]).length ≤ k + 2) := ⟨by have h := HQ.out.1.esc (by omega) hLc (by rw [hLd]; exact hd2); rw [hLd] at h; exact h, by have := HQ.out.2; rw [List.length_append]; simp; omega⟩
                rcases hd2 with rfl | rfl
                · have HO1 := Lib.hid (owns_below HO.out (new_block wr (.cells #[.int .u8 ((34 : UInt8).toNat : Int)] 5)).1 : Own _ w.heap.size (.slice ab nb cb) cur)
                  go_wp2_with (at_builtin; (refine wpList_append_bts rfl _ _ rfl w.heap.size _ cur rfl HO1.out _ [(34 : UInt8)] (wr.heap.size + 1) rfl ((Bts.lit _ wr.heap.size _ 5 (0, 0) [(34 : UInt8)] 1 1 (heap_alloc_new wr _) rfl (by omega) (by decide) (lit1 (34 : UInt8))).mono (by simp)) (by have := HCL.out; simp; omega) (by have := HB.out.size; simp; omega) ?_))
                  intro b2 w2 ho2 hg2 _
                  have HB2 := Lib.hid ((HB.out.trans ((new_block wr (.cells #[.int .u8 ((34 : UInt8).toNat : Int)] 5)).1.mono HB.out.size)).grown hg2 (Nat.le_trans HB.out.size (new_block wr _).1.size) (fun j e => (World.ownsRow.lt HO1.out j e).1))
                  obtain ⟨ab2, cb2, hb2, -⟩ := ho2.bts
                  obtain ⟨nb2, hnb2⟩ : ∃ n, n = (cur ++ [(34 : UInt8)]).length := ⟨_, rfl⟩
                  rw [← hnb2] at hb2
                  subst hb2
                  have HN2 := Lib.hid hnb2
                  have HO2 := Lib.hid ho2
                  clear ho2 hg2 hnb2 HO1
                  go_wp2_with (fail)
                  go_roundw
                  case rel => exact ⟨k + 2, nb2, cb2, ab2, cur ++ [(34 : UInt8)], by omega, by go_num, rfl, HN2.out, HO2.out, HQ2.out, HB2.out⟩
                  case measure => simp [intOf] <;> omega
                · have HO1 := Lib.hid (owns_below HO.out (new_block wr (.cells #[.int .u8 ((92 : UInt8).toNat : Int)] 5)).1 : Own _ w.heap.size (.slice ab nb cb) cur)
                  go_wp2_with (at_builtin; (refine wpList_append_bts rfl _ _ rfl w.heap.size _ cur rfl HO1.out _ [(92 : UInt8)] (wr.heap.size + 1) rfl ((Bts.lit _ wr.heap.size _ 5 (0, 0) [(92 : UInt8)] 1 1 (heap_alloc_new wr _) rfl (by omega) (by decide) (lit1 (92 : UInt8))).mono (by simp)) (by have := HCL.out; simp; omega) (by have := HB.out.size; simp; omega) ?_))
                  intro b2 w2 ho2 hg2 _
                  have HB2 := Lib.hid ((HB.out.trans ((new_block wr (.cells #[.int .u8 ((92 : UInt8).toNat : Int)] 5)).1.mono HB.out.size)).grown hg2 (Nat.le_trans HB.out.size (new_block wr _).1.size) (fun j e => (World.ownsRow.lt HO1.out j e).1))
                  obtain ⟨ab2, cb2, hb2, -⟩ := ho2.bts
                  obtain ⟨nb2, hnb2⟩ : ∃ n, n = (cur ++ [(92 : UInt8)]).length := ⟨_, rfl⟩
                  rw [← hnb2] at hb2
                  subst hb2
                  have HN2 := Lib.hid hnb2
                  have HO2 := Lib.hid ho2
                  clear ho2 hg2 hnb2 HO1
                  go_wp2_with (fail)
                  go_roundw
                  case rel => exact ⟨k + 2, nb2, cb2, ab2, cur ++ [(92 : UInt8)], by omega, by go_num, rfl, HN2.out, HO2.out, HQ2.out, HB2.out⟩
                  case measure => simp [intOf] <;> omega
              · have d34 : ((d.toNat : Int) == 34) = false := by
                  rw [beq_eq_false_iff_ne]
                  intro e
                  exact hd2 (.inl (UInt8.toNat_inj.1 (by show d.toNat = 34; omega)))
                have d92 : ((d.toNat : Int) == 92) = false := by
                  rw [beq_eq_false_iff_ne]
                  intro e
                  exact hd2 (.inr (UInt8.toNat_inj.1 (by show d.toNat = 92; omega)))
                by_cases k3 : k + 3 < s.size
                · have k3i : (k : Int) + 3 < (s.size : Int) := by omega
                  have hk2 : k + 2 < s.size := by omega
                  obtain ⟨c2, hc2⟩ : ∃ d, s[k + 2] = d := ⟨_, rfl⟩
                  obtain ⟨c3, hc3⟩ : ∃ d, s[k + 3] = d := ⟨_, rfl⟩
                  have hL2 : L[k + 2]'(by omega) = c2 := by rw [← HLG.out (k + 2) hk2]; exact hc2
                  have hL3 : L[k + 3]'(by omega) = c3 := by rw [← HLG.out (k + 3) k3]; exact hc3
                  by_cases hx : d = 120
                  · subst hx
                    by_cases g2 : 0 ≤ hexF c2
                    · by_cases g3 : 0 ≤ hexF c3
                      · obtain ⟨x2, hx2⟩ : ∃ x : Nat, hexF c2 = (x : Int) := ⟨(hexF c2).toNat, by omega⟩
                        obtain ⟨x3, hx3⟩ : ∃ x : Nat, hexF c3 = (x : Int) := ⟨(hexF c3).toNat, by omega⟩
                        have l2 : x2 < 16 := by have := hexF_lt c2; omega
                        have l3 : x3 < 16 := by have := hexF_lt c3; omega
                        obtain ⟨hx, hhx⟩ : ∃ x : UInt8, x = UInt8.ofNat (16 * x2 + x3) := ⟨_, rfl⟩
                        have HQ2 : Hid (QI L (at0) (k + 4) (cur ++ [hx]) ∧ (cur ++ [hx]).length ≤ k + 4) := ⟨by have h := HQ.out.1.hex (by omega) hLc hLd (by rw [hL2]; exact g2) (by rw [hL3]; exact g3); rw [hL2, hL3, hx2, hx3] at h; rw [hhx]; exact h, by have := HQ.out.2; rw [List.length_append]; simp; omega⟩
                        have hhn : (hx.toNat : Int) = 16 * (x2 : Int) + (x3 : Int) := by rw [hhx, UInt8.toNat_ofNat']; omega
                        clear hhx g2 g3
                        have hk2w : IntKind.i64.wrap ((k : Int) + 2) = (k : Int) + 2 := by simp only [IntKind.wrap_i64]; omega
                        have hk3w : IntKind.i64.wrap ((k : Int) + 3) = (k : Int) + 3 := by simp only [IntKind.wrap_i64]; omega
                        have hk2n : ((k : Int) + 2).toNat = k + 2 := by omega
                        have hk3n : ((k : Int) + 3).toNat = k + 3 := by omega
                        have hm2 : IntKind.i64.wrap (16 * (x2 : Int)) = 16 * (x2 : Int) := by simp only [IntKind.wrap_i64]; omega
                        have hm3 : IntKind.i64.wrap (16 * (x2 : Int) + (x3 : Int)) = 16 * (x2 : Int) + (x3 : Int) := by simp only [IntKind.wrap_i64]; omega
                        have hcv : IntKind.u8.wrap (16 * (x2 : Int) + (x3 : Int)) = (hx.toNat : Int) := by rw [hhn]; simp only [IntKind.wrap_u8]; omega
                        go_wp2_with (fail)
                        with_reducible refine (hex_any c2 _).mono ?_
                        rintro e w' ⟨rfl, rfl⟩
                        rw [hx2]
                        go_wp2_with (fail)
                        with_reducible refine (hex_any c3 _).mono ?_
                        rintro e w' ⟨rfl, rfl⟩
                        rw [hx3]
                        go_upto_region 17 with (fail)
                        refine wpIn_wide (n := 5).1 (wpIn_flowM2 (F0 := Fence.wide) (n0 := 5) (fun _ => trivial) (fun h => by cases h) (by kernel_rfl) (by kernel_rfl) 17 17 (by kernel_rfl) (fun j => ([0, 1, 2, 3, 4, 5, 6, 7, 8, 9, 10, 11, 12, 13, 14, 15, 16] : List Nat).getD j 0) (fun j => ([98, 99, 100, 101, 102, 103, 104, 105, 106, 107, 108, 109, 110, 111, 112, 113, 6] : List Nat).getD j 0) (by kernel_rfl) (by kernel_rfl) (by kernel_rfl) (by kernel_rfl) (by kernel_rfl) (by kernel_rfl) (by kernel_rfl) (fun j zv => ([(fun zv => zv = (.slice ab nb cb)), (fun zv => zv = (.string s)), (fun zv => zv = (.int .i64 (k : Int))), (fun zv => zv = (.int .i64 ((k : Int) + 2))), (fun zv => zv = (.int .u8 (c2.toNat : Int))), (fun zv => zv = (.int .i64 (x2 : Int))), (fun zv => zv = (.int .i64 (16 * (x2 : Int)))), (fun zv => zv = (.string s)), (fun zv => zv = (.int .i64 (k : Int))), (fun zv => zv = (.int .i64 ((k : Int) + 3))), (fun zv => zv = (.int .u8 (c3.toNat : Int))), (fun zv => zv = (.int .i64 (x3 : Int))), (fun zv => zv = (.int .i64 (16 * (x2 : Int) + (x3 : Int)))), (fun zv => zv = (.int .u8 (hx.toNat : Int))), (fun zv => ∃ g, zv = .slice (some ⟨g, 0, none⟩) 1 1), (fun zv => ∃ g cap, zv = .slice (some ⟨g, 0, none⟩) (nb + 1) cap), (fun zv => ∃ g cap, zv = .slice (some ⟨g, 0, none⟩) (nb + 1) cap)] : List (Value → Prop)).getD j (fun _ => True) zv) (fun d vs W => AppJ wr w.heap.size 5 1 (.slice ab nb cb) nb (cur.map byteV) (([hx] : List UInt8).map byteV) 1 (d 14) (d 15) (vs 14) (vs 15) W ∧ (d 15 = true → d 0 = true) ∧ (d 16 = true → d 15 = true ∧ vs 16 = vs 15)) ?h0z ?stepz ?finz)
                        case h0z => exact fun vs => ⟨AppJ.start _ _ _ _ HB.out.size HOC.out, (fun e => by cases e), (fun e => by cases e)⟩
                        case stepz =>
                          intro i o a W d vs hi ho hdi hJ hf hr hF hz
                          replace hi : i < 17 := hi
                          rcases (show i = 0 ∨ i = 1 ∨ i = 2 ∨ i = 3 ∨ i = 4 ∨ i = 5 ∨ i = 6 ∨ i = 7 ∨ i = 8 ∨ i = 9 ∨ i = 10 ∨ i = 11 ∨ i = 12 ∨ i = 13 ∨ i = 14 ∨ i = 15 ∨ i = 16 by omega) with rfl | rfl | rfl | rfl | rfl | rfl | rfl | rfl | rfl | rfl | rfl | rfl | rfl | rfl | rfl | rfl | rfl
                          · replace ho := op_at ho (by rfl)
                            subst ho
                            have f6 : a.tmps.getD 6 undef = (.slice ab nb cb) := hz 16 (by decide) (show d 16 = false from by cases h : d 16 with | false => rfl | true => have h1 := hJ.2.1 (hJ.2.2 h).1; rw [hdi] at h1; cases h1)
                            exact .inl ⟨(fun k b h => by cases h), .inl ⟨0, by decide, rfl, (.slice ab nb cb), W, (by simp [go_sem, Act.eval, f6]), rfl, ⟨hJ.1, fun _ => rfl, hJ.2.2⟩⟩⟩
                          · replace ho := op_at ho (by rfl)
                            subst ho
                            have f0 : a.tmps.getD 0 undef = (.string s) := hf 0 (by kernel_rfl)
                            exact .inl ⟨(fun k b h => by cases h), .inl ⟨1, by decide, rfl, (.string s), W, (by simp [go_sem, Act.eval, f0]), rfl, hJ⟩⟩
                          · replace ho := op_at ho (by rfl)
                            subst ho
                            have f7 : a.tmps.getD 7 undef = (.int .i64 (k : Int)) := hf 7 (by kernel_rfl)
                            exact .inl ⟨(fun k b h => by cases h), .inl ⟨2, by decide, rfl, (.int .i64 (k : Int)), W, (by simp [go_sem, Act.eval, f7]), rfl, hJ⟩⟩
                          · replace ho := op_at ho (by rfl)
                            subst ho
                            have d2 : a.tmps.getD 100 undef = (.int .i64 (k : Int)) := by have h1 := hF 2 (by decide) (hr 2 (by kernel_rfl)); exact h1.2.trans h1.1
                            exact .inl ⟨(fun k b h => by cases h), .inl ⟨3, by decide, rfl, (.int .i64 ((k : Int) + 2)), W, (by simp [go_sem, Act.eval, d2, hk2w]), rfl, hJ⟩⟩
                          · replace ho := op_at ho (by rfl)
                            subst ho
                            have d1 : a.tmps.getD 99 undef = (.string s) := by have h1 := hF 1 (by decide) (hr 1 (by kernel_rfl)); exact h1.2.trans h1.1
                            have d3 : a.tmps.getD 101 undef = (.int .i64 ((k : Int) + 2)) := by have h1 := hF 3 (by decide) (hr 3 (by kernel_rfl)); exact h1.2.trans h1.1
                            exact .inl ⟨(fun k b h => by cases h), .inl ⟨4, by decide, rfl, (.int .u8 (c2.toNat : Int)), W, (by simp [go_sem, Act.eval, d1, d3, hk2n, hc2]; intro h; omega), rfl, hJ⟩⟩
                          · replace ho := op_at ho (by rfl)
                            subst ho
                            have d4 : a.tmps.getD 102 undef = (.int .u8 (c2.toNat : Int)) := by have h1 := hF 4 (by decide) (hr 4 (by kernel_rfl)); exact h1.2.trans h1.1
                            refine .inl ⟨(fun k b h => by cases h), .inr (.inr ⟨5, by decide, rfl, 49, #[.int .u8 (c2.toNat : Int)], W, (by simp [go_sem, Act.eval, d4]), ?_⟩)⟩
                            exact (callsIn_wide.2 (hex_any c2 W)).mono fun e W' hh => ⟨.int .i64 (x2 : Int), hh.1.trans (by rw [hx2]), rfl, hh.2 ▸ hJ⟩
                          · replace ho := op_at ho (by rfl)
                            subst ho
                            have d5 : a.tmps.getD 103 undef = (.int .i64 (x2 : Int)) := by have h1 := hF 5 (by decide) (hr 5 (by kernel_rfl)); exact h1.2.trans h1.1
                            exact .inl ⟨(fun k b h => by cases h), .inl ⟨6, by decide, rfl, (.int .i64 (16 * (x2 : Int))), W, (exec_shl16 _ rfl x2 (by omega) (by simp only [Act.eval, d5])), rfl, hJ⟩⟩
                          · replace ho := op_at ho (by rfl)
                            subst ho
                            have f0 : a.tmps.getD 0 undef = (.string s) := hf 0 (by kernel_rfl)
                            exact .inl ⟨(fun k b h => by cases h), .inl ⟨7, by decide, rfl, (.string s), W, (by simp [go_sem, Act.eval, f0]), rfl, hJ⟩⟩
                          · replace ho := op_at ho (by rfl)
                            subst ho
                            have f7 : a.tmps.getD 7 undef = (.int .i64 (k : Int)) := hf 7 (by kernel_rfl)
                            exact .inl ⟨(fun k b h => by cases h), .inl ⟨8, by decide, rfl, (.int .i64 (k : Int)), W, (by simp [go_sem, Act.eval, f7]), rfl, hJ⟩⟩
                          · replace ho := op_at ho (by rfl)
                            subst ho
                            have d8 : a.tmps.getD 106 undef = (.int .i64 (k : Int)) := by have h1 := hF 8 (by decide) (hr 8 (by kernel_rfl)); exact h1.2.trans h1.1
                            exact .inl ⟨(fun k b h => by cases h), .inl ⟨9, by decide, rfl, (.int .i64 ((k : Int) + 3)), W, (by simp [go_sem, Act.eval, d8, hk3w]), rfl, hJ⟩⟩
                          · replace ho := op_at ho (by rfl)
                            subst ho
                            have d7 : a.tmps.getD 105 undef = (.string s) := by have h1 := hF 7 (by decide) (hr 7 (by kernel_rfl)); exact h1.2.trans h1.1
                            have d9 : a.tmps.getD 107 undef = (.int .i64 ((k : Int) + 3)) := by have h1 := hF 9 (by decide) (hr 9 (by kernel_rfl)); exact h1.2.trans h1.1
                            exact .inl ⟨(fun k b h => by cases h), .inl ⟨10, by decide, rfl, (.int .u8 (c3.toNat : Int)), W, (by simp [go_sem, Act.eval, d7, d9, hk3n, hc3]; intro h; omega), rfl, hJ⟩⟩
                          · replace ho := op_at ho (by rfl)
                            subst ho
                            have d10 : a.tmps.getD 108 undef = (.int .u8 (c3.toNat : Int)) := by have h1 := hF 10 (by decide) (hr 10 (by kernel_rfl)); exact h1.2.trans h1.1
                            refine .inl ⟨(fun k b h => by cases h), .inr (.inr ⟨11, by decide, rfl, 49, #[.int .u8 (c3.toNat : Int)], W, (by simp [go_sem, Act.eval, d10]), ?_⟩)⟩
                            exact (callsIn_wide.2 (hex_any c3 W)).mono fun e W' hh => ⟨.int .i64 (x3 : Int), hh.1.trans (by rw [hx3]), rfl, hh.2 ▸ hJ⟩
                          · replace ho := op_at ho (by rfl)
                            subst ho
                            have d6 : a.tmps.getD 104 undef = (.int .i64 (16 * (x2 : Int))) := by have h1 := hF 6 (by decide) (hr 6 (by kernel_rfl)); exact h1.2.trans h1.1
                            have d11 : a.tmps.getD 109 undef = (.int .i64 (x3 : Int)) := by have h1 := hF 11 (by decide) (hr 11 (by kernel_rfl)); exact h1.2.trans h1.1
                            exact .inl ⟨(fun k b h => by cases h), .inl ⟨12, by decide, rfl, (.int .i64 (16 * (x2 : Int) + (x3 : Int))), W, (exec_or16 _ _ rfl x2 x3 (by omega) (by omega) (by simp only [Act.eval, d6]) (by simp only [Act.eval, d11])), rfl, hJ⟩⟩
                          · replace ho := op_at ho (by rfl)
                            subst ho
                            have d12 : a.tmps.getD 110 undef = (.int .i64 (16 * (x2 : Int) + (x3 : Int))) := by have h1 := hF 12 (by decide) (hr 12 (by kernel_rfl)); exact h1.2.trans h1.1
                            exact .inl ⟨(fun k b h => by cases h), .inl ⟨13, by decide, rfl, (.int .u8 (hx.toNat : Int)), W, (by simp [go_sem, Act.eval, d12, hcv]), rfl, hJ⟩⟩
                          · replace ho := op_at ho (by rfl)
                            subst ho
                            have d13 : a.tmps.getD 111 undef = (.int .u8 (hx.toNat : Int)) := by have h1 := hF 13 (by decide) (hr 13 (by kernel_rfl)); exact h1.2.trans h1.1
                            rw [hdi] at hJ
                            exact .inl ⟨(fun k b h => by cases h), .inl ⟨14, by decide, rfl, .slice (some ⟨W.heap.size, 0, none⟩) 1 1, W.alloc (.cells (([hx] : List UInt8).map byteV).toArray 5), (exec_buildSlice _ _ _ rfl #[(0, .int .u8 (hx.toNat : Int))] (by simp only [List.map_toArray, List.map_cons, List.map_nil, Act.eval, d13]) _ _ (build_one hx W)), ⟨_, rfl⟩, ⟨hJ.1.builds rfl, hJ.2.1, hJ.2.2⟩⟩⟩
                          · replace ho := op_at ho (by rfl)
                            subst ho
                            have d0 : a.tmps.getD 98 undef = (.slice ab nb cb) := by have h1 := hF 0 (by decide) (hr 0 (by kernel_rfl)); exact h1.2.trans h1.1
                            obtain ⟨g14, e14⟩ := hF 14 (by decide) (hr 14 (by kernel_rfl))
                            replace e14 : a.tmps.getD 112 undef = vs 14 := e14
                            replace g14 : (fun zv => ∃ g, zv = .slice (some ⟨g, 0, none⟩) 1 1) (vs 14) := g14
                            have t14 : d 14 = true := hr 14 (by kernel_rfl)
                            have h1 := hJ.1
                            rw [t14, hdi] at h1
                            obtain ⟨g, hg, hgr⟩ := h1.lit rfl rfl
                            rw [hg] at e14
                            obtain ⟨i0, ji, jz0, jz1, jz2⟩ := info_parts info_u8
                            obtain ⟨gz, capz, W8, hrunz, nz, gz8, -⟩ := op_append_row 39 5 i0 _ 1 1 Tryd.underlying39 ji jz0 jz1 jz2 rfl (by decide) W w.heap.size (.slice ab nb cb) nb _ g 1 _ (h1.own0 rfl) hgr rfl (bytes_oneCell _) (by decide) (by omega) (by omega) (Nat.le_trans h1.bs h1.siz)
                            refine .inl ⟨(fun k b h => by cases h), .inl ⟨15, by decide, rfl, .slice (some ⟨gz, 0, none⟩) (nb + 1) capz, W8, hrunz a _ 98 112 d0 e14 rfl rfl, ⟨_, _, rfl⟩, ?_, fun _ => hr 0 (by kernel_rfl), fun e => ?_⟩⟩
                            · show AppJ _ _ _ _ _ _ _ _ _ (d 14) true (vs 14) _ W8
                              rw [t14]; exact h1.appends nz gz8
                            · have h2 := (hJ.2.2 e).1
                              rw [hdi] at h2; cases h2
                          · replace ho := op_at ho (by rfl)
                            subst ho
                            obtain ⟨g15, e15⟩ := hF 15 (by decide) (hr 15 (by kernel_rfl))
                            replace e15 : a.tmps.getD 113 undef = vs 15 := e15
                            replace g15 : (fun zv => ∃ g cap, zv = .slice (some ⟨g, 0, none⟩) (nb + 1) cap) (vs 15) := g15
                            obtain ⟨g9, cap9, h9⟩ := g15
                            have e8b := e15
                            rw [h9] at e8b
                            have t8 : d 15 = true := hr 15 (by kernel_rfl)
                            exact .inl ⟨(fun k b h => by cases h), .inl ⟨16, by decide, rfl, .slice (some ⟨g9, 0, none⟩) (nb + 1) cap9, W, (by simp [go_sem, Act.eval, e8b]), ⟨_, _, rfl⟩, ⟨hJ.1, hJ.2.1, fun _ => ⟨t8, h9.symm⟩⟩⟩⟩
                        case finz =>
                          intro d vs Wz hall hJ hF
                          have h0 : vs 0 = (.slice ab nb cb) := hF 0 (by decide)
                          have h1 : vs 1 = (.string s) := hF 1 (by decide)
                          have h2 : vs 2 = (.int .i64 (k : Int)) := hF 2 (by decide)
                          have h3 : vs 3 = (.int .i64 ((k : Int) + 2)) := hF 3 (by decide)
                          have h4 : vs 4 = (.int .u8 (c2.toNat : Int)) := hF 4 (by decide)
                          have h5 : vs 5 = (.int .i64 (x2 : Int)) := hF 5 (by decide)
                          have h6 : vs 6 = (.int .i64 (16 * (x2 : Int))) := hF 6 (by decide)
                          have h7 : vs 7 = (.string s) := hF 7 (by decide)
                          have h8 : vs 8 = (.int .i64 (k : Int)) := hF 8 (by decide)
                          have h9 : vs 9 = (.int .i64 ((k : Int) + 3)) := hF 9 (by decide)
                          have h10 : vs 10 = (.int .u8 (c3.toNat : Int)) := hF 10 (by decide)
                          have h11 : vs 11 = (.int .i64 (x3 : Int)) := hF 11 (by decide)
                          have h12 : vs 12 = (.int .i64 (16 * (x2 : Int) + (x3 : Int))) := hF 12 (by decide)
                          have h13 : vs 13 = (.int .u8 (hx.toNat : Int)) := hF 13 (by decide)
                          have h14 : (fun zv => ∃ g, zv = .slice (some ⟨g, 0, none⟩) 1 1) (vs 14) := hF 14 (by decide)
                          have h15 : (fun zv => ∃ g cap, zv = .slice (some ⟨g, 0, none⟩) (nb + 1) cap) (vs 15) := hF 15 (by decide)
                          have h16 : (fun zv => ∃ g cap, zv = .slice (some ⟨g, 0, none⟩) (nb + 1) cap) (vs 16) := hF 16 (by decide)
                          clear hF
                          obtain ⟨g9, cap9, hg9⟩ := h16
                          have hans := (hJ.2.2 (hall 16 (by decide))).2
                          have hown9 := hJ.1.own1 (hall 15 (by decide))
                          rw [← hans, hg9] at hown9
                          have OWN9 := Lib.hid hown9
                          have LB9 := Lib.hid hJ.1.low
                          clear hJ hall hown9 h14 h15 hans
                          show (_ : Exit → Act → World → Prop) Exit.normal (puts _ vs 17 _) Wz
                          simp only [puts, h0, h1, h2, h3, h4, h5, h6, h7, h8, h9, h10, h11, h12, h13, List.getD_cons_zero, List.getD_cons_succ]
                          clear h0 h1 h2 h3 h4 h5 h6 h7 h8 h9 h10 h11 h12 h13
                          go_simp
                          go_wp2_with (fail)
                          go_roundw
                          case rel => exact ⟨k + 4, nb + 1, cap9, some ⟨g9, 0, none⟩, cur ++ [hx], by omega, by go_num, rfl, (by rw [HN.out, List.length_append]; rfl), (by
                            have h := OWN9.out
                            unfold Own
                            rw [List.length_append, List.map_append, ← HN.out]
                            exact h), HQ2.out, (HB.out.trans LB9.out)⟩
                          case measure => simp [intOf] <;> omega
                      · have HE : Hid (q = none) := HQQ.out.trans (HQ.out.1.bad (by omega) hLc (fun _ => by rw [hLd]; exact hd2) (fun _ => by rw [hL2, hL3]; exact fun h => g3 h.2.2))
                        go_wp2_with (fail)
                        with_reducible refine (hex_any c2 _).mono ?_
                        rintro e w' ⟨rfl, rfl⟩
                        go_wp2_with (fail)
                        with_reducible refine (hex_any c3 _).mono ?_
                        rintro e w' ⟨rfl, rfl⟩
                        go_wp2_with (fail)
                        go_ret2
                        exact ⟨by rw [HE.out]; rfl, HB.out⟩
                    · have HE : Hid (q = none) := HQQ.out.trans (HQ.out.1.bad (by omega) hLc (fun _ => by rw [hLd]; exact hd2) (fun _ => by rw [hL2]; exact fun h => g2 h.2.1))
                      go_wp2_with (fail)
                      with_reducible refine (hex_any c2 _).mono ?_
                      rintro e w' ⟨rfl, rfl⟩
                      go_wp2_with (fail)
                      go_ret2
                      exact ⟨by rw [HE.out]; rfl, HB.out⟩
                  · have d120 : ((d.toNat : Int) == 120) = false := by
                      rw [beq_eq_false_iff_ne]
                      intro e
                      exact hx (UInt8.toNat_inj.1 (by show d.toNat = 120; omega))
                    have HE : Hid (q = none) := HQQ.out.trans (HQ.out.1.bad (by omega) hLc (fun _ => by rw [hLd]; exact hd2) (fun _ => by rw [hLd]; exact fun h => hx h.1))
                    go_wp2_with (fail)
                    go_ret2
                    exact ⟨by rw [HE.out]; rfl, HB.out⟩
                · have k3i : ¬ (k : Int) + 3 < (s.size : Int) := by omega
                  have HE : Hid (q = none) := HQQ.out.trans (HQ.out.1.bad (by omega) hLc (fun _ => by rw [hLd]; exact hd2) (fun h => by omega))
                  go_wp2_with (fail)
                  go_ret2
                  exact ⟨by rw [HE.out]; rfl, HB.out⟩
            · have k1i : ¬ (k : Int) + 1 < (s.size : Int) := by omega
              have k3i : ¬ (k : Int) + 3 < (s.size : Int) := by omega
              have HE : Hid (q = none) := HQQ.out.trans (HQ.out.1.bad (by omega) hLc (fun h => by omega) (fun h => by omega))
              go_wp2_with (fail)
              go_ret2
              exact ⟨by rw [HE.out]; rfl, HB.out⟩
          · have n92 : ((c.toNat : Int) == 92) = false := by
              rw [beq_eq_false_iff_ne]
              intro e
              exact h92 (UInt8.toNat_inj.1 (by show c.toNat = 92; omega))
            have HQ2 : Hid (QI L (at0) (k + 1) (cur ++ [c]) ∧ (cur ++ [c]).length ≤ k + 1) := ⟨by have h := HQ.out.1.plain (by omega) (by rw [hLc]; exact h34) (by rw [hLc]; exact h2) (by rw [hLc]; exact h92); rw [hLc] at h; exact h, by have := HQ.out.2; rw [List.length_append]; simp; omega⟩
            have HO1 := Lib.hid (owns_below HO.out (new_block wr (.cells #[.int .u8 (c.toNat : Int)] 5)).1 : Own _ w.heap.size (.slice ab nb cb) cur)
            go_wp2_with (at_builtin; (refine wpList_append_bts rfl _ _ rfl w.heap.size _ cur rfl HO1.out _ [c] (wr.heap.size + 1) rfl ((Bts.lit _ wr.heap.size _ 5 (0, 0) [c] 1 1 (heap_alloc_new wr _) rfl (by omega) (by decide) (lit1 c)).mono (by simp)) (by have := HCL.out; simp; omega) (by have := HB.out.size; simp; omega) ?_))
            intro b2 w2 ho2 hg2 _
            have HB2 := Lib.hid ((HB.out.trans ((new_block wr (.cells #[.int .u8 (c.toNat : Int)] 5)).1.mono HB.out.size)).grown hg2 (Nat.le_trans HB.out.size (new_block wr _).1.size) (fun j e => (World.ownsRow.lt HO1.out j e).1))
            obtain ⟨ab2, cb2, hb2, -⟩ := ho2.bts
            obtain ⟨nb2, hnb2⟩ : ∃ n, n = (cur ++ [c]).length := ⟨_, rfl⟩
            rw [← hnb2] at hb2
            subst hb2
            have HN2 := Lib.hid hnb2
            have HO2 := Lib.hid ho2
            clear ho2 hg2 hnb2 HO1
            go_wp2_with (fail)
            go_roundw
            case rel => exact ⟨k + 1, nb2, cb2, ab2, cur ++ [c], by omega, by go_num, rfl, HN2.out, HO2.out, HQ2.out, HB2.out⟩
            case measure => simp [intOf] <;> omega
    · have HE : Hid (q = none) := HQQ.out.trans (HQ.out.1.done (by omega))
      go_wp2_with (fail)
      go_ret2
      exact ⟨by rw [HE.out]; rfl, HB.out⟩

end Go.Proofs.YtaeoghagpeihkaaDoor

