/- Quote, both sides (by program: wip/tools/gen_squote.py). -/
import Derived.Test.YtaeoghagpeihkaaDoorSA
set_option linter.unusedSimpArgs false
set_option linter.unusedVariables false
namespace Go.Proofs.YtaeoghagpeihkaaDoor
open Go.RowKit

theorem take_succ_bytes (s : ByteArray) (k : Nat) (h : k < s.size) : s.data.toList.take (k + 1) = s.data.toList.take k ++ [s[k]] := by
  rw [List.take_succ_eq_append_getElem (by simpa using h)]; rfl
theorem lit2 (c0 c1 : UInt8) (i : Nat) (hi : i < 2) : (#[Value.int .u8 (c0.toNat : Int), .int .u8 (c1.toNat : Int)])[i]? = some (.int .u8 (([c0, c1].getD i 0).toNat : Int)) := by
  rcases (show i = 0 ∨ i = 1 by omega) with rfl | rfl <;> rfl
theorem qcF_len (c : UInt8) : (qcF c).length ≤ 4 := by unfold qcF; split <;> (try split) <;> simp
theorem qcF_sum (l : List UInt8) : (l.flatMap qcF).length ≤ 4 * l.length := by
  induction l with
  | nil => simp
  | cons c r ih => rw [List.flatMap_cons, List.length_append, List.length_cons]; have := qcF_len c; omega
theorem and15_all : ∀ c : Fin 256, bits .and .u8 ((c.1 : Nat) : Int) 15 = ((c.1 % 16 : Nat) : Int) := by decide +kernel
theorem and15 (c : UInt8) : bits .and .u8 (c.toNat : Int) 15 = ((c.toNat % 16 : Nat) : Int) := and15_all ⟨c.toNat, c.toNat_lt⟩
theorem build_hex (c2 c3 : UInt8) (W : World) : (Instr.buildSlice 39 4 #[(0, .int .u8 92), (1, .int .u8 120), (2, .int .u8 (c2.toNat : Int)), (3, .int .u8 (c3.toNat : Int))]).run Tryd.prog W = .ok (.slice (some ⟨W.heap.size, 0, none⟩) 4 4) (W.alloc (.cells (([92, 120, c2, c3] : List UInt8).map byteV).toArray 5)) := by kernel_rfl
theorem exec_hexidx {o : Oper} {a : Act} {W : World} (y : Operand) (ho : o.op = .index 9 (.const (.string ⟨#[48, 49, 50, 51, 52, 53, 54, 55, 56, 57, 97, 98, 99, 100, 101, 102]⟩)) y) (n : Nat) (hn : n < 16) (hy : a.eval y = .int .u8 (n : Int)) : (execOp a.eval o).run Tryd.prog W = .ok (.value (.int .u8 ((hexd n).toNat : Int))) W := by
  unfold execOp
  simp only [ho, hy]
  rcases (show n = 0 ∨ n = 1 ∨ n = 2 ∨ n = 3 ∨ n = 4 ∨ n = 5 ∨ n = 6 ∨ n = 7 ∨ n = 8 ∨ n = 9 ∨ n = 10 ∨ n = 11 ∨ n = 12 ∨ n = 13 ∨ n = 14 ∨ n = 15 by omega) with rfl | rfl | rfl | rfl | rfl | rfl | rfl | rfl | rfl | rfl | rfl | rfl | rfl | rfl | rfl | rfl <;> kernel_rfl

set_option maxRecDepth 100000 in
set_option maxHeartbeats 4000000 in
theorem rquote_any (s : ByteArray) (w : World) (hs : s.size ≤ 100000000) : Calls Tryd.prog 18 #[.string s] w fun e w' => e = .returned (.string ⟨(quoteF s.data.toList).toArray⟩) ∧ Below w.heap.size w w' := by
  have g0 := (new_block w (.cells #[.int .u8 34] 5)).1
  have HB0 := Lib.hid g0
  have ho0 : Own (w.alloc (.cells #[.int .u8 34] 5)) w.heap.size (.slice (some ⟨w.heap.size, 0, none⟩) 1 1) [34] :=
    ⟨rfl, .inr ⟨w.heap.size, 1, #[.int .u8 34], rfl, Nat.le_refl _, (new_block w _).2, Nat.le_refl _, by unfold maxLen; omega, rfl, rfl⟩⟩
  have HO0 := Lib.hid ho0
  clear g0 ho0
  go_enter Tryd.func18, Tryd.ntmps18
  go_wp2_with (fail)
  go_loopw [3, 4] (fun bv iv wr => ∃ (k nb cb : Nat) (ab : Option Addr), k ≤ s.size ∧ iv = .int .i64 (k : Int) ∧ bv = .slice ab nb cb ∧ Hid (nb = (34 :: (s.data.toList.take k).flatMap qcF).length ∧ Own wr w.heap.size (.slice ab nb cb) (34 :: (s.data.toList.take k).flatMap qcF)) ∧ Hid (Below w.heap.size w wr)) (fun _ iv _ => s.size - (intOf iv).toNat)
  case atStart => exact ⟨0, 1, 1, some ⟨w.heap.size, 0, none⟩, Nat.zero_le _, rfl, rfl, ⟨rfl, HO0.out⟩, HB0.out⟩
  case round =>
    obtain ⟨k, nb, cb, ab, hk, rfl, rfl, HX, HB⟩ := hrel
    obtain ⟨cur, hcur⟩ : ∃ l, l = 34 :: (s.data.toList.take k).flatMap qcF := ⟨_, rfl⟩
    rw [← hcur] at HX
    have hcl : nb ≤ 4 * k + 1 := by
      rw [HX.out.1, hcur, List.length_cons]
      have := qcF_sum (s.data.toList.take k)
      have h2 : (s.data.toList.take k).length ≤ k := List.length_take_le _ _
      omega
    have HCL : Hid (cur.length ≤ 400000001) := by show _ ≤ _; rw [← HX.out.1]; omega
    have HO := Lib.hid HX.out.2
    have HOC : Hid (wr.ownsRow w.heap.size 5 1 (.slice ab nb cb) nb (cur.map byteV)) := by have h := HX.out.2; unfold Own at h; rw [← HX.out.1] at h; exact h
    by_cases hlt : k < s.size
    · have hts := take_succ_bytes s k hlt
      obtain ⟨c, hc⟩ : ∃ c, s[k] = c := ⟨_, rfl⟩
      rw [hc] at hts
      have HTS : Hid (34 :: (s.data.toList.take (k + 1)).flatMap qcF = cur ++ qcF c) := by show _ = _; rw [hts, List.flatMap_append, hcur]; simp
      have hct := c.toNat_lt
      clear hts hcur HX
      by_cases h1 : c = 34 ∨ c = 92
      · have HQ : Hid (qcF c = [92, c]) := by show _ = _; unfold qcF; rw [if_pos h1]
        rcases h1 with rfl | rfl
        · have HO1 := Lib.hid (owns_below HO.out (new_block wr (.cells #[.int .u8 92, .int .u8 34] 5)).1 : Own _ w.heap.size (.slice ab nb cb) cur)
          go_wp2_with (at_builtin; (refine wpList_append_bts rfl _ _ rfl w.heap.size _ cur rfl HO1.out _ [92, 34] (wr.heap.size + 1) rfl ((Bts.lit _ wr.heap.size _ 5 (0, 0) [92, 34] 2 2 (heap_alloc_new wr _) rfl (by omega) (by decide) (lit2 92 34)).mono (by simp)) (by have := HCL.out; simp; omega) (by have := HB.out.size; simp; omega) ?_))
          intro b2 w2 ho2 hg2 _
          have HB2 := Lib.hid ((HB.out.trans ((new_block wr (.cells #[.int .u8 92, .int .u8 34] 5)).1.mono HB.out.size)).grown hg2 (Nat.le_trans HB.out.size (new_block wr _).1.size) (fun j e => (World.ownsRow.lt HO1.out j e).1))
          obtain ⟨ab2, cb2, hb2, -⟩ := ho2.bts
          obtain ⟨nb2, hnb2⟩ : ∃ n, n = (cur ++ [92, 34]).length := ⟨_, rfl⟩
          rw [← hnb2] at hb2
          subst hb2
          have HN2 := Lib.hid hnb2
          have HO2 := Lib.hid ho2
          clear ho2 hg2 hnb2 HO1
          go_wp2_with (fail)
          go_roundw
          case rel => exact ⟨k + 1, nb2, cb2, ab2, by omega, by go_num, rfl, (by rw [HTS.out, HQ.out]; exact ⟨HN2.out, HO2.out⟩), HB2.out⟩
          case measure => simp [intOf] <;> omega
        · have HO1 := Lib.hid (owns_below HO.out (new_block wr (.cells #[.int .u8 92, .int .u8 92] 5)).1 : Own _ w.heap.size (.slice ab nb cb) cur)
          go_wp2_with (at_builtin; (refine wpList_append_bts rfl _ _ rfl w.heap.size _ cur rfl HO1.out _ [92, 92] (wr.heap.size + 1) rfl ((Bts.lit _ wr.heap.size _ 5 (0, 0) [92, 92] 2 2 (heap_alloc_new wr _) rfl (by omega) (by decide) (lit2 92 92)).mono (by simp)) (by have := HCL.out; simp; omega) (by have := HB.out.size; simp; omega) ?_))
          intro b2 w2 ho2 hg2 _
          have HB2 := Lib.hid ((HB.out.trans ((new_block wr (.cells #[.int .u8 92, .int .u8 92] 5)).1.mono HB.out.size)).grown hg2 (Nat.le_trans HB.out.size (new_block wr _).1.size) (fun j e => (World.ownsRow.lt HO1.out j e).1))
          obtain ⟨ab2, cb2, hb2, -⟩ := ho2.bts
          obtain ⟨nb2, hnb2⟩ : ∃ n, n = (cur ++ [92, 92]).length := ⟨_, rfl⟩
          rw [← hnb2] at hb2
          subst hb2
          have HN2 := Lib.hid hnb2
          have HO2 := Lib.hid ho2
          clear ho2 hg2 hnb2 HO1
          go_wp2_with (fail)
          go_roundw
          case rel => exact ⟨k + 1, nb2, cb2, ab2, by omega, by go_num, rfl, (by rw [HTS.out, HQ.out]; exact ⟨HN2.out, HO2.out⟩), HB2.out⟩
          case measure => simp [intOf] <;> omega
      · have n34 : ((c.toNat : Int) == 34) = false := by
          rw [beq_eq_false_iff_ne]
          intro e
          exact h1 (.inl (UInt8.toNat_inj.1 (by show c.toNat = 34; omega)))
        have n92 : ((c.toNat : Int) == 92) = false := by
          rw [beq_eq_false_iff_ne]
          intro e
          exact h1 (.inr (UInt8.toNat_inj.1 (by show c.toNat = 92; omega)))
        by_cases h2 : c.toNat < 32 ∨ 126 < c.toNat
        · have HQ : Hid (qcF c = [92, 120, hexd (c.toNat / 16), hexd (c.toNat % 16)]) := by show _ = _; unfold qcF; rw [if_neg h1, if_pos h2]
          obtain ⟨q, hq⟩ : ∃ q, q = c.toNat / 16 := ⟨_, rfl⟩
          obtain ⟨r, hr⟩ : ∃ r, r = c.toNat % 16 := ⟨_, rfl⟩
          have hquo : (c.toNat : Int) / 16 = (q : Int) := by omega
          have hrem : (c.toNat : Int) % 16 = (r : Int) := by omega
          have htm : (c.toNat : Int).tmod 16 = (r : Int) := by rw [Int.tmod_eq_emod_of_nonneg (by omega)]; exact hrem
          have hwq : IntKind.u8.wrap (q : Int) = (q : Int) := by simp only [IntKind.wrap_u8]; omega
          have hwr : IntKind.u8.wrap (r : Int) = (r : Int) := by simp only [IntKind.wrap_u8]; omega
          have hand := and15 c
          rw [← hr] at hand
          rw [← hq, ← hr] at HQ
          have hq16 : q < 16 := by omega
          have hr16 : r < 16 := by omega
          clear hq hr
          rcases h2 with h2 | h2
          · have h2' : (c.toNat : Int) < 32 := by omega
            go_upto_region 10 with (fail)
            refine wpIn_wide (n := 5).1 (wpIn_flowM2 (F0 := Fence.wide) (n0 := 5) (fun _ => trivial) (fun h => by cases h) (by kernel_rfl) (by kernel_rfl) 10 10 (by kernel_rfl) (fun j => ([0, 1, 2, 3, 4, 5, 6, 7, 8, 9] : List Nat).getD j 0) (fun j => ([38, 39, 40, 41, 42, 43, 44, 45, 46, 3] : List Nat).getD j 0) (by kernel_rfl) (by kernel_rfl) (by kernel_rfl) (by kernel_rfl) (by kernel_rfl) (by kernel_rfl) (by kernel_rfl) (fun j zv => ([(fun zv => zv = (.slice ab nb cb)), (fun zv => zv = (.int .u8 (c.toNat : Int))), (fun zv => zv = (.int .u8 (q : Int))), (fun zv => zv = (.int .u8 ((hexd q).toNat : Int))), (fun zv => zv = (.int .u8 (c.toNat : Int))), (fun zv => zv = (.int .u8 (r : Int))), (fun zv => zv = (.int .u8 ((hexd r).toNat : Int))), (fun zv => ∃ g, zv = .slice (some ⟨g, 0, none⟩) 4 4), (fun zv => ∃ g cap, zv = .slice (some ⟨g, 0, none⟩) (nb + 4) cap), (fun zv => ∃ g cap, zv = .slice (some ⟨g, 0, none⟩) (nb + 4) cap)] : List (Value → Prop)).getD j (fun _ => True) zv) (fun d vs W => AppJ wr w.heap.size 5 1 (.slice ab nb cb) nb (cur.map byteV) (([92, 120, hexd q, hexd r] : List UInt8).map byteV) 4 (d 7) (d 8) (vs 7) (vs 8) W ∧ (d 8 = true → d 0 = true) ∧ (d 9 = true → d 8 = true ∧ vs 9 = vs 8)) ?h0z ?stepz ?finz)
            case h0z => exact fun vs => ⟨AppJ.start _ _ _ _ HB.out.size HOC.out, (fun e => by cases e), (fun e => by cases e)⟩
            case stepz =>
              intro i o a W d vs hi ho hdi hJ hf hr hF hz
              replace hi : i < 10 := hi
              rcases (show i = 0 ∨ i = 1 ∨ i = 2 ∨ i = 3 ∨ i = 4 ∨ i = 5 ∨ i = 6 ∨ i = 7 ∨ i = 8 ∨ i = 9 by omega) with rfl | rfl | rfl | rfl | rfl | rfl | rfl | rfl | rfl | rfl
              · replace ho := op_at ho (by rfl)
                subst ho
                have f3 : a.tmps.getD 3 undef = (.slice ab nb cb) := hz 9 (by decide) (show d 9 = false from by cases h : d 9 with | false => rfl | true => have h1 := hJ.2.1 (hJ.2.2 h).1; rw [hdi] at h1; cases h1)
                exact .inl ⟨(fun k b h => by cases h), .inl ⟨0, by decide, rfl, (.slice ab nb cb), W, (by simp [go_sem, Act.eval, f3]), rfl, ⟨hJ.1, fun _ => rfl, hJ.2.2⟩⟩⟩
              · replace ho := op_at ho (by rfl)
                subst ho
                have f5 : a.tmps.getD 5 undef = (.int .u8 (c.toNat : Int)) := hf 5 (by kernel_rfl)
                exact .inl ⟨(fun k b h => by cases h), .inl ⟨1, by decide, rfl, (.int .u8 (c.toNat : Int)), W, (by simp [go_sem, Act.eval, f5]), rfl, hJ⟩⟩
              · replace ho := op_at ho (by rfl)
                subst ho
                have d1 : a.tmps.getD 39 undef = (.int .u8 (c.toNat : Int)) := by have h1 := hF 1 (by decide) (hr 1 (by kernel_rfl)); exact h1.2.trans h1.1
                exact .inl ⟨(fun k b h => by cases h), .inl ⟨2, by decide, rfl, (.int .u8 (q : Int)), W, (by simp [go_sem, Act.eval, d1, hquo, hwq]), rfl, hJ⟩⟩
              · replace ho := op_at ho (by rfl)
                subst ho
                have d2 : a.tmps.getD 40 undef = (.int .u8 (q : Int)) := by have h1 := hF 2 (by decide) (hr 2 (by kernel_rfl)); exact h1.2.trans h1.1
                exact .inl ⟨(fun k b h => by cases h), .inl ⟨3, by decide, rfl, (.int .u8 ((hexd q).toNat : Int)), W, (exec_hexidx _ rfl _ (by omega) (by simp only [Act.eval, d2])), rfl, hJ⟩⟩
              · replace ho := op_at ho (by rfl)
                subst ho
                have f5 : a.tmps.getD 5 undef = (.int .u8 (c.toNat : Int)) := hf 5 (by kernel_rfl)
                exact .inl ⟨(fun k b h => by cases h), .inl ⟨4, by decide, rfl, (.int .u8 (c.toNat : Int)), W, (by simp [go_sem, Act.eval, f5]), rfl, hJ⟩⟩
              · replace ho := op_at ho (by rfl)
                subst ho
                have d4 : a.tmps.getD 42 undef = (.int .u8 (c.toNat : Int)) := by have h1 := hF 4 (by decide) (hr 4 (by kernel_rfl)); exact h1.2.trans h1.1
                exact .inl ⟨(fun k b h => by cases h), .inl ⟨5, by decide, rfl, (.int .u8 (r : Int)), W, (by simp [go_sem, Act.eval, d4, htm, hwr]), rfl, hJ⟩⟩
              · replace ho := op_at ho (by rfl)
                subst ho
                have d5 : a.tmps.getD 43 undef = (.int .u8 (r : Int)) := by have h1 := hF 5 (by decide) (hr 5 (by kernel_rfl)); exact h1.2.trans h1.1
                exact .inl ⟨(fun k b h => by cases h), .inl ⟨6, by decide, rfl, (.int .u8 ((hexd r).toNat : Int)), W, (exec_hexidx _ rfl _ (by omega) (by simp only [Act.eval, d5])), rfl, hJ⟩⟩
              · replace ho := op_at ho (by rfl)
                subst ho
                have d3 : a.tmps.getD 41 undef = (.int .u8 ((hexd q).toNat : Int)) := by have h1 := hF 3 (by decide) (hr 3 (by kernel_rfl)); exact h1.2.trans h1.1
                have d6 : a.tmps.getD 44 undef = (.int .u8 ((hexd r).toNat : Int)) := by have h1 := hF 6 (by decide) (hr 6 (by kernel_rfl)); exact h1.2.trans h1.1
                rw [hdi] at hJ
                exact .inl ⟨(fun k b h => by cases h), .inl ⟨7, by decide, rfl, .slice (some ⟨W.heap.size, 0, none⟩) 4 4, W.alloc (.cells (([92, 120, hexd q, hexd r] : List UInt8).map byteV).toArray 5), (exec_buildSlice _ _ _ rfl #[(0, .int .u8 92), (1, .int .u8 120), (2, .int .u8 ((hexd q).toNat : Int)), (3, .int .u8 ((hexd r).toNat : Int))] (by simp only [List.map_toArray, List.map_cons, List.map_nil, Act.eval, d3, d6]) _ _ (build_hex (hexd q) (hexd r) W)), ⟨_, rfl⟩, ⟨hJ.1.builds rfl, hJ.2⟩⟩⟩
              · replace ho := op_at ho (by rfl)
                subst ho
                have d0 : a.tmps.getD 38 undef = (.slice ab nb cb) := by have h1 := hF 0 (by decide) (hr 0 (by kernel_rfl)); exact h1.2.trans h1.1
                obtain ⟨g7, e7⟩ := hF 7 (by decide) (hr 7 (by kernel_rfl))
                replace e7 : a.tmps.getD 45 undef = vs 7 := e7
                replace g7 : (fun zv => ∃ g, zv = .slice (some ⟨g, 0, none⟩) 4 4) (vs 7) := g7
                have t7 : d 7 = true := hr 7 (by kernel_rfl)
                have h1 := hJ.1
                rw [t7, hdi] at h1
                obtain ⟨g, hg, hgr⟩ := h1.lit rfl rfl
                rw [hg] at e7
                obtain ⟨i0, ji, jz0, jz1, jz2⟩ := info_parts info_u8
                obtain ⟨gz, capz, W8, hrunz, nz, gz8, -⟩ := op_append_row 39 5 i0 _ 1 1 Tryd.underlying39 ji jz0 jz1 jz2 rfl (by decide) W w.heap.size (.slice ab nb cb) nb _ g 4 _ (h1.own0 rfl) hgr rfl (bytes_oneCell _) (by decide) (by omega) (by omega) (Nat.le_trans h1.bs h1.siz)
                refine .inl ⟨(fun k b h => by cases h), .inl ⟨8, by decide, rfl, .slice (some ⟨gz, 0, none⟩) (nb + 4) capz, W8, hrunz a _ 38 45 d0 e7 rfl rfl, ⟨_, _, rfl⟩, ?_, fun _ => hr 0 (by kernel_rfl), fun e => ?_⟩⟩
                · show AppJ _ _ _ _ _ _ _ _ _ (d 7) true (vs 7) _ W8
                  rw [t7]; exact h1.appends nz gz8
                · have h2 := (hJ.2.2 e).1
                  rw [hdi] at h2; cases h2
              · replace ho := op_at ho (by rfl)
                subst ho
                obtain ⟨g8, e8⟩ := hF 8 (by decide) (hr 8 (by kernel_rfl))
                replace e8 : a.tmps.getD 46 undef = vs 8 := e8
                replace g8 : (fun zv => ∃ g cap, zv = .slice (some ⟨g, 0, none⟩) (nb + 4) cap) (vs 8) := g8
                obtain ⟨g9, cap9, h9⟩ := g8
                have e8b := e8
                rw [h9] at e8b
                have t8 : d 8 = true := hr 8 (by kernel_rfl)
                exact .inl ⟨(fun k b h => by cases h), .inl ⟨9, by decide, rfl, .slice (some ⟨g9, 0, none⟩) (nb + 4) cap9, W, (by simp [go_sem, Act.eval, e8b]), ⟨_, _, rfl⟩, ⟨hJ.1, hJ.2.1, fun _ => ⟨t8, h9.symm⟩⟩⟩⟩
            case finz =>
              intro d vs Wz hall hJ hF
              have h0 : vs 0 = (.slice ab nb cb) := hF 0 (by decide)
              have h1 : vs 1 = (.int .u8 (c.toNat : Int)) := hF 1 (by decide)
              have h2 : vs 2 = (.int .u8 (q : Int)) := hF 2 (by decide)
              have h3 : vs 3 = (.int .u8 ((hexd q).toNat : Int)) := hF 3 (by decide)
              have h4 : vs 4 = (.int .u8 (c.toNat : Int)) := hF 4 (by decide)
              have h5 : vs 5 = (.int .u8 (r : Int)) := hF 5 (by decide)
              have h6 : vs 6 = (.int .u8 ((hexd r).toNat : Int)) := hF 6 (by decide)
              have h7 : (fun zv => ∃ g, zv = .slice (some ⟨g, 0, none⟩) 4 4) (vs 7) := hF 7 (by decide)
              have h8 : (fun zv => ∃ g cap, zv = .slice (some ⟨g, 0, none⟩) (nb + 4) cap) (vs 8) := hF 8 (by decide)
              have h9 : (fun zv => ∃ g cap, zv = .slice (some ⟨g, 0, none⟩) (nb + 4) cap) (vs 9) := hF 9 (by decide)
              clear hF
              obtain ⟨g9, cap9, hg9⟩ := h9
              have hans := (hJ.2.2 (hall 9 (by decide))).2
              have hown9 := hJ.1.own1 (hall 8 (by decide))
              rw [← hans, hg9] at hown9
              have OWN9 := Lib.hid hown9
              have LB9 := Lib.hid hJ.1.low
              clear hJ hall hown9 h7 h8 hans
              have hg9' := hg9
              clear hg9'
              show (_ : Exit → Act → World → Prop) Exit.normal (puts _ vs 10 _) Wz
              simp only [puts, h0, h1, h2, h3, h4, h5, h6, List.getD_cons_zero, List.getD_cons_succ]
              clear h0 h1 h2 h3 h4 h5 h6
              go_simp
              go_wp2_with (fail)
              go_roundw
              case rel => exact ⟨k + 1, nb + 4, cap9, some ⟨g9, 0, none⟩, by omega, by go_num, rfl, (by
                rw [HTS.out, HQ.out]
                have h := OWN9.out
                have hn : nb = cur.length := by have := HOC.out.1; simpa using this.symm
                refine ⟨by rw [List.length_append]; simp [hn], ?_⟩
                unfold Own
                rw [List.length_append, List.map_append]
                rw [hn] at h ⊢
                exact h), (HB.out.trans (LB9.out.mono (Nat.le_refl _)))⟩
              case measure => simp [intOf] <;> omega
          · have h2' : ¬ (c.toNat : Int) < 32 := by omega
            have h2'' : (126 : Int) < (c.toNat : Int) := by omega
            go_upto_region 10 with (fail)
            refine wpIn_wide (n := 5).1 (wpIn_flowM2 (F0 := Fence.wide) (n0 := 5) (fun _ => trivial) (fun h => by cases h) (by kernel_rfl) (by kernel_rfl) 10 10 (by kernel_rfl) (fun j => ([0, 1, 2, 3, 4, 5, 6, 7, 8, 9] : List Nat).getD j 0) (fun j => ([38, 39, 40, 41, 42, 43, 44, 45, 46, 3] : List Nat).getD j 0) (by kernel_rfl) (by kernel_rfl) (by kernel_rfl) (by kernel_rfl) (by kernel_rfl) (by kernel_rfl) (by kernel_rfl) (fun j zv => ([(fun zv => zv = (.slice ab nb cb)), (fun zv => zv = (.int .u8 (c.toNat : Int))), (fun zv => zv = (.int .u8 (q : Int))), (fun zv => zv = (.int .u8 ((hexd q).toNat : Int))), (fun zv => zv = (.int .u8 (c.toNat : Int))), (fun zv => zv = (.int .u8 (r : Int))), (fun zv => zv = (.int .u8 ((hexd r).toNat : Int))), (fun zv => ∃ g, zv = .slice (some ⟨g, 0, none⟩) 4 4), (fun zv => ∃ g cap, zv = .slice (some ⟨g, 0, none⟩) (nb + 4) cap), (fun zv => ∃ g cap, zv = .slice (some ⟨g, 0, none⟩) (nb + 4) cap)] : List (Value → Prop)).getD j (fun _ => True) zv) (fun d vs W => AppJ wr w.heap.size 5 1 (.slice ab nb cb) nb (cur.map byteV) (([92, 120, hexd q, hexd r] : List UInt8).map byteV) 4 (d 7) (d 8) (vs 7) (vs 8) W ∧ (d 8 = true → d 0 = true) ∧ (d 9 = true → d 8 = true ∧ vs 9 = vs 8)) ?h0z ?stepz ?finz)
            case h0z => exact fun vs => ⟨AppJ.start _ _ _ _ HB.out.size HOC.out, (fun e => by cases e), (fun e => by cases e)⟩
            case stepz =>
              intro i o a W d vs hi ho hdi hJ hf hr hF hz
              replace hi : i < 10 := hi
              rcases (show i = 0 ∨ i = 1 ∨ i = 2 ∨ i = 3 ∨ i = 4 ∨ i = 5 ∨ i = 6 ∨ i = 7 ∨ i = 8 ∨ i = 9 by omega) with rfl | rfl | rfl | rfl | rfl | rfl | rfl | rfl | rfl | rfl
              · replace ho := op_at ho (by rfl)
                subst ho
                have f3 : a.tmps.getD 3 undef = (.slice ab nb cb) := hz 9 (by decide) (show d 9 = false from by cases h : d 9 with | false => rfl | true => have h1 := hJ.2.1 (hJ.2.2 h).1; rw [hdi] at h1; cases h1)
                exact .inl ⟨(fun k b h => by cases h), .inl ⟨0, by decide, rfl, (.slice ab nb cb), W, (by simp [go_sem, Act.eval, f3]), rfl, ⟨hJ.1, fun _ => rfl, hJ.2.2⟩⟩⟩
              · replace ho := op_at ho (by rfl)
                subst ho
                have f5 : a.tmps.getD 5 undef = (.int .u8 (c.toNat : Int)) := hf 5 (by kernel_rfl)
                exact .inl ⟨(fun k b h => by cases h), .inl ⟨1, by decide, rfl, (.int .u8 (c.toNat : Int)), W, (by simp [go_sem, Act.eval, f5]), rfl, hJ⟩⟩
              · replace ho := op_at ho (by rfl)
                subst ho
                have d1 : a.tmps.getD 39 undef = (.int .u8 (c.toNat : Int)) := by have h1 := hF 1 (by decide) (hr 1 (by kernel_rfl)); exact h1.2.trans h1.1
                exact .inl ⟨(fun k b h => by cases h), .inl ⟨2, by decide, rfl, (.int .u8 (q : Int)), W, (by simp [go_sem, Act.eval, d1, hquo, hwq]), rfl, hJ⟩⟩
              · replace ho := op_at ho (by rfl)
                subst ho
                have d2 : a.tmps.getD 40 undef = (.int .u8 (q : Int)) := by have h1 := hF 2 (by decide) (hr 2 (by kernel_rfl)); exact h1.2.trans h1.1
                exact .inl ⟨(fun k b h => by cases h), .inl ⟨3, by decide, rfl, (.int .u8 ((hexd q).toNat : Int)), W, (exec_hexidx _ rfl _ (by omega) (by simp only [Act.eval, d2])), rfl, hJ⟩⟩
              · replace ho := op_at ho (by rfl)
                subst ho
                have f5 : a.tmps.getD 5 undef = (.int .u8 (c.toNat : Int)) := hf 5 (by kernel_rfl)
                exact .inl ⟨(fun k b h => by cases h), .inl ⟨4, by decide, rfl, (.int .u8 (c.toNat : Int)), W, (by simp [go_sem, Act.eval, f5]), rfl, hJ⟩⟩
              · replace ho := op_at ho (by rfl)
                subst ho
                have d4 : a.tmps.getD 42 undef = (.int .u8 (c.toNat : Int)) := by have h1 := hF 4 (by decide) (hr 4 (by kernel_rfl)); exact h1.2.trans h1.1
                exact .inl ⟨(fun k b h => by cases h), .inl ⟨5, by decide, rfl, (.int .u8 (r : Int)), W, (by simp [go_sem, Act.eval, d4, htm, hwr]), rfl, hJ⟩⟩
              · replace ho := op_at ho (by rfl)
                subst ho
                have d5 : a.tmps.getD 43 undef = (.int .u8 (r : Int)) := by have h1 := hF 5 (by decide) (hr 5 (by kernel_rfl)); exact h1.2.trans h1.1
                exact .inl ⟨(fun k b h => by cases h), .inl ⟨6, by decide, rfl, (.int .u8 ((hexd r).toNat : Int)), W, (exec_hexidx _ rfl _ (by omega) (by simp only [Act.eval, d5])), rfl, hJ⟩⟩
              · replace ho := op_at ho (by rfl)
                subst ho
                have d3 : a.tmps.getD 41 undef = (.int .u8 ((hexd q).toNat : Int)) := by have h1 := hF 3 (by decide) (hr 3 (by kernel_rfl)); exact h1.2.trans h1.1
                have d6 : a.tmps.getD 44 undef = (.int .u8 ((hexd r).toNat : Int)) := by have h1 := hF 6 (by decide) (hr 6 (by kernel_rfl)); exact h1.2.trans h1.1
                rw [hdi] at hJ
                exact .inl ⟨(fun k b h => by cases h), .inl ⟨7, by decide, rfl, .slice (some ⟨W.heap.size, 0, none⟩) 4 4, W.alloc (.cells (([92, 120, hexd q, hexd r] : List UInt8).map byteV).toArray 5), (exec_buildSlice _ _ _ rfl #[(0, .int .u8 92), (1, .int .u8 120), (2, .int .u8 ((hexd q).toNat : Int)), (3, .int .u8 ((hexd r).toNat : Int))] (by simp only [List.map_toArray, List.map_cons, List.map_nil, Act.eval, d3, d6]) _ _ (build_hex (hexd q) (hexd r) W)), ⟨_, rfl⟩, ⟨hJ.1.builds rfl, hJ.2⟩⟩⟩
              · replace ho := op_at ho (by rfl)
                subst ho
                have d0 : a.tmps.getD 38 undef = (.slice ab nb cb) := by have h1 := hF 0 (by decide) (hr 0 (by kernel_rfl)); exact h1.2.trans h1.1
                obtain ⟨g7, e7⟩ := hF 7 (by decide) (hr 7 (by kernel_rfl))
                replace e7 : a.tmps.getD 45 undef = vs 7 := e7
                replace g7 : (fun zv => ∃ g, zv = .slice (some ⟨g, 0, none⟩) 4 4) (vs 7) := g7
                have t7 : d 7 = true := hr 7 (by kernel_rfl)
                have h1 := hJ.1
                rw [t7, hdi] at h1
                obtain ⟨g, hg, hgr⟩ := h1.lit rfl rfl
                rw [hg] at e7
                obtain ⟨i0, ji, jz0, jz1, jz2⟩ := info_parts info_u8
                obtain ⟨gz, capz, W8, hrunz, nz, gz8, -⟩ := op_append_row 39 5 i0 _ 1 1 Tryd.underlying39 ji jz0 jz1 jz2 rfl (by decide) W w.heap.size (.slice ab nb cb) nb _ g 4 _ (h1.own0 rfl) hgr rfl (bytes_oneCell _) (by decide) (by omega) (by omega) (Nat.le_trans h1.bs h1.siz)
                refine .inl ⟨(fun k b h => by cases h), .inl ⟨8, by decide, rfl, .slice (some ⟨gz, 0, none⟩) (nb + 4) capz, W8, hrunz a _ 38 45 d0 e7 rfl rfl, ⟨_, _, rfl⟩, ?_, fun _ => hr 0 (by kernel_rfl), fun e => ?_⟩⟩
                · show AppJ _ _ _ _ _ _ _ _ _ (d 7) true (vs 7) _ W8
                  rw [t7]; exact h1.appends nz gz8
                · have h2 := (hJ.2.2 e).1
                  rw [hdi] at h2; cases h2
              · replace ho := op_at ho (by rfl)
                subst ho
                obtain ⟨g8, e8⟩ := hF 8 (by decide) (hr 8 (by kernel_rfl))
                replace e8 : a.tmps.getD 46 undef = vs 8 := e8
                replace g8 : (fun zv => ∃ g cap, zv = .slice (some ⟨g, 0, none⟩) (nb + 4) cap) (vs 8) := g8
                obtain ⟨g9, cap9, h9⟩ := g8
                have e8b := e8
                rw [h9] at e8b
                have t8 : d 8 = true := hr 8 (by kernel_rfl)
                exact .inl ⟨(fun k b h => by cases h), .inl ⟨9, by decide, rfl, .slice (some ⟨g9, 0, none⟩) (nb + 4) cap9, W, (by simp [go_sem, Act.eval, e8b]), ⟨_, _, rfl⟩, ⟨hJ.1, hJ.2.1, fun _ => ⟨t8, h9.symm⟩⟩⟩⟩
            case finz =>
              intro d vs Wz hall hJ hF
              have h0 : vs 0 = (.slice ab nb cb) := hF 0 (by decide)
              have h1 : vs 1 = (.int .u8 (c.toNat : Int)) := hF 1 (by decide)
              have h2 : vs 2 = (.int .u8 (q : Int)) := hF 2 (by decide)
              have h3 : vs 3 = (.int .u8 ((hexd q).toNat : Int)) := hF 3 (by decide)
              have h4 : vs 4 = (.int .u8 (c.toNat : Int)) := hF 4 (by decide)
              have h5 : vs 5 = (.int .u8 (r : Int)) := hF 5 (by decide)
              have h6 : vs 6 = (.int .u8 ((hexd r).toNat : Int)) := hF 6 (by decide)
              have h7 : (fun zv => ∃ g, zv = .slice (some ⟨g, 0, none⟩) 4 4) (vs 7) := hF 7 (by decide)
              have h8 : (fun zv => ∃ g cap, zv = .slice (some ⟨g, 0, none⟩) (nb + 4) cap) (vs 8) := hF 8 (by decide)
              have h9 : (fun zv => ∃ g cap, zv = .slice (some ⟨g, 0, none⟩) (nb + 4) cap) (vs 9) := hF 9 (by decide)
              clear hF
              obtain ⟨g9, cap9, hg9⟩ := h9
              have hans := (hJ.2.2 (hall 9 (by decide))).2
              have hown9 := hJ.1.own1 (hall 8 (by decide))
              rw [← hans, hg9] at hown9
              have OWN9 := Lib.hid hown9
              have LB9 := Lib.hid hJ.1.low
              clear hJ hall hown9 h7 h8 hans
              have hg9' := hg9
              clear hg9'
              show (_ : Exit → Act → World → Prop) Exit.normal (puts _ vs 10 _) Wz
              simp only [puts, h0, h1, h2, h3, h4, h5, h6, List.getD_cons_zero, List.getD_cons_succ]
              clear h0 h1 h2 h3 h4 h5 h6
              go_simp
              go_wp2_with (fail)
              go_roundw
              case rel => exact ⟨k + 1, nb + 4, cap9, some ⟨g9, 0, none⟩, by omega, by go_num, rfl, (by
                rw [HTS.out, HQ.out]
                have h := OWN9.out
                have hn : nb = cur.length := by have := HOC.out.1; simpa using this.symm
                refine ⟨by rw [List.length_append]; simp [hn], ?_⟩
                unfold Own
                rw [List.length_append, List.map_append]
                rw [hn] at h ⊢
                exact h), (HB.out.trans (LB9.out.mono (Nat.le_refl _)))⟩
              case measure => simp [intOf] <;> omega
        · have HQ : Hid (qcF c = [c]) := by show _ = _; unfold qcF; rw [if_neg h1, if_neg h2]
          have h3 : ¬ (c.toNat : Int) < 32 := by omega
          have h4 : ¬ (126 : Int) < (c.toNat : Int) := by omega
          have HO1 := Lib.hid (owns_below HO.out (new_block wr (.cells #[.int .u8 (c.toNat : Int)] 5)).1 : Own _ w.heap.size (.slice ab nb cb) cur)
          go_wp2_with (at_builtin; (refine wpList_append_bts rfl _ _ rfl w.heap.size _ cur rfl HO1.out _ [c] (wr.heap.size + 1) rfl ((Bts.lit _ wr.heap.size _ 5 (0, 0) [c] 1 1 (heap_alloc_new wr _) rfl (by omega) (by decide) (lit1 c)).mono (by simp)) (by have := HCL.out; simp; omega) (by have := HB.out.size; simp; omega) ?_))
          intro b2 w2 ho2 hg2 _
          have HB2 := Lib.hid ((HB.out.trans ((new_block wr (.cells #[.int .u8 (c.toNat : Int)] 5)).1.mono HB.out.size)).grown hg2 (Nat.le_trans HB.out.size (new_block wr _).1.size) (fun j e => (World.ownsRow.lt HO1.out j e).1))
          obtain ⟨ab2, cb2, hb2, -⟩ := ho2.bts
          obtain ⟨nb2, hnb2⟩ : ∃ n, n = (cur ++ [c]).length := ⟨_, rfl⟩
          rw [← hnb2] at hb2
          subst hb2
          have HN2 := Lib.hid hnb2
          have HO2 := Lib.hid ho2
          clear ho2 hg2 hnb2 HO1
          go_wp2_with (fail)
          go_roundw
          case rel => exact ⟨k + 1, nb2, cb2, ab2, by omega, by go_num, rfl, (by rw [HTS.out, HQ.out]; exact ⟨HN2.out, HO2.out⟩), HB2.out⟩
          case measure => simp [intOf] <;> omega
    · have hke : k = s.size := by omega
      have HQF : Hid (quoteF s.data.toList = cur ++ [34]) := by show _ = _; rw [hcur, hke, List.take_of_length_le (by simp)]; rfl
      have HO1 := Lib.hid (owns_below HO.out (new_block wr (.cells #[.int .u8 34] 5)).1 : Own _ w.heap.size (.slice ab nb cb) cur)
      clear hcur HX hke
      go_wp2_with (at_builtin; (refine wpList_append_bts rfl _ _ rfl w.heap.size _ cur rfl HO1.out _ [34] (wr.heap.size + 1) rfl ((Bts.lit _ wr.heap.size _ 5 (0, 0) [34] 1 1 (heap_alloc_new wr _) rfl (by omega) (by decide) (lit1 34)).mono (by simp)) (by have := HCL.out; simp; omega) (by have := HB.out.size; simp; omega) ?_))
      intro b2 w2 ho2 hg2 _
      have HB2 := Lib.hid ((HB.out.trans ((new_block wr (.cells #[.int .u8 34] 5)).1.mono HB.out.size)).grown hg2 (Nat.le_trans HB.out.size (new_block wr _).1.size) (fun j e => (World.ownsRow.lt HO1.out j e).1))
      have hst := ho2.bts.strB
      rw [← HQF.out] at hst
      clear ho2 hg2 HO1
      go_wp2_with (fail)
      go_ret
      exact ⟨rfl, HB2.out⟩

set_option maxRecDepth 100000 in
set_option maxHeartbeats 4000000 in
theorem quote_any (s : ByteArray) (w : World) (hs : s.size ≤ 100000000) : Calls Tryd.prog 17 #[.string s] w fun e w' => e = .returned (.string ⟨(quoteF s.data.toList).toArray⟩) ∧ Below w.heap.size w w' := by
  have g0 := (new_block w (.cells #[.int .u8 34] 5)).1
  have HB0 := Lib.hid g0
  have ho0 : Own (w.alloc (.cells #[.int .u8 34] 5)) w.heap.size (.slice (some ⟨w.heap.size, 0, none⟩) 1 1) [34] :=
    ⟨rfl, .inr ⟨w.heap.size, 1, #[.int .u8 34], rfl, Nat.le_refl _, (new_block w _).2, Nat.le_refl _, by unfold maxLen; omega, rfl, rfl⟩⟩
  have HO0 := Lib.hid ho0
  clear g0 ho0
  go_enter Tryd.func17, Tryd.ntmps17
  go_wp2_with (fail)
  go_loopw [3, 9] (fun bv iv wr => ∃ (k nb cb : Nat) (ab : Option Addr), k ≤ s.size ∧ iv = .int .i64 (k : Int) ∧ bv = .slice ab nb cb ∧ Hid (nb = (34 :: (s.data.toList.take k).flatMap qcF).length ∧ Own wr w.heap.size (.slice ab nb cb) (34 :: (s.data.toList.take k).flatMap qcF)) ∧ Hid (Below w.heap.size w wr)) (fun _ iv _ => s.size - (intOf iv).toNat)
  case atStart => exact ⟨0, 1, 1, some ⟨w.heap.size, 0, none⟩, Nat.zero_le _, rfl, rfl, ⟨rfl, HO0.out⟩, HB0.out⟩
  case round =>
    obtain ⟨k, nb, cb, ab, hk, rfl, rfl, HX, HB⟩ := hrel
    obtain ⟨cur, hcur⟩ : ∃ l, l = 34 :: (s.data.toList.take k).flatMap qcF := ⟨_, rfl⟩
    rw [← hcur] at HX
    have hcl : nb ≤ 4 * k + 1 := by
      rw [HX.out.1, hcur, List.length_cons]
      have := qcF_sum (s.data.toList.take k)
      have h2 : (s.data.toList.take k).length ≤ k := List.length_take_le _ _
      omega
    have HCL : Hid (cur.length ≤ 400000001) := by show _ ≤ _; rw [← HX.out.1]; omega
    have HO := Lib.hid HX.out.2
    have HOC : Hid (wr.ownsRow w.heap.size 5 1 (.slice ab nb cb) nb (cur.map byteV)) := by have h := HX.out.2; unfold Own at h; rw [← HX.out.1] at h; exact h
    by_cases hlt : k < s.size
    · have hts := take_succ_bytes s k hlt
      obtain ⟨c, hc⟩ : ∃ c, s[k] = c := ⟨_, rfl⟩
      rw [hc] at hts
      have HTS : Hid (34 :: (s.data.toList.take (k + 1)).flatMap qcF = cur ++ qcF c) := by show _ = _; rw [hts, List.flatMap_append, hcur]; simp
      have hct := c.toNat_lt
      clear hts hcur HX
      by_cases h1 : c = 34 ∨ c = 92
      · have HQ : Hid (qcF c = [92, c]) := by show _ = _; unfold qcF; rw [if_pos h1]
        rcases h1 with rfl | rfl
        · have HO1 := Lib.hid (owns_below HO.out (new_block wr (.cells #[.int .u8 92, .int .u8 34] 5)).1 : Own _ w.heap.size (.slice ab nb cb) cur)
          go_wp2_with (at_builtin; (refine wpList_append_bts rfl _ _ rfl w.heap.size _ cur rfl HO1.out _ [92, 34] (wr.heap.size + 1) rfl ((Bts.lit _ wr.heap.size _ 5 (0, 0) [92, 34] 2 2 (heap_alloc_new wr _) rfl (by omega) (by decide) (lit2 92 34)).mono (by simp)) (by have := HCL.out; simp; omega) (by have := HB.out.size; simp; omega) ?_))
          intro b2 w2 ho2 hg2 _
          have HB2 := Lib.hid ((HB.out.trans ((new_block wr (.cells #[.int .u8 92, .int .u8 34] 5)).1.mono HB.out.size)).grown hg2 (Nat.le_trans HB.out.size (new_block wr _).1.size) (fun j e => (World.ownsRow.lt HO1.out j e).1))
          obtain ⟨ab2, cb2, hb2, -⟩ := ho2.bts
          obtain ⟨nb2, hnb2⟩ : ∃ n, n = (cur ++ [92, 34]).length := ⟨_, rfl⟩
          rw [← hnb2] at hb2
          subst hb2
          have HN2 := Lib.hid hnb2
          have HO2 := Lib.hid ho2
          clear ho2 hg2 hnb2 HO1
          go_wp2_with (fail)
          go_roundw
          case rel => exact ⟨k + 1, nb2, cb2, ab2, by omega, by go_num, rfl, (by rw [HTS.out, HQ.out]; exact ⟨HN2.out, HO2.out⟩), HB2.out⟩
          case measure => simp [intOf] <;> omega
        · have HO1 := Lib.hid (owns_below HO.out (new_block wr (.cells #[.int .u8 92, .int .u8 92] 5)).1 : Own _ w.heap.size (.slice ab nb cb) cur)
          go_wp2_with (at_builtin; (refine wpList_append_bts rfl _ _ rfl w.heap.size _ cur rfl HO1.out _ [92, 92] (wr.heap.size + 1) rfl ((Bts.lit _ wr.heap.size _ 5 (0, 0) [92, 92] 2 2 (heap_alloc_new wr _) rfl (by omega) (by decide) (lit2 92 92)).mono (by simp)) (by have := HCL.out; simp; omega) (by have := HB.out.size; simp; omega) ?_))
          intro b2 w2 ho2 hg2 _
          have HB2 := Lib.hid ((HB.out.trans ((new_block wr (.cells #[.int .u8 92, .int .u8 92] 5)).1.mono HB.out.size)).grown hg2 (Nat.le_trans HB.out.size (new_block wr _).1.size) (fun j e => (World.ownsRow.lt HO1.out j e).1))
          obtain ⟨ab2, cb2, hb2, -⟩ := ho2.bts
          obtain ⟨nb2, hnb2⟩ : ∃ n, n = (cur ++ [92, 92]).length := ⟨_, rfl⟩
          rw [← hnb2] at hb2
          subst hb2
          have HN2 := Lib.hid hnb2
          have HO2 := Lib.hid ho2
          clear ho2 hg2 hnb2 HO1
          go_wp2_with (fail)
          go_roundw
          case rel => exact ⟨k + 1, nb2, cb2, ab2, by omega, by go_num, rfl, (by rw [HTS.out, HQ.out]; exact ⟨HN2.out, HO2.out⟩), HB2.out⟩
          case measure => simp [intOf] <;> omega
      · have n34 : ((c.toNat : Int) == 34) = false := by
          rw [beq_eq_false_iff_ne]
          intro e
          exact h1 (.inl (UInt8.toNat_inj.1 (by show c.toNat = 34; omega)))
        have n92 : ((c.toNat : Int) == 92) = false := by
          rw [beq_eq_false_iff_ne]
          intro e
          exact h1 (.inr (UInt8.toNat_inj.1 (by show c.toNat = 92; omega)))
        by_cases h2 : c.toNat < 32 ∨ 126 < c.toNat
        · have HQ : Hid (qcF c = [92, 120, hexd (c.toNat / 16), hexd (c.toNat % 16)]) := by show _ = _; unfold qcF; rw [if_neg h1, if_pos h2]
          obtain ⟨q, hq⟩ : ∃ q, q = c.toNat / 16 := ⟨_, rfl⟩
          obtain ⟨r, hr⟩ : ∃ r, r = c.toNat % 16 := ⟨_, rfl⟩
          have hquo : (c.toNat : Int) / 16 = (q : Int) := by omega
          have hrem : (c.toNat : Int) % 16 = (r : Int) := by omega
          have htm : (c.toNat : Int).tmod 16 = (r : Int) := by rw [Int.tmod_eq_emod_of_nonneg (by omega)]; exact hrem
          have hwq : IntKind.u8.wrap (q : Int) = (q : Int) := by simp only [IntKind.wrap_u8]; omega
          have hwr : IntKind.u8.wrap (r : Int) = (r : Int) := by simp only [IntKind.wrap_u8]; omega
          have hand := and15 c
          rw [← hr] at hand
          rw [← hq, ← hr] at HQ
          have hq16 : q < 16 := by omega
          have hr16 : r < 16 := by omega
          clear hq hr
          rcases h2 with h2 | h2
          · have h2' : (c.toNat : Int) < 32 := by omega
            go_upto_region 10 with (fail)
            refine wpIn_wide (n := 5).1 (wpIn_flowM2 (F0 := Fence.wide) (n0 := 5) (fun _ => trivial) (fun h => by cases h) (by kernel_rfl) (by kernel_rfl) 10 10 (by kernel_rfl) (fun j => ([0, 1, 2, 3, 4, 5, 6, 7, 8, 9] : List Nat).getD j 0) (fun j => ([37, 38, 39, 40, 41, 42, 43, 44, 45, 3] : List Nat).getD j 0) (by kernel_rfl) (by kernel_rfl) (by kernel_rfl) (by kernel_rfl) (by kernel_rfl) (by kernel_rfl) (by kernel_rfl) (fun j zv => ([(fun zv => zv = (.slice ab nb cb)), (fun zv => zv = (.int .u8 (c.toNat : Int))), (fun zv => zv = (.int .u8 (q : Int))), (fun zv => zv = (.int .u8 ((hexd q).toNat : Int))), (fun zv => zv = (.int .u8 (c.toNat : Int))), (fun zv => zv = (.int .u8 (r : Int))), (fun zv => zv = (.int .u8 ((hexd r).toNat : Int))), (fun zv => ∃ g, zv = .slice (some ⟨g, 0, none⟩) 4 4), (fun zv => ∃ g cap, zv = .slice (some ⟨g, 0, none⟩) (nb + 4) cap), (fun zv => ∃ g cap, zv = .slice (some ⟨g, 0, none⟩) (nb + 4) cap)] : List (Value → Prop)).getD j (fun _ => True) zv) (fun d vs W => AppJ wr w.heap.size 5 1 (.slice ab nb cb) nb (cur.map byteV) (([92, 120, hexd q, hexd r] : List UInt8).map byteV) 4 (d 7) (d 8) (vs 7) (vs 8) W ∧ (d 8 = true → d 0 = true) ∧ (d 9 = true → d 8 = true ∧ vs 9 = vs 8)) ?h0z ?stepz ?finz)
            case h0z => exact fun vs => ⟨AppJ.start _ _ _ _ HB.out.size HOC.out, (fun e => by cases e), (fun e => by cases e)⟩
            case stepz =>
              intro i o a W d vs hi ho hdi hJ hf hr hF hz
              replace hi : i < 10 := hi
              rcases (show i = 0 ∨ i = 1 ∨ i = 2 ∨ i = 3 ∨ i = 4 ∨ i = 5 ∨ i = 6 ∨ i = 7 ∨ i = 8 ∨ i = 9 by omega) with rfl | rfl | rfl | rfl | rfl | rfl | rfl | rfl | rfl | rfl
              · replace ho := op_at ho (by rfl)
                subst ho
                have f3 : a.tmps.getD 3 undef = (.slice ab nb cb) := hz 9 (by decide) (show d 9 = false from by cases h : d 9 with | false => rfl | true => have h1 := hJ.2.1 (hJ.2.2 h).1; rw [hdi] at h1; cases h1)
                exact .inl ⟨(fun k b h => by cases h), .inl ⟨0, by decide, rfl, (.slice ab nb cb), W, (by simp [go_sem, Act.eval, f3]), rfl, ⟨hJ.1, fun _ => rfl, hJ.2.2⟩⟩⟩
              · replace ho := op_at ho (by rfl)
                subst ho
                have f5 : a.tmps.getD 5 undef = (.int .u8 (c.toNat : Int)) := hf 5 (by kernel_rfl)
                exact .inl ⟨(fun k b h => by cases h), .inl ⟨1, by decide, rfl, (.int .u8 (c.toNat : Int)), W, (by simp [go_sem, Act.eval, f5]), rfl, hJ⟩⟩
              · replace ho := op_at ho (by rfl)
                subst ho
                have d1 : a.tmps.getD 38 undef = (.int .u8 (c.toNat : Int)) := by have h1 := hF 1 (by decide) (hr 1 (by kernel_rfl)); exact h1.2.trans h1.1
                exact .inl ⟨(fun k b h => by cases h), .inl ⟨2, by decide, rfl, (.int .u8 (q : Int)), W, (by simp [go_sem, Act.eval, d1, hquo, hwq]), rfl, hJ⟩⟩
              · replace ho := op_at ho (by rfl)
                subst ho
                have d2 : a.tmps.getD 39 undef = (.int .u8 (q : Int)) := by have h1 := hF 2 (by decide) (hr 2 (by kernel_rfl)); exact h1.2.trans h1.1
                exact .inl ⟨(fun k b h => by cases h), .inl ⟨3, by decide, rfl, (.int .u8 ((hexd q).toNat : Int)), W, (exec_hexidx _ rfl _ (by omega) (by simp only [Act.eval, d2])), rfl, hJ⟩⟩
              · replace ho := op_at ho (by rfl)
                subst ho
                have f5 : a.tmps.getD 5 undef = (.int .u8 (c.toNat : Int)) := hf 5 (by kernel_rfl)
                exact .inl ⟨(fun k b h => by cases h), .inl ⟨4, by decide, rfl, (.int .u8 (c.toNat : Int)), W, (by simp [go_sem, Act.eval, f5]), rfl, hJ⟩⟩
              · replace ho := op_at ho (by rfl)
                subst ho
                have d4 : a.tmps.getD 41 undef = (.int .u8 (c.toNat : Int)) := by have h1 := hF 4 (by decide) (hr 4 (by kernel_rfl)); exact h1.2.trans h1.1
                exact .inl ⟨(fun k b h => by cases h), .inl ⟨5, by decide, rfl, (.int .u8 (r : Int)), W, (by simp [go_sem, Act.eval, d4, hand]), rfl, hJ⟩⟩
              · replace ho := op_at ho (by rfl)
                subst ho
                have d5 : a.tmps.getD 42 undef = (.int .u8 (r : Int)) := by have h1 := hF 5 (by decide) (hr 5 (by kernel_rfl)); exact h1.2.trans h1.1
                exact .inl ⟨(fun k b h => by cases h), .inl ⟨6, by decide, rfl, (.int .u8 ((hexd r).toNat : Int)), W, (exec_hexidx _ rfl _ (by omega) (by simp only [Act.eval, d5])), rfl, hJ⟩⟩
              · replace ho := op_at ho (by rfl)
                subst ho
                have d3 : a.tmps.getD 40 undef = (.int .u8 ((hexd q).toNat : Int)) := by have h1 := hF 3 (by decide) (hr 3 (by kernel_rfl)); exact h1.2.trans h1.1
                have d6 : a.tmps.getD 43 undef = (.int .u8 ((hexd r).toNat : Int)) := by have h1 := hF 6 (by decide) (hr 6 (by kernel_rfl)); exact h1.2.trans h1.1
                rw [hdi] at hJ
                exact .inl ⟨(fun k b h => by cases h), .inl ⟨7, by decide, rfl, .slice (some ⟨W.heap.size, 0, none⟩) 4 4, W.alloc (.cells (([92, 120, hexd q, hexd r] : List UInt8).map byteV).toArray 5), (exec_buildSlice _ _ _ rfl #[(0, .int .u8 92), (1, .int .u8 120), (2, .int .u8 ((hexd q).toNat : Int)), (3, .int .u8 ((hexd r).toNat : Int))] (by simp only [List.map_toArray, List.map_cons, List.map_nil, Act.eval, d3, d6]) _ _ (build_hex (hexd q) (hexd r) W)), ⟨_, rfl⟩, ⟨hJ.1.builds rfl, hJ.2⟩⟩⟩
              · replace ho := op_at ho (by rfl)
                subst ho
                have d0 : a.tmps.getD 37 undef = (.slice ab nb cb) := by have h1 := hF 0 (by decide) (hr 0 (by kernel_rfl)); exact h1.2.trans h1.1
                obtain ⟨g7, e7⟩ := hF 7 (by decide) (hr 7 (by kernel_rfl))
                replace e7 : a.tmps.getD 44 undef = vs 7 := e7
                replace g7 : (fun zv => ∃ g, zv = .slice (some ⟨g, 0, none⟩) 4 4) (vs 7) := g7
                have t7 : d 7 = true := hr 7 (by kernel_rfl)
                have h1 := hJ.1
                rw [t7, hdi] at h1
                obtain ⟨g, hg, hgr⟩ := h1.lit rfl rfl
                rw [hg] at e7
                obtain ⟨i0, ji, jz0, jz1, jz2⟩ := info_parts info_u8
                obtain ⟨gz, capz, W8, hrunz, nz, gz8, -⟩ := op_append_row 39 5 i0 _ 1 1 Tryd.underlying39 ji jz0 jz1 jz2 rfl (by decide) W w.heap.size (.slice ab nb cb) nb _ g 4 _ (h1.own0 rfl) hgr rfl (bytes_oneCell _) (by decide) (by omega) (by omega) (Nat.le_trans h1.bs h1.siz)
                refine .inl ⟨(fun k b h => by cases h), .inl ⟨8, by decide, rfl, .slice (some ⟨gz, 0, none⟩) (nb + 4) capz, W8, hrunz a _ 37 44 d0 e7 rfl rfl, ⟨_, _, rfl⟩, ?_, fun _ => hr 0 (by kernel_rfl), fun e => ?_⟩⟩
                · show AppJ _ _ _ _ _ _ _ _ _ (d 7) true (vs 7) _ W8
                  rw [t7]; exact h1.appends nz gz8
                · have h2 := (hJ.2.2 e).1
                  rw [hdi] at h2; cases h2
              · replace ho := op_at ho (by rfl)
                subst ho
                obtain ⟨g8, e8⟩ := hF 8 (by decide) (hr 8 (by kernel_rfl))
                replace e8 : a.tmps.getD 45 undef = vs 8 := e8
                replace g8 : (fun zv => ∃ g cap, zv = .slice (some ⟨g, 0, none⟩) (nb + 4) cap) (vs 8) := g8
                obtain ⟨g9, cap9, h9⟩ := g8
                have e8b := e8
                rw [h9] at e8b
                have t8 : d 8 = true := hr 8 (by kernel_rfl)
                exact .inl ⟨(fun k b h => by cases h), .inl ⟨9, by decide, rfl, .slice (some ⟨g9, 0, none⟩) (nb + 4) cap9, W, (by simp [go_sem, Act.eval, e8b]), ⟨_, _, rfl⟩, ⟨hJ.1, hJ.2.1, fun _ => ⟨t8, h9.symm⟩⟩⟩⟩
            case finz =>
              intro d vs Wz hall hJ hF
              have h0 : vs 0 = (.slice ab nb cb) := hF 0 (by decide)
              have h1 : vs 1 = (.int .u8 (c.toNat : Int)) := hF 1 (by decide)
              have h2 : vs 2 = (.int .u8 (q : Int)) := hF 2 (by decide)
              have h3 : vs 3 = (.int .u8 ((hexd q).toNat : Int)) := hF 3 (by decide)
              have h4 : vs 4 = (.int .u8 (c.toNat : Int)) := hF 4 (by decide)
              have h5 : vs 5 = (.int .u8 (r : Int)) := hF 5 (by decide)
              have h6 : vs 6 = (.int .u8 ((hexd r).toNat : Int)) := hF 6 (by decide)
              have h7 : (fun zv => ∃ g, zv = .slice (some ⟨g, 0, none⟩) 4 4) (vs 7) := hF 7 (by decide)
              have h8 : (fun zv => ∃ g cap, zv = .slice (some ⟨g, 0, none⟩) (nb + 4) cap) (vs 8) := hF 8 (by decide)
              have h9 : (fun zv => ∃ g cap, zv = .slice (some ⟨g, 0, none⟩) (nb + 4) cap) (vs 9) := hF 9 (by decide)
              clear hF
              obtain ⟨g9, cap9, hg9⟩ := h9
              have hans := (hJ.2.2 (hall 9 (by decide))).2
              have hown9 := hJ.1.own1 (hall 8 (by decide))
              rw [← hans, hg9] at hown9
              have OWN9 := Lib.hid hown9
              have LB9 := Lib.hid hJ.1.low
              clear hJ hall hown9 h7 h8 hans
              have hg9' := hg9
              clear hg9'
              show (_ : Exit → Act → World → Prop) Exit.normal (puts _ vs 10 _) Wz
              simp only [puts, h0, h1, h2, h3, h4, h5, h6, List.getD_cons_zero, List.getD_cons_succ]
              clear h0 h1 h2 h3 h4 h5 h6
              go_simp
              go_wp2_with (fail)
              go_roundw
              case rel => exact ⟨k + 1, nb + 4, cap9, some ⟨g9, 0, none⟩, by omega, by go_num, rfl, (by
                rw [HTS.out, HQ.out]
                have h := OWN9.out
                have hn : nb = cur.length := by have := HOC.out.1; simpa using this.symm
                refine ⟨by rw [List.length_append]; simp [hn], ?_⟩
                unfold Own
                rw [List.length_append, List.map_append]
                rw [hn] at h ⊢
                exact h), (HB.out.trans (LB9.out.mono (Nat.le_refl _)))⟩
              case measure => simp [intOf] <;> omega
          · have h2' : ¬ (c.toNat : Int) < 32 := by omega
            have h2'' : (126 : Int) < (c.toNat : Int) := by omega
            go_upto_region 10 with (fail)
            refine wpIn_wide (n := 5).1 (wpIn_flowM2 (F0 := Fence.wide) (n0 := 5) (fun _ => trivial) (fun h => by cases h) (by kernel_rfl) (by kernel_rfl) 10 10 (by kernel_rfl) (fun j => ([0, 1, 2, 3, 4, 5, 6, 7, 8, 9] : List Nat).getD j 0) (fun j => ([37, 38, 39, 40, 41, 42, 43, 44, 45, 3] : List Nat).getD j 0) (by kernel_rfl) (by kernel_rfl) (by kernel_rfl) (by kernel_rfl) (by kernel_rfl) (by kernel_rfl) (by kernel_rfl) (fun j zv => ([(fun zv => zv = (.slice ab nb cb)), (fun zv => zv = (.int .u8 (c.toNat : Int))), (fun zv => zv = (.int .u8 (q : Int))), (fun zv => zv = (.int .u8 ((hexd q).toNat : Int))), (fun zv => zv = (.int .u8 (c.toNat : Int))), (fun zv => zv = (.int .u8 (r : Int))), (fun zv => zv = (.int .u8 ((hexd r).toNat : Int))), (fun zv => ∃ g, zv = .slice (some ⟨g, 0, none⟩) 4 4), (fun zv => ∃ g cap, zv = .slice (some ⟨g, 0, none⟩) (nb + 4) cap), (fun zv => ∃ g cap, zv = .slice (some ⟨g, 0, none⟩) (nb + 4) cap)] : List (Value → Prop)).getD j (fun _ => True) zv) (fun d vs W => AppJ wr w.heap.size 5 1 (.slice ab nb cb) nb (cur.map byteV) (([92, 120, hexd q, hexd r] : List UInt8).map byteV) 4 (d 7) (d 8) (vs 7) (vs 8) W ∧ (d 8 = true → d 0 = true) ∧ (d 9 = true → d 8 = true ∧ vs 9 = vs 8)) ?h0z ?stepz ?finz)
            case h0z => exact fun vs => ⟨AppJ.start _ _ _ _ HB.out.size HOC.out, (fun e => by cases e), (fun e => by cases e)⟩
            case stepz =>
              intro i o a W d vs hi ho hdi hJ hf hr hF hz
              replace hi : i < 10 := hi
              rcases (show i = 0 ∨ i = 1 ∨ i = 2 ∨ i = 3 ∨ i = 4 ∨ i = 5 ∨ i = 6 ∨ i = 7 ∨ i = 8 ∨ i = 9 by omega) with rfl | rfl | rfl | rfl | rfl | rfl | rfl | rfl | rfl | rfl
              · replace ho := op_at ho (by rfl)
                subst ho
                have f3 : a.tmps.getD 3 undef = (.slice ab nb cb) := hz 9 (by decide) (show d 9 = false from by cases h : d 9 with | false => rfl | true => have h1 := hJ.2.1 (hJ.2.2 h).1; rw [hdi] at h1; cases h1)
                exact .inl ⟨(fun k b h => by cases h), .inl ⟨0, by decide, rfl, (.slice ab nb cb), W, (by simp [go_sem, Act.eval, f3]), rfl, ⟨hJ.1, fun _ => rfl, hJ.2.2⟩⟩⟩
              · replace ho := op_at ho (by rfl)
                subst ho
                have f5 : a.tmps.getD 5 undef = (.int .u8 (c.toNat : Int)) := hf 5 (by kernel_rfl)
                exact .inl ⟨(fun k b h => by cases h), .inl ⟨1, by decide, rfl, (.int .u8 (c.toNat : Int)), W, (by simp [go_sem, Act.eval, f5]), rfl, hJ⟩⟩
              · replace ho := op_at ho (by rfl)
                subst ho
                have d1 : a.tmps.getD 38 undef = (.int .u8 (c.toNat : Int)) := by have h1 := hF 1 (by decide) (hr 1 (by kernel_rfl)); exact h1.2.trans h1.1
                exact .inl ⟨(fun k b h => by cases h), .inl ⟨2, by decide, rfl, (.int .u8 (q : Int)), W, (by simp [go_sem, Act.eval, d1, hquo, hwq]), rfl, hJ⟩⟩
              · replace ho := op_at ho (by rfl)
                subst ho
                have d2 : a.tmps.getD 39 undef = (.int .u8 (q : Int)) := by have h1 := hF 2 (by decide) (hr 2 (by kernel_rfl)); exact h1.2.trans h1.1
                exact .inl ⟨(fun k b h => by cases h), .inl ⟨3, by decide, rfl, (.int .u8 ((hexd q).toNat : Int)), W, (exec_hexidx _ rfl _ (by omega) (by simp only [Act.eval, d2])), rfl, hJ⟩⟩
              · replace ho := op_at ho (by rfl)
                subst ho
                have f5 : a.tmps.getD 5 undef = (.int .u8 (c.toNat : Int)) := hf 5 (by kernel_rfl)
                exact .inl ⟨(fun k b h => by cases h), .inl ⟨4, by decide, rfl, (.int .u8 (c.toNat : Int)), W, (by simp [go_sem, Act.eval, f5]), rfl, hJ⟩⟩
              · replace ho := op_at ho (by rfl)
                subst ho
                have d4 : a.tmps.getD 41 undef = (.int .u8 (c.toNat : Int)) := by have h1 := hF 4 (by decide) (hr 4 (by kernel_rfl)); exact h1.2.trans h1.1
                exact .inl ⟨(fun k b h => by cases h), .inl ⟨5, by decide, rfl, (.int .u8 (r : Int)), W, (by simp [go_sem, Act.eval, d4, hand]), rfl, hJ⟩⟩
              · replace ho := op_at ho (by rfl)
                subst ho
                have d5 : a.tmps.getD 42 undef = (.int .u8 (r : Int)) := by have h1 := hF 5 (by decide) (hr 5 (by kernel_rfl)); exact h1.2.trans h1.1
                exact .inl ⟨(fun k b h => by cases h), .inl ⟨6, by decide, rfl, (.int .u8 ((hexd r).toNat : Int)), W, (exec_hexidx _ rfl _ (by omega) (by simp only [Act.eval, d5])), rfl, hJ⟩⟩
              · replace ho := op_at ho (by rfl)
                subst ho
                have d3 : a.tmps.getD 40 undef = (.int .u8 ((hexd q).toNat : Int)) := by have h1 := hF 3 (by decide) (hr 3 (by kernel_rfl)); exact h1.2.trans h1.1
                have d6 : a.tmps.getD 43 undef = (.int .u8 ((hexd r).toNat : Int)) := by have h1 := hF 6 (by decide) (hr 6 (by kernel_rfl)); exact h1.2.trans h1.1
                rw [hdi] at hJ
                exact .inl ⟨(fun k b h => by cases h), .inl ⟨7, by decide, rfl, .slice (some ⟨W.heap.size, 0, none⟩) 4 4, W.alloc (.cells (([92, 120, hexd q, hexd r] : List UInt8).map byteV).toArray 5), (exec_buildSlice _ _ _ rfl #[(0, .int .u8 92), (1, .int .u8 120), (2, .int .u8 ((hexd q).toNat : Int)), (3, .int .u8 ((hexd r).toNat : Int))] (by simp only [List.map_toArray, List.map_cons, List.map_nil, Act.eval, d3, d6]) _ _ (build_hex (hexd q) (hexd r) W)), ⟨_, rfl⟩, ⟨hJ.1.builds rfl, hJ.2⟩⟩⟩
              · replace ho := op_at ho (by rfl)
                subst ho
                have d0 : a.tmps.getD 37 undef = (.slice ab nb cb) := by have h1 := hF 0 (by decide) (hr 0 (by kernel_rfl)); exact h1.2.trans h1.1
                obtain ⟨g7, e7⟩ := hF 7 (by decide) (hr 7 (by kernel_rfl))
                replace e7 : a.tmps.getD 44 undef = vs 7 := e7
                replace g7 : (fun zv => ∃ g, zv = .slice (some ⟨g, 0, none⟩) 4 4) (vs 7) := g7
                have t7 : d 7 = true := hr 7 (by kernel_rfl)
                have h1 := hJ.1
                rw [t7, hdi] at h1
                obtain ⟨g, hg, hgr⟩ := h1.lit rfl rfl
                rw [hg] at e7
                obtain ⟨i0, ji, jz0, jz1, jz2⟩ := info_parts info_u8
                obtain ⟨gz, capz, W8, hrunz, nz, gz8, -⟩ := op_append_row 39 5 i0 _ 1 1 Tryd.underlying39 ji jz0 jz1 jz2 rfl (by decide) W w.heap.size (.slice ab nb cb) nb _ g 4 _ (h1.own0 rfl) hgr rfl (bytes_oneCell _) (by decide) (by omega) (by omega) (Nat.le_trans h1.bs h1.siz)
                refine .inl ⟨(fun k b h => by cases h), .inl ⟨8, by decide, rfl, .slice (some ⟨gz, 0, none⟩) (nb + 4) capz, W8, hrunz a _ 37 44 d0 e7 rfl rfl, ⟨_, _, rfl⟩, ?_, fun _ => hr 0 (by kernel_rfl), fun e => ?_⟩⟩
                · show AppJ _ _ _ _ _ _ _ _ _ (d 7) true (vs 7) _ W8
                  rw [t7]; exact h1.appends nz gz8
                · have h2 := (hJ.2.2 e).1
                  rw [hdi] at h2; cases h2
              · replace ho := op_at ho (by rfl)
                subst ho
                obtain ⟨g8, e8⟩ := hF 8 (by decide) (hr 8 (by kernel_rfl))
                replace e8 : a.tmps.getD 45 undef = vs 8 := e8
                replace g8 : (fun zv => ∃ g cap, zv = .slice (some ⟨g, 0, none⟩) (nb + 4) cap) (vs 8) := g8
                obtain ⟨g9, cap9, h9⟩ := g8
                have e8b := e8
                rw [h9] at e8b
                have t8 : d 8 = true := hr 8 (by kernel_rfl)
                exact .inl ⟨(fun k b h => by cases h), .inl ⟨9, by decide, rfl, .slice (some ⟨g9, 0, none⟩) (nb + 4) cap9, W, (by simp [go_sem, Act.eval, e8b]), ⟨_, _, rfl⟩, ⟨hJ.1, hJ.2.1, fun _ => ⟨t8, h9.symm⟩⟩⟩⟩
            case finz =>
              intro d vs Wz hall hJ hF
              have h0 : vs 0 = (.slice ab nb cb) := hF 0 (by decide)
              have h1 : vs 1 = (.int .u8 (c.toNat : Int)) := hF 1 (by decide)
              have h2 : vs 2 = (.int .u8 (q : Int)) := hF 2 (by decide)
              have h3 : vs 3 = (.int .u8 ((hexd q).toNat : Int)) := hF 3 (by decide)
              have h4 : vs 4 = (.int .u8 (c.toNat : Int)) := hF 4 (by decide)
              have h5 : vs 5 = (.int .u8 (r : Int)) := hF 5 (by decide)
              have h6 : vs 6 = (.int .u8 ((hexd r).toNat : Int)) := hF 6 (by decide)
              have h7 : (fun zv => ∃ g, zv = .slice (some ⟨g, 0, none⟩) 4 4) (vs 7) := hF 7 (by decide)
              have h8 : (fun zv => ∃ g cap, zv = .slice (some ⟨g, 0, none⟩) (nb + 4) cap) (vs 8) := hF 8 (by decide)
              have h9 : (fun zv => ∃ g cap, zv = .slice (some ⟨g, 0, none⟩) (nb + 4) cap) (vs 9) := hF 9 (by decide)
              clear hF
              obtain ⟨g9, cap9, hg9⟩ := h9
              have hans := (hJ.2.2 (hall 9 (by decide))).2
              have hown9 := hJ.1.own1 (hall 8 (by decide))
              rw [← hans, hg9] at hown9
              have OWN9 := Lib.hid hown9
              have LB9 := Lib.hid hJ.1.low
              clear hJ hall hown9 h7 h8 hans
              have hg9' := hg9
              clear hg9'
              show (_ : Exit → Act → World → Prop) Exit.normal (puts _ vs 10 _) Wz
              simp only [puts, h0, h1, h2, h3, h4, h5, h6, List.getD_cons_zero, List.getD_cons_succ]
              clear h0 h1 h2 h3 h4 h5 h6
              go_simp
              go_wp2_with (fail)
              go_roundw
              case rel => exact ⟨k + 1, nb + 4, cap9, some ⟨g9, 0, none⟩, by omega, by go_num, rfl, (by
                rw [HTS.out, HQ.out]
                have h := OWN9.out
                have hn : nb = cur.length := by have := HOC.out.1; simpa using this.symm
                refine ⟨by rw [List.length_append]; simp [hn], ?_⟩
                unfold Own
                rw [List.length_append, List.map_append]
                rw [hn] at h ⊢
                exact h), (HB.out.trans (LB9.out.mono (Nat.le_refl _)))⟩
              case measure => simp [intOf] <;> omega
        · have HQ : Hid (qcF c = [c]) := by show _ = _; unfold qcF; rw [if_neg h1, if_neg h2]
          have h3 : ¬ (c.toNat : Int) < 32 := by omega
          have h4 : ¬ (126 : Int) < (c.toNat : Int) := by omega
          have HO1 := Lib.hid (owns_below HO.out (new_block wr (.cells #[.int .u8 (c.toNat : Int)] 5)).1 : Own _ w.heap.size (.slice ab nb cb) cur)
          go_wp2_with (at_builtin; (refine wpList_append_bts rfl _ _ rfl w.heap.size _ cur rfl HO1.out _ [c] (wr.heap.size + 1) rfl ((Bts.lit _ wr.heap.size _ 5 (0, 0) [c] 1 1 (heap_alloc_new wr _) rfl (by omega) (by decide) (lit1 c)).mono (by simp)) (by have := HCL.out; simp; omega) (by have := HB.out.size; simp; omega) ?_))
          intro b2 w2 ho2 hg2 _
          have HB2 := Lib.hid ((HB.out.trans ((new_block wr (.cells #[.int .u8 (c.toNat : Int)] 5)).1.mono HB.out.size)).grown hg2 (Nat.le_trans HB.out.size (new_block wr _).1.size) (fun j e => (World.ownsRow.lt HO1.out j e).1))
          obtain ⟨ab2, cb2, hb2, -⟩ := ho2.bts
          obtain ⟨nb2, hnb2⟩ : ∃ n, n = (cur ++ [c]).length := ⟨_, rfl⟩
          rw [← hnb2] at hb2
          subst hb2
          have HN2 := Lib.hid hnb2
          have HO2 := Lib.hid ho2
          clear ho2 hg2 hnb2 HO1
          go_wp2_with (fail)
          go_roundw
          case rel => exact ⟨k + 1, nb2, cb2, ab2, by omega, by go_num, rfl, (by rw [HTS.out, HQ.out]; exact ⟨HN2.out, HO2.out⟩), HB2.out⟩
          case measure => simp [intOf] <;> omega
    · have hke : k = s.size := by omega
      have HQF : Hid (quoteF s.data.toList = cur ++ [34]) := by show _ = _; rw [hcur, hke, List.take_of_length_le (by simp)]; rfl
      have HO1 := Lib.hid (owns_below HO.out (new_block wr (.cells #[.int .u8 34] 5)).1 : Own _ w.heap.size (.slice ab nb cb) cur)
      clear hcur HX hke
      go_wp2_with (at_builtin; (refine wpList_append_bts rfl _ _ rfl w.heap.size _ cur rfl HO1.out _ [34] (wr.heap.size + 1) rfl ((Bts.lit _ wr.heap.size _ 5 (0, 0) [34] 1 1 (heap_alloc_new wr _) rfl (by omega) (by decide) (lit1 34)).mono (by simp)) (by have := HCL.out; simp; omega) (by have := HB.out.size; simp; omega) ?_))
      intro b2 w2 ho2 hg2 _
      have HB2 := Lib.hid ((HB.out.trans ((new_block wr (.cells #[.int .u8 34] 5)).1.mono HB.out.size)).grown hg2 (Nat.le_trans HB.out.size (new_block wr _).1.size) (fun j e => (World.ownsRow.lt HO1.out j e).1))
      have hst := ho2.bts.strB
      rw [← HQF.out] at hst
      clear ho2 hg2 HO1
      go_wp2_with (fail)
      go_ret
      exact ⟨rfl, HB2.out⟩

end Go.Proofs.YtaeoghagpeihkaaDoor

