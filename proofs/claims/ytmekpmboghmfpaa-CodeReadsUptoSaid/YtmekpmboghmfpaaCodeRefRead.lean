/- The document's Read. -/
import Derived.Test.YtmekpmboghmfpaaCodeRefField
import Derived.Test.YtmekpmboghmfpaaCodeRead
import Derived.Outline
namespace Go.Proofs.Ytmekpmboghmfpaa
open Go.RowKit

/-- the world in the loop's round: the reader's block, the fields so far -/
structure ReadJ (w : World) (v lv : Value) (a c : Nat) (fs : List Fld) (wr : World) : Prop where
  low : Below w.heap.size w wr
  cur : wr.heap[w.heap.size]? = some (refO v a c)
  own : OwnF wr (w.heap.size + 1) lv fs
  size : w.heap.size + 1 ≤ wr.heap.size

theorem ReadJ.start (w : World) (v : Value) : ReadJ w v (.slice none 0 0) 0 0 [] (w.alloc (refO v 0 0)) :=
  ⟨(Below.refl _ _).alloc (Nat.le_refl _) _, heap_alloc_new _ _, World.ownsRow_nil _ _ _ _, by simp⟩
theorem ReadJ.alloc {w wr : World} {v lv : Value} {a c : Nat} {fs : List Fld} (h : ReadJ w v lv a c fs wr) (o : Obj) : ReadJ w v lv a c fs (wr.alloc o) :=
  ⟨h.low.alloc (by have := h.size; omega) _, by rw [Below.heap_alloc _ _ _ (by have := h.size; omega)]; exact h.cur, h.own.alloc _, by have := h.size; simp; omega⟩
theorem ReadJ.rx {w wr w1 : World} {v lv : Value} {a c a' c' : Nat} {fs : List Fld} (h : ReadJ w v lv a c fs wr) (g : Rx w.heap.size (refO v a' c') wr w1) : ReadJ w v lv a' c' fs w1 := by
  refine ⟨⟨g.os.trans h.low.os, g.tape.trans h.low.tape, g.output.trans h.low.output, Nat.le_trans h.low.size g.size, fun k hk => (g.block k (by have := h.low.size; omega) (by omega)).trans (h.low.block k hk)⟩, g.cur, ?_, by have := h.size; have := g.size; omega⟩
  obtain ⟨h1, h2⟩ := h.own
  refine ⟨h1, ?_⟩
  rcases h2 with h2 | ⟨b, cap, cur, hv, hb, hg, r⟩
  · exact .inl h2
  · exact .inr ⟨b, cap, cur, hv, hb, by rw [g.block b (Array.getElem?_eq_some_iff.1 hg).1 (by omega)]; exact hg, r⟩
/-- a store into a block that came behind the list -/
theorem ReadJ.fresh {w wr w1 : World} {v lv : Value} {a c a' c' : Nat} {fs : List Fld} (h : ReadJ w v lv a c fs wr) (h1 : ReadJ w v lv a' c' fs w1) (i : Nat) (x : Value) : ReadJ w v lv a' c' fs (w1.setCell ⟨wr.heap.size, i, none⟩ x) := by
  have hz := h.size
  have hne : ∀ k, k ≠ wr.heap.size → (w1.setCell ⟨wr.heap.size, i, none⟩ x).heap[k]? = w1.heap[k]? := fun k hk => Below.heap_setCell _ _ _ _ hk
  refine ⟨h1.low.setCell (p := ⟨wr.heap.size, i, none⟩) (by show w.heap.size ≤ wr.heap.size; omega) _, (hne _ (by omega)).trans h1.cur, ?_, by have := h1.size; simpa [World.setCell] using this⟩
  obtain ⟨g1, g2⟩ := h1.own
  refine ⟨g1, ?_⟩
  rcases g2 with g2 | ⟨b, cap, cur, hv, hb, hg, r⟩
  · exact .inl g2
  · refine .inr ⟨b, cap, cur, hv, hb, ?_, r⟩
    have hlt := (World.ownsRow.lt h.own b (by rw [hv]; rfl)).2
    rw [hne b (by omega)]; exact hg
/-- the list has grown -/
theorem ReadJ.grown {w W w2 : World} {v lv lv2 : Value} {a c : Nat} {fs fs2 : List Fld} (h : ReadJ w v lv a c fs W) (hg : W.grownBy w2 lv.ownBlock) (ho : OwnF w2 (w.heap.size + 1) lv2 fs2) : ReadJ w v lv2 a c fs2 w2 := by
  have hlt : ∀ k, lv.ownBlock = some k → w.heap.size + 1 ≤ k := fun k hk => (World.ownsRow.lt h.own k hk).1
  have hz := h.size
  exact ⟨h.low.grown hg (by omega) (fun k hk => by have := hlt k hk; omega), (hg.block _ (by omega) (fun e => by have := hlt _ e.symm; omega)).trans h.cur, ho, by have := hg.size; omega⟩

theorem fieldR_form1 (l : List UInt8) (a : Nat) : (fieldR l 1 a).1 = ⟨1, (fieldR l 1 a).1.num, [], false⟩ := by
  unfold fieldR; rw [if_pos rfl]; repeat' split
  all_goals rfl
theorem fieldR_form2 (l : List UInt8) (a : Nat) : (fieldR l 2 a).1 = ⟨2, (fieldR l 2 a).1.num, [], false⟩ := by
  unfold fieldR; rw [if_neg (by decide), if_pos rfl]; repeat' split
  all_goals rfl
theorem fieldR_form3 (l : List UInt8) (a : Nat) : (fieldR l 3 a).1 = ⟨3, 0, (fieldR l 3 a).1.text, false⟩ := by
  unfold fieldR; rw [if_neg (by decide), if_neg (by decide), if_pos rfl]; repeat' split
  all_goals rfl
theorem fieldR_form4 (l : List UInt8) (a : Nat) : (fieldR l 4 a).1 = ⟨4, 0, [], (fieldR l 4 a).1.is_⟩ := by
  unfold fieldR; rw [if_neg (by decide), if_neg (by decide), if_neg (by decide), if_pos rfl]; repeat' split
  all_goals rfl

set_option maxRecDepth 100000 in
set_option maxHeartbeats 4000000 in
theorem ref_Read (v vk : Value) (l : List UInt8) (ks : List Int) (w : World) (hb : Bts w w.heap.size v l) (hk : Ints w w.heap.size vk ks) (hl : l.length ≤ 1000000000) (hkl : ks.length ≤ 1000000000) :
    Calls Try.prog 7 #[v, vk] w fun e w' => ∃ lv, e = .returned (.tuple #[lv, .int .i64 ((readF l ks [] 0).2.1 : Nat), .int .i64 ((readF l ks [] 0).2.2 : Nat)]) ∧ Below w.heap.size w w' ∧ OwnF w' w.heap.size lv (readF l ks [] 0).1 := by
  obtain ⟨ko, kcap, hvk, hkc, hkm, _⟩ := id hk
  obtain ⟨ao, m, cap, hv⟩ : ∃ ao m cap, v = .slice ao m cap := by obtain ⟨ao, cap, hv, _⟩ := hb; exact ⟨ao, _, cap, hv⟩
  subst hv
  generalize hR : readF l ks [] 0 = R at *
  have HR := Lib.hid hR
  have HBB := Lib.hid hb
  have HK := Lib.hid hk
  clear hR hb hk
  subst hvk
  have hkm' : ks.length ≤ 9223372036854775807 := by unfold maxLen at hkm; omega
  clear hkm
  generalize hN : ks.length = n at *
  have HN := Lib.hid hN
  clear hN
  have H0 := Lib.hid (ReadJ.start w (.slice ao m cap))
  go_enter Try.func7, Try.ntmps7
  go_wp2
  go_loopw [8, 9] (fun lv i wr => ∃ (j a c : Nat) (fs : List Fld), j ≤ n ∧ i = .int .i64 (j : Int) ∧ Hid ((c = 0 ∧ R = readF l (ks.drop j) fs a) ∨ (c ≠ 0 ∧ R = ([], 0, c))) ∧ Hid (a ≤ l.length ∨ c ≠ 0) ∧ Hid (fs.length = j) ∧ Hid (ReadJ w (.slice ao m cap) lv a c fs wr)) (fun _ i _ => n - (intOf i).toNat)
  case atStart => exact ⟨0, 0, 0, [], by omega, rfl, .inl ⟨rfl, HR.out.symm⟩, .inl (Nat.zero_le _), rfl, H0⟩
  case round =>
    obtain ⟨j, a, c, fs, hj, rfl, HQ, HA, HL, HI⟩ := hrel
    have h2 : wr.cell? ⟨w.heap.size, 2, none⟩ = some (.int .i64 (c : Int)) := cell_of_row _ _ 2 _ _ _ HI.out.cur
    by_cases hlt : j < n
    · have hkr := HK.out.below HI.out.low HI.out.low.size
      obtain ⟨ko', kcap', he, _, _, h4⟩ := hkr
      injection he with e1 e2 e3
      subst e1 e3
      obtain ⟨b, off, rfl, hbw, hcell⟩ := h4 (fun h => by have := HN.out; rw [h] at this; simp at this; omega)
      have hcj := hcell j (by have := HN.out; omega)
      clear hcell h4 e2
      by_cases hc0 : c = 0
      · subst hc0
        have hq : R = readF l (ks.drop j) fs a := by rcases HQ.out with ⟨_, h⟩ | ⟨h, _⟩; exact h; exact absurd rfl h
        have hdrop : ks.drop j = ks.getD j 0 :: ks.drop (j + 1) := by
          rw [List.drop_eq_getElem_cons (by have := HN.out; omega)]
          congr 1
          simp [List.getD, show j < ks.length by have := HN.out; omega]
        have hunf : ∀ k r, readF l (k :: r) fs a = if (fieldR l k a).2.2 ≠ 0 then ([], 0, (fieldR l k a).2.2) else readF l r (fs ++ [(fieldR l k a).1]) (fieldR l k a).2.1 := fun _ _ => rfl
        rw [hdrop, hunf] at hq
        have hal : a ≤ l.length := by rcases HA.out with h | h; exact h; exact absurd rfl h
        have hfle := fieldR_le l (ks.getD j 0) a hal
        generalize ks.getD j 0 = k at *
        have hJ0 := HI.out.alloc (fldO k)
        have hbts : Bts (wr.alloc (fldO k)) w.heap.size (.slice ao m cap) l := HBB.out.below hJ0.low (Nat.le_refl _)
        have hsz0 : (wr.alloc (fldO k)).heap.size = wr.heap.size + 1 := by simp
        have hjs := HI.out.size
        have hfl : fs.length ≤ 1000000000 := by have := HL.out; omega
        obtain ⟨i0, hi, hz0, hz1, hz2⟩ := info_parts info_field
        clear hdrop hunf HQ HA
        by_cases hk1 : k = 1
        · subst hk1
          have c1 := ref_Whole w.heap.size (.slice ao m cap) l a _ hJ0.cur hbts
          have hform := fieldR_form1 l a
          generalize fieldR l 1 a = T at *
          obtain ⟨f, a2, code⟩ := T
          simp only at hq hfle c1 hform
          generalize f.num = z at *
          subst hform
          clear hbts
          go_wp2_with fail
          refine c1.mono ?_
          rintro en w1 hp
          rcases hp with ⟨he, hx, hD⟩ | ⟨he, hx, a3, hD⟩
          · simp only at he hx hD
            subst he hx
            rw [if_neg (by simp)] at hq
            have HQ2 := Lib.hid hq
            have HA2 := Lib.hid hfle
            clear c1 hq hfle
            have hgb : w1.heap[wr.heap.size]? = some (fldO 1) := (hD.block _ (by rw [hsz0]; omega) (by omega)).trans (heap_alloc_new wr _)
            have k0 := cell_of_row _ _ 0 _ _ _ hgb
            have k1 := cell_of_row _ _ 1 _ _ _ hgb
            have k2 := cell_of_row _ _ 2 _ _ _ hgb
            have k3 := cell_of_row _ _ 3 _ _ _ hgb
            simp only [List.getElem?_toArray, List.getElem?_cons_zero, List.getElem?_cons_succ] at k0 k1 k2 k3
            have kf : ∀ i, w1.frozen? ⟨wr.heap.size, i, none⟩ = false := fun i => frozen_of_row _ _ i _ _ hgb
            have hJ1 := hJ0.rx hD
            have hs1 := hD.size
            rw [hsz0] at hs1
            clear hgb
            have kf := kf 1
            have HJ1 := Lib.hid hJ1
            clear hJ1 hD hJ0
            have JW := HI.out.fresh HJ1.out 1 (.int .i64 z)
            have hWs : (w1.setCell ⟨wr.heap.size, 1, none⟩ (.int .i64 z)).heap.size = w1.heap.size := by simp [World.setCell]
            have hnew : ∀ jj u, (Fld.cells ⟨1, z, [], false⟩)[jj]? = some u → ((w1.setCell ⟨wr.heap.size, 1, none⟩ (.int .i64 z)).alloc (.cells #[.int .i64 (⟨1, z, [], false⟩ : Fld).kind, .int .i64 (⟨1, z, [], false⟩ : Fld).num, .string ⟨(⟨1, z, [], false⟩ : Fld).text.toArray⟩, .bool (⟨1, z, [], false⟩ : Fld).is_] 48)).cell? ((⟨w1.heap.size, 0, none⟩ : Addr).add jj) = some u := by
              intro jj u hu
              rw [← hWs]
              exact news_lit _ ⟨1, z, [], false⟩ jj u hu
            have HS := Lib.hid hWs
            have HJW := Lib.hid JW
            clear hWs JW
            go_wp2_with (at_builtin; (refine wpList_append_own _ rfl _ _ _ rfl (w.heap.size + 1) 48 i0 _ 4 40 Try.underlying24 hi hz0 hz1 hz2 rfl (by decide) u8 fs.length (fs.flatMap Fld.cells) rfl (HJW.out.own.alloc _) ⟨w1.heap.size, 0, none⟩ 1 1 (Fld.cells ⟨1, z, [], false⟩) rfl rfl hnew (fld_cells ⟨1, z, [], false⟩) (by unfold maxLen; omega) (by omega) (by have := HJW.out.size; simp; omega) ?_))
            intro v2 w2 hown2 hg2 _
            have hJ2 := Lib.hid ((HJW.out.alloc _).grown hg2 (owns_snoc hown2))
            clear hown2 hg2 hnew
            go_wp2_with fail
            go_roundw
            case rel => exact ⟨j + 1, a2, 0, fs ++ [⟨1, z, [], false⟩], by omega, by go_num, .inl ⟨rfl, HQ2.out⟩, .inl HA2.out, by have := HL.out; show _ = _; simp [this], hJ2⟩
            case measure => simp [intOf]; omega
          · simp only at he hx hD
            subst hx
            rw [if_pos he] at hq
            have HQ2 := Lib.hid hq
            have HE := Lib.hid he
            clear c1 hq hfle he
            obtain ⟨a2, rfl⟩ : ∃ b, b = a3 := ⟨_, rfl⟩
            have hgb : w1.heap[wr.heap.size]? = some (fldO 1) := (hD.block _ (by rw [hsz0]; omega) (by omega)).trans (heap_alloc_new wr _)
            have k0 := cell_of_row _ _ 0 _ _ _ hgb
            have k1 := cell_of_row _ _ 1 _ _ _ hgb
            have k2 := cell_of_row _ _ 2 _ _ _ hgb
            have k3 := cell_of_row _ _ 3 _ _ _ hgb
            simp only [List.getElem?_toArray, List.getElem?_cons_zero, List.getElem?_cons_succ] at k0 k1 k2 k3
            have kf : ∀ i, w1.frozen? ⟨wr.heap.size, i, none⟩ = false := fun i => frozen_of_row _ _ i _ _ hgb
            have hJ1 := hJ0.rx hD
            have hs1 := hD.size
            rw [hsz0] at hs1
            clear hgb
            have kf := kf 1
            have HJ1 := Lib.hid hJ1
            clear hJ1 hD hJ0
            have JW := HI.out.fresh HJ1.out 1 (.int .i64 0)
            have hWs : (w1.setCell ⟨wr.heap.size, 1, none⟩ (.int .i64 0)).heap.size = w1.heap.size := by simp [World.setCell]
            have hnew : ∀ jj u, (Fld.cells ⟨1, 0, [], false⟩)[jj]? = some u → ((w1.setCell ⟨wr.heap.size, 1, none⟩ (.int .i64 0)).alloc (.cells #[.int .i64 (⟨1, 0, [], false⟩ : Fld).kind, .int .i64 (⟨1, 0, [], false⟩ : Fld).num, .string ⟨(⟨1, 0, [], false⟩ : Fld).text.toArray⟩, .bool (⟨1, 0, [], false⟩ : Fld).is_] 48)).cell? ((⟨w1.heap.size, 0, none⟩ : Addr).add jj) = some u := by
              intro jj u hu
              rw [← hWs]
              exact news_lit _ ⟨1, 0, [], false⟩ jj u hu
            have HS := Lib.hid hWs
            have HJW := Lib.hid JW
            clear hWs JW
            go_wp2_with (at_builtin; (refine wpList_append_own _ rfl _ _ _ rfl (w.heap.size + 1) 48 i0 _ 4 40 Try.underlying24 hi hz0 hz1 hz2 rfl (by decide) u8 fs.length (fs.flatMap Fld.cells) rfl (HJW.out.own.alloc _) ⟨w1.heap.size, 0, none⟩ 1 1 (Fld.cells ⟨1, 0, [], false⟩) rfl rfl hnew (fld_cells ⟨1, 0, [], false⟩) (by unfold maxLen; omega) (by omega) (by have := HJW.out.size; simp; omega) ?_))
            intro v2 w2 hown2 hg2 _
            have hJ2 := Lib.hid ((HJW.out.alloc _).grown hg2 (owns_snoc hown2))
            clear hown2 hg2 hnew
            go_wp2_with fail
            go_roundw
            case rel => exact ⟨j + 1, a2, code, fs ++ [⟨1, 0, [], false⟩], by omega, by go_num, .inr ⟨HE.out, HQ2.out⟩, .inr HE.out, by have := HL.out; show _ = _; simp [this], hJ2⟩
            case measure => simp [intOf]; omega
        by_cases hk2 : k = 2
        · subst hk2
          have c1 := ref_Int w.heap.size (.slice ao m cap) l a _ hJ0.cur hbts
          have hform := fieldR_form2 l a
          generalize fieldR l 2 a = T at *
          obtain ⟨f, a2, code⟩ := T
          simp only at hq hfle c1 hform
          generalize f.num = z at *
          subst hform
          clear hbts
          go_wp2_with fail
          refine c1.mono ?_
          rintro en w1 hp
          rcases hp with ⟨he, hx, hD⟩ | ⟨he, hx, a3, hD⟩
          · simp only at he hx hD
            subst he hx
            rw [if_neg (by simp)] at hq
            have HQ2 := Lib.hid hq
            have HA2 := Lib.hid hfle
            clear c1 hq hfle
            have hgb : w1.heap[wr.heap.size]? = some (fldO 2) := (hD.block _ (by rw [hsz0]; omega) (by omega)).trans (heap_alloc_new wr _)
            have k0 := cell_of_row _ _ 0 _ _ _ hgb
            have k1 := cell_of_row _ _ 1 _ _ _ hgb
            have k2 := cell_of_row _ _ 2 _ _ _ hgb
            have k3 := cell_of_row _ _ 3 _ _ _ hgb
            simp only [List.getElem?_toArray, List.getElem?_cons_zero, List.getElem?_cons_succ] at k0 k1 k2 k3
            have kf : ∀ i, w1.frozen? ⟨wr.heap.size, i, none⟩ = false := fun i => frozen_of_row _ _ i _ _ hgb
            have hJ1 := hJ0.rx hD
            have hs1 := hD.size
            rw [hsz0] at hs1
            clear hgb
            have kf := kf 1
            have HJ1 := Lib.hid hJ1
            clear hJ1 hD hJ0
            have JW := HI.out.fresh HJ1.out 1 (.int .i64 z)
            have hWs : (w1.setCell ⟨wr.heap.size, 1, none⟩ (.int .i64 z)).heap.size = w1.heap.size := by simp [World.setCell]
            have hnew : ∀ jj u, (Fld.cells ⟨2, z, [], false⟩)[jj]? = some u → ((w1.setCell ⟨wr.heap.size, 1, none⟩ (.int .i64 z)).alloc (.cells #[.int .i64 (⟨2, z, [], false⟩ : Fld).kind, .int .i64 (⟨2, z, [], false⟩ : Fld).num, .string ⟨(⟨2, z, [], false⟩ : Fld).text.toArray⟩, .bool (⟨2, z, [], false⟩ : Fld).is_] 48)).cell? ((⟨w1.heap.size, 0, none⟩ : Addr).add jj) = some u := by
              intro jj u hu
              rw [← hWs]
              exact news_lit _ ⟨2, z, [], false⟩ jj u hu
            have HS := Lib.hid hWs
            have HJW := Lib.hid JW
            clear hWs JW
            go_wp2_with (at_builtin; (refine wpList_append_own _ rfl _ _ _ rfl (w.heap.size + 1) 48 i0 _ 4 40 Try.underlying24 hi hz0 hz1 hz2 rfl (by decide) u8 fs.length (fs.flatMap Fld.cells) rfl (HJW.out.own.alloc _) ⟨w1.heap.size, 0, none⟩ 1 1 (Fld.cells ⟨2, z, [], false⟩) rfl rfl hnew (fld_cells ⟨2, z, [], false⟩) (by unfold maxLen; omega) (by omega) (by have := HJW.out.size; simp; omega) ?_))
            intro v2 w2 hown2 hg2 _
            have hJ2 := Lib.hid ((HJW.out.alloc _).grown hg2 (owns_snoc hown2))
            clear hown2 hg2 hnew
            go_wp2_with fail
            go_roundw
            case rel => exact ⟨j + 1, a2, 0, fs ++ [⟨2, z, [], false⟩], by omega, by go_num, .inl ⟨rfl, HQ2.out⟩, .inl HA2.out, by have := HL.out; show _ = _; simp [this], hJ2⟩
            case measure => simp [intOf]; omega
          · simp only at he hx hD
            subst hx
            rw [if_pos he] at hq
            have HQ2 := Lib.hid hq
            have HE := Lib.hid he
            clear c1 hq hfle he
            obtain ⟨a2, rfl⟩ : ∃ b, b = a3 := ⟨_, rfl⟩
            have hgb : w1.heap[wr.heap.size]? = some (fldO 2) := (hD.block _ (by rw [hsz0]; omega) (by omega)).trans (heap_alloc_new wr _)
            have k0 := cell_of_row _ _ 0 _ _ _ hgb
            have k1 := cell_of_row _ _ 1 _ _ _ hgb
            have k2 := cell_of_row _ _ 2 _ _ _ hgb
            have k3 := cell_of_row _ _ 3 _ _ _ hgb
            simp only [List.getElem?_toArray, List.getElem?_cons_zero, List.getElem?_cons_succ] at k0 k1 k2 k3
            have kf : ∀ i, w1.frozen? ⟨wr.heap.size, i, none⟩ = false := fun i => frozen_of_row _ _ i _ _ hgb
            have hJ1 := hJ0.rx hD
            have hs1 := hD.size
            rw [hsz0] at hs1
            clear hgb
            have kf := kf 1
            have HJ1 := Lib.hid hJ1
            clear hJ1 hD hJ0
            have JW := HI.out.fresh HJ1.out 1 (.int .i64 0)
            have hWs : (w1.setCell ⟨wr.heap.size, 1, none⟩ (.int .i64 0)).heap.size = w1.heap.size := by simp [World.setCell]
            have hnew : ∀ jj u, (Fld.cells ⟨2, 0, [], false⟩)[jj]? = some u → ((w1.setCell ⟨wr.heap.size, 1, none⟩ (.int .i64 0)).alloc (.cells #[.int .i64 (⟨2, 0, [], false⟩ : Fld).kind, .int .i64 (⟨2, 0, [], false⟩ : Fld).num, .string ⟨(⟨2, 0, [], false⟩ : Fld).text.toArray⟩, .bool (⟨2, 0, [], false⟩ : Fld).is_] 48)).cell? ((⟨w1.heap.size, 0, none⟩ : Addr).add jj) = some u := by
              intro jj u hu
              rw [← hWs]
              exact news_lit _ ⟨2, 0, [], false⟩ jj u hu
            have HS := Lib.hid hWs
            have HJW := Lib.hid JW
            clear hWs JW
            go_wp2_with (at_builtin; (refine wpList_append_own _ rfl _ _ _ rfl (w.heap.size + 1) 48 i0 _ 4 40 Try.underlying24 hi hz0 hz1 hz2 rfl (by decide) u8 fs.length (fs.flatMap Fld.cells) rfl (HJW.out.own.alloc _) ⟨w1.heap.size, 0, none⟩ 1 1 (Fld.cells ⟨2, 0, [], false⟩) rfl rfl hnew (fld_cells ⟨2, 0, [], false⟩) (by unfold maxLen; omega) (by omega) (by have := HJW.out.size; simp; omega) ?_))
            intro v2 w2 hown2 hg2 _
            have hJ2 := Lib.hid ((HJW.out.alloc _).grown hg2 (owns_snoc hown2))
            clear hown2 hg2 hnew
            go_wp2_with fail
            go_roundw
            case rel => exact ⟨j + 1, a2, code, fs ++ [⟨2, 0, [], false⟩], by omega, by go_num, .inr ⟨HE.out, HQ2.out⟩, .inr HE.out, by have := HL.out; show _ = _; simp [this], hJ2⟩
            case measure => simp [intOf]; omega
        by_cases hk3 : k = 3
        · subst hk3
          have c1 := ref_Str w.heap.size (.slice ao m cap) l a _ hJ0.cur hbts hal (by omega)
          have hform := fieldR_form3 l a
          generalize fieldR l 3 a = T at *
          obtain ⟨f, a2, code⟩ := T
          simp only at hq hfle c1 hform
          generalize f.text = z at *
          subst hform
          clear hbts
          go_wp2_with fail
          refine c1.mono ?_
          rintro en w1 hp
          rcases hp with ⟨he, hx, hD⟩ | ⟨he, hx, a3, hD⟩
          · simp only at he hx hD
            subst he hx
            rw [if_neg (by simp)] at hq
            have HQ2 := Lib.hid hq
            have HA2 := Lib.hid hfle
            clear c1 hq hfle
            have hgb : w1.heap[wr.heap.size]? = some (fldO 3) := (hD.block _ (by rw [hsz0]; omega) (by omega)).trans (heap_alloc_new wr _)
            have k0 := cell_of_row _ _ 0 _ _ _ hgb
            have k1 := cell_of_row _ _ 1 _ _ _ hgb
            have k2 := cell_of_row _ _ 2 _ _ _ hgb
            have k3 := cell_of_row _ _ 3 _ _ _ hgb
            simp only [List.getElem?_toArray, List.getElem?_cons_zero, List.getElem?_cons_succ] at k0 k1 k2 k3
            have kf : ∀ i, w1.frozen? ⟨wr.heap.size, i, none⟩ = false := fun i => frozen_of_row _ _ i _ _ hgb
            have hJ1 := hJ0.rx hD
            have hs1 := hD.size
            rw [hsz0] at hs1
            clear hgb
            have kf := kf 2
            have HJ1 := Lib.hid hJ1
            clear hJ1 hD hJ0
            have JW := HI.out.fresh HJ1.out 2 (.string ⟨z.toArray⟩)
            have hWs : (w1.setCell ⟨wr.heap.size, 2, none⟩ (.string ⟨z.toArray⟩)).heap.size = w1.heap.size := by simp [World.setCell]
            have hnew : ∀ jj u, (Fld.cells ⟨3, 0, z, false⟩)[jj]? = some u → ((w1.setCell ⟨wr.heap.size, 2, none⟩ (.string ⟨z.toArray⟩)).alloc (.cells #[.int .i64 (⟨3, 0, z, false⟩ : Fld).kind, .int .i64 (⟨3, 0, z, false⟩ : Fld).num, .string ⟨(⟨3, 0, z, false⟩ : Fld).text.toArray⟩, .bool (⟨3, 0, z, false⟩ : Fld).is_] 48)).cell? ((⟨w1.heap.size, 0, none⟩ : Addr).add jj) = some u := by
              intro jj u hu
              rw [← hWs]
              exact news_lit _ ⟨3, 0, z, false⟩ jj u hu
            have HS := Lib.hid hWs
            have HJW := Lib.hid JW
            clear hWs JW
            go_wp2_with (at_builtin; (refine wpList_append_own _ rfl _ _ _ rfl (w.heap.size + 1) 48 i0 _ 4 40 Try.underlying24 hi hz0 hz1 hz2 rfl (by decide) u8 fs.length (fs.flatMap Fld.cells) rfl (HJW.out.own.alloc _) ⟨w1.heap.size, 0, none⟩ 1 1 (Fld.cells ⟨3, 0, z, false⟩) rfl rfl hnew (fld_cells ⟨3, 0, z, false⟩) (by unfold maxLen; omega) (by omega) (by have := HJW.out.size; simp; omega) ?_))
            intro v2 w2 hown2 hg2 _
            have hJ2 := Lib.hid ((HJW.out.alloc _).grown hg2 (owns_snoc hown2))
            clear hown2 hg2 hnew
            go_wp2_with fail
            go_roundw
            case rel => exact ⟨j + 1, a2, 0, fs ++ [⟨3, 0, z, false⟩], by omega, by go_num, .inl ⟨rfl, HQ2.out⟩, .inl HA2.out, by have := HL.out; show _ = _; simp [this], hJ2⟩
            case measure => simp [intOf]; omega
          · simp only at he hx hD
            subst hx
            rw [if_pos he] at hq
            have HQ2 := Lib.hid hq
            have HE := Lib.hid he
            clear c1 hq hfle he
            obtain ⟨a2, rfl⟩ : ∃ b, b = a3 := ⟨_, rfl⟩
            have hgb : w1.heap[wr.heap.size]? = some (fldO 3) := (hD.block _ (by rw [hsz0]; omega) (by omega)).trans (heap_alloc_new wr _)
            have k0 := cell_of_row _ _ 0 _ _ _ hgb
            have k1 := cell_of_row _ _ 1 _ _ _ hgb
            have k2 := cell_of_row _ _ 2 _ _ _ hgb
            have k3 := cell_of_row _ _ 3 _ _ _ hgb
            simp only [List.getElem?_toArray, List.getElem?_cons_zero, List.getElem?_cons_succ] at k0 k1 k2 k3
            have kf : ∀ i, w1.frozen? ⟨wr.heap.size, i, none⟩ = false := fun i => frozen_of_row _ _ i _ _ hgb
            have hJ1 := hJ0.rx hD
            have hs1 := hD.size
            rw [hsz0] at hs1
            clear hgb
            have kf := kf 2
            have HJ1 := Lib.hid hJ1
            clear hJ1 hD hJ0
            have JW := HI.out.fresh HJ1.out 2 (.string ⟨#[]⟩)
            have hWs : (w1.setCell ⟨wr.heap.size, 2, none⟩ (.string ⟨#[]⟩)).heap.size = w1.heap.size := by simp [World.setCell]
            have hnew : ∀ jj u, (Fld.cells ⟨3, 0, [], false⟩)[jj]? = some u → ((w1.setCell ⟨wr.heap.size, 2, none⟩ (.string ⟨#[]⟩)).alloc (.cells #[.int .i64 (⟨3, 0, [], false⟩ : Fld).kind, .int .i64 (⟨3, 0, [], false⟩ : Fld).num, .string ⟨(⟨3, 0, [], false⟩ : Fld).text.toArray⟩, .bool (⟨3, 0, [], false⟩ : Fld).is_] 48)).cell? ((⟨w1.heap.size, 0, none⟩ : Addr).add jj) = some u := by
              intro jj u hu
              rw [← hWs]
              exact news_lit _ ⟨3, 0, [], false⟩ jj u hu
            have HS := Lib.hid hWs
            have HJW := Lib.hid JW
            clear hWs JW
            go_wp2_with (at_builtin; (refine wpList_append_own _ rfl _ _ _ rfl (w.heap.size + 1) 48 i0 _ 4 40 Try.underlying24 hi hz0 hz1 hz2 rfl (by decide) u8 fs.length (fs.flatMap Fld.cells) rfl (HJW.out.own.alloc _) ⟨w1.heap.size, 0, none⟩ 1 1 (Fld.cells ⟨3, 0, [], false⟩) rfl rfl hnew (fld_cells ⟨3, 0, [], false⟩) (by unfold maxLen; omega) (by omega) (by have := HJW.out.size; simp; omega) ?_))
            intro v2 w2 hown2 hg2 _
            have hJ2 := Lib.hid ((HJW.out.alloc _).grown hg2 (owns_snoc hown2))
            clear hown2 hg2 hnew
            go_wp2_with fail
            go_roundw
            case rel => exact ⟨j + 1, a2, code, fs ++ [⟨3, 0, [], false⟩], by omega, by go_num, .inr ⟨HE.out, HQ2.out⟩, .inr HE.out, by have := HL.out; show _ = _; simp [this], hJ2⟩
            case measure => simp [intOf]; omega
        by_cases hk4 : k = 4
        · subst hk4
          have c1 := ref_Truth w.heap.size (.slice ao m cap) l a _ hJ0.cur hbts
          have hform := fieldR_form4 l a
          generalize fieldR l 4 a = T at *
          obtain ⟨f, a2, code⟩ := T
          simp only at hq hfle c1 hform
          generalize f.is_ = z at *
          subst hform
          clear hbts
          go_wp2_with fail
          refine c1.mono ?_
          rintro en w1 hp
          rcases hp with ⟨he, hx, hD⟩ | ⟨he, hx, a3, hD⟩
          · simp only at he hx hD
            subst he hx
            rw [if_neg (by simp)] at hq
            have HQ2 := Lib.hid hq
            have HA2 := Lib.hid hfle
            clear c1 hq hfle
            have hgb : w1.heap[wr.heap.size]? = some (fldO 4) := (hD.block _ (by rw [hsz0]; omega) (by omega)).trans (heap_alloc_new wr _)
            have k0 := cell_of_row _ _ 0 _ _ _ hgb
            have k1 := cell_of_row _ _ 1 _ _ _ hgb
            have k2 := cell_of_row _ _ 2 _ _ _ hgb
            have k3 := cell_of_row _ _ 3 _ _ _ hgb
            simp only [List.getElem?_toArray, List.getElem?_cons_zero, List.getElem?_cons_succ] at k0 k1 k2 k3
            have kf : ∀ i, w1.frozen? ⟨wr.heap.size, i, none⟩ = false := fun i => frozen_of_row _ _ i _ _ hgb
            have hJ1 := hJ0.rx hD
            have hs1 := hD.size
            rw [hsz0] at hs1
            clear hgb
            have kf := kf 3
            have HJ1 := Lib.hid hJ1
            clear hJ1 hD hJ0
            have JW := HI.out.fresh HJ1.out 3 (.bool z)
            have hWs : (w1.setCell ⟨wr.heap.size, 3, none⟩ (.bool z)).heap.size = w1.heap.size := by simp [World.setCell]
            have hnew : ∀ jj u, (Fld.cells ⟨4, 0, [], z⟩)[jj]? = some u → ((w1.setCell ⟨wr.heap.size, 3, none⟩ (.bool z)).alloc (.cells #[.int .i64 (⟨4, 0, [], z⟩ : Fld).kind, .int .i64 (⟨4, 0, [], z⟩ : Fld).num, .string ⟨(⟨4, 0, [], z⟩ : Fld).text.toArray⟩, .bool (⟨4, 0, [], z⟩ : Fld).is_] 48)).cell? ((⟨w1.heap.size, 0, none⟩ : Addr).add jj) = some u := by
              intro jj u hu
              rw [← hWs]
              exact news_lit _ ⟨4, 0, [], z⟩ jj u hu
            have HS := Lib.hid hWs
            have HJW := Lib.hid JW
            clear hWs JW
            go_wp2_with (at_builtin; (refine wpList_append_own _ rfl _ _ _ rfl (w.heap.size + 1) 48 i0 _ 4 40 Try.underlying24 hi hz0 hz1 hz2 rfl (by decide) u8 fs.length (fs.flatMap Fld.cells) rfl (HJW.out.own.alloc _) ⟨w1.heap.size, 0, none⟩ 1 1 (Fld.cells ⟨4, 0, [], z⟩) rfl rfl hnew (fld_cells ⟨4, 0, [], z⟩) (by unfold maxLen; omega) (by omega) (by have := HJW.out.size; simp; omega) ?_))
            intro v2 w2 hown2 hg2 _
            have hJ2 := Lib.hid ((HJW.out.alloc _).grown hg2 (owns_snoc hown2))
            clear hown2 hg2 hnew
            go_wp2_with fail
            go_roundw
            case rel => exact ⟨j + 1, a2, 0, fs ++ [⟨4, 0, [], z⟩], by omega, by go_num, .inl ⟨rfl, HQ2.out⟩, .inl HA2.out, by have := HL.out; show _ = _; simp [this], hJ2⟩
            case measure => simp [intOf]; omega
          · simp only at he hx hD
            subst hx
            rw [if_pos he] at hq
            have HQ2 := Lib.hid hq
            have HE := Lib.hid he
            clear c1 hq hfle he
            obtain ⟨a2, rfl⟩ : ∃ b, b = a3 := ⟨_, rfl⟩
            have hgb : w1.heap[wr.heap.size]? = some (fldO 4) := (hD.block _ (by rw [hsz0]; omega) (by omega)).trans (heap_alloc_new wr _)
            have k0 := cell_of_row _ _ 0 _ _ _ hgb
            have k1 := cell_of_row _ _ 1 _ _ _ hgb
            have k2 := cell_of_row _ _ 2 _ _ _ hgb
            have k3 := cell_of_row _ _ 3 _ _ _ hgb
            simp only [List.getElem?_toArray, List.getElem?_cons_zero, List.getElem?_cons_succ] at k0 k1 k2 k3
            have kf : ∀ i, w1.frozen? ⟨wr.heap.size, i, none⟩ = false := fun i => frozen_of_row _ _ i _ _ hgb
            have hJ1 := hJ0.rx hD
            have hs1 := hD.size
            rw [hsz0] at hs1
            clear hgb
            have kf := kf 3
            have HJ1 := Lib.hid hJ1
            clear hJ1 hD hJ0
            have JW := HI.out.fresh HJ1.out 3 (.bool false)
            have hWs : (w1.setCell ⟨wr.heap.size, 3, none⟩ (.bool false)).heap.size = w1.heap.size := by simp [World.setCell]
            have hnew : ∀ jj u, (Fld.cells ⟨4, 0, [], false⟩)[jj]? = some u → ((w1.setCell ⟨wr.heap.size, 3, none⟩ (.bool false)).alloc (.cells #[.int .i64 (⟨4, 0, [], false⟩ : Fld).kind, .int .i64 (⟨4, 0, [], false⟩ : Fld).num, .string ⟨(⟨4, 0, [], false⟩ : Fld).text.toArray⟩, .bool (⟨4, 0, [], false⟩ : Fld).is_] 48)).cell? ((⟨w1.heap.size, 0, none⟩ : Addr).add jj) = some u := by
              intro jj u hu
              rw [← hWs]
              exact news_lit _ ⟨4, 0, [], false⟩ jj u hu
            have HS := Lib.hid hWs
            have HJW := Lib.hid JW
            clear hWs JW
            go_wp2_with (at_builtin; (refine wpList_append_own _ rfl _ _ _ rfl (w.heap.size + 1) 48 i0 _ 4 40 Try.underlying24 hi hz0 hz1 hz2 rfl (by decide) u8 fs.length (fs.flatMap Fld.cells) rfl (HJW.out.own.alloc _) ⟨w1.heap.size, 0, none⟩ 1 1 (Fld.cells ⟨4, 0, [], false⟩) rfl rfl hnew (fld_cells ⟨4, 0, [], false⟩) (by unfold maxLen; omega) (by omega) (by have := HJW.out.size; simp; omega) ?_))
            intro v2 w2 hown2 hg2 _
            have hJ2 := Lib.hid ((HJW.out.alloc _).grown hg2 (owns_snoc hown2))
            clear hown2 hg2 hnew
            go_wp2_with fail
            go_roundw
            case rel => exact ⟨j + 1, a2, code, fs ++ [⟨4, 0, [], false⟩], by omega, by go_num, .inr ⟨HE.out, HQ2.out⟩, .inr HE.out, by have := HL.out; show _ = _; simp [this], hJ2⟩
            case measure => simp [intOf]; omega
        have hT : fieldR l k a = (⟨k, 0, [], false⟩, a, 46) := by unfold fieldR; rw [if_neg hk1, if_neg hk2, if_neg hk3, if_neg hk4]
        rw [hT, if_pos (by simp)] at hq
        have HQ2 := Lib.hid hq
        have e1 : (k == 1) = false := by simpa using hk1
        have e2 : (k == 2) = false := by simpa using hk2
        have e3 : (k == 3) = false := by simpa using hk3
        have e4 : (k == 4) = false := by simpa using hk4
        have g2 : (wr.alloc (fldO k)).cell? ⟨w.heap.size, 2, none⟩ = some (.int .i64 0) := cell_of_row _ _ 2 _ _ _ hJ0.cur
        have hf2 : (wr.alloc (fldO k)).frozen? ⟨w.heap.size, 2, none⟩ = false := frozen_of_row _ _ 2 _ _ hJ0.cur
        have hgb := heap_alloc_new wr (fldO k)
        have k0 : (wr.alloc (fldO k)).cell? ⟨wr.heap.size, 0, none⟩ = some (.int .i64 k) := cell_of_row _ _ 0 _ _ _ hgb
        have k1 : (wr.alloc (fldO k)).cell? ⟨wr.heap.size, 1, none⟩ = some (.int .i64 0) := cell_of_row _ _ 1 _ _ _ hgb
        have k2 : (wr.alloc (fldO k)).cell? ⟨wr.heap.size, 2, none⟩ = some (.string ⟨#[]⟩) := cell_of_row _ _ 2 _ _ _ hgb
        have k3 : (wr.alloc (fldO k)).cell? ⟨wr.heap.size, 3, none⟩ = some (.bool false) := cell_of_row _ _ 3 _ _ _ hgb
        have HJ1 := Lib.hid (hJ0.rx ((Rx.refl hJ0.cur).code 46))
        have hnb : wr.heap.size ≠ w.heap.size := by omega
        clear hbts hT hq hfle hk1 hk2 hk3 hk4 hsz0 hJ0 hgb
        obtain ⟨a2, rfl⟩ : ∃ b, b = a := ⟨_, rfl⟩
        have JW := HJ1.out
        have hWs : ((wr.alloc (.cells #[.int .i64 k, .int .i64 0, .string ⟨#[]⟩, .bool false] 48)).setCell ⟨w.heap.size, 2, none⟩ (.int .i64 46)).heap.size = wr.heap.size + 1 := by simp [World.setCell]
        have hnew : ∀ jj u, (Fld.cells ⟨k, 0, [], false⟩)[jj]? = some u → (((wr.alloc (.cells #[.int .i64 k, .int .i64 0, .string ⟨#[]⟩, .bool false] 48)).setCell ⟨w.heap.size, 2, none⟩ (.int .i64 46)).alloc (.cells #[.int .i64 (⟨k, 0, [], false⟩ : Fld).kind, .int .i64 (⟨k, 0, [], false⟩ : Fld).num, .string ⟨(⟨k, 0, [], false⟩ : Fld).text.toArray⟩, .bool (⟨k, 0, [], false⟩ : Fld).is_] 48)).cell? ((⟨wr.heap.size + 1, 0, none⟩ : Addr).add jj) = some u := by
          intro jj u hu
          rw [← hWs]
          exact news_lit _ ⟨k, 0, [], false⟩ jj u hu
        have HS := Lib.hid hWs
        have HJW := Lib.hid JW
        clear hWs JW
        go_wp2_with (at_builtin; (refine wpList_append_own _ rfl _ _ _ rfl (w.heap.size + 1) 48 i0 _ 4 40 Try.underlying24 hi hz0 hz1 hz2 rfl (by decide) u8 fs.length (fs.flatMap Fld.cells) rfl (HJW.out.own.alloc _) ⟨wr.heap.size + 1, 0, none⟩ 1 1 (Fld.cells ⟨k, 0, [], false⟩) rfl rfl hnew (fld_cells ⟨k, 0, [], false⟩) (by unfold maxLen; omega) (by omega) (by have := HJW.out.size; simp; omega) ?_))
        intro v2 w2 hown2 hg2 _
        have hJ2 := Lib.hid ((HJW.out.alloc _).grown hg2 (owns_snoc hown2))
        clear hown2 hg2 hnew
        go_wp2_with fail
        go_roundw
        case rel => exact ⟨j + 1, a2, 46, fs ++ [⟨k, 0, [], false⟩], by omega, by go_num, .inr ⟨by decide, HQ2.out⟩, .inr (by decide), by have := HL.out; show _ = _; simp [this], hJ2⟩
        case measure => simp [intOf]; omega
      · have hq : R = ([], 0, c) := by rcases HQ.out with ⟨h, _⟩ | ⟨_, h⟩; exact absurd h hc0; exact h
        have e1 : ((c : Int) == 0) = false := by rw [beq_eq_false_iff_ne]; omega
        have e2 : ((c : Int) != 0) = true := by rw [bne_iff_ne]; omega
        have HQ2 := Lib.hid hq
        clear hq HQ hc0
        go_wp2
        go_quiet (fail)
        go_wp2
        refine bodyPost_ret (v := .tuple #[.slice none 0 0, .int .i64 0, .int .i64 (c : Int)]) (by simp [results, Try.results7, go_sem]) rfl ?_
        rw [HQ2.out]
        exact ⟨_, rfl, (HI.out.low.trans (bdN _ _ _)), World.ownsRow_nil _ _ _ _⟩
    · have hjn : j = n := by omega
      by_cases hc0 : c = 0
      · subst hc0
        have hq : R = readF l (ks.drop j) fs a := by rcases HQ.out with ⟨_, h⟩ | ⟨h, _⟩; exact h; exact absurd rfl h
        rw [List.drop_eq_nil_of_le (by have := HN.out; omega)] at hq
        have hq2 : R = (fs, a, 0) := hq
        have HQ2 := Lib.hid hq2
        have h1 : wr.cell? ⟨w.heap.size, 1, none⟩ = some (.int .i64 (a : Int)) := cell_of_row _ _ 1 _ _ _ HI.out.cur
        clear hq hq2 HQ hjn
        go_wp2
        go_quiet (fail)
        go_wp2
        refine bodyPost_ret (v := .tuple #[u8, .int .i64 (a : Int), .int .i64 0]) (by simp [results, Try.results7, go_sem]) rfl ?_
        rw [HQ2.out]
        exact ⟨_, rfl, (HI.out.low.trans (bdN _ _ _)), (owns_mono HI.out.own (by omega))⟩
      · have hq : R = ([], 0, c) := by rcases HQ.out with ⟨h, _⟩ | ⟨_, h⟩; exact absurd h hc0; exact h
        have e1 : ((c : Int) == 0) = false := by rw [beq_eq_false_iff_ne]; omega
        have e2 : ((c : Int) != 0) = true := by rw [bne_iff_ne]; omega
        have HQ2 := Lib.hid hq
        clear hq HQ hc0 hjn
        go_wp2
        go_quiet (fail)
        go_wp2
        refine bodyPost_ret (v := .tuple #[.slice none 0 0, .int .i64 0, .int .i64 (c : Int)]) (by simp [results, Try.results7, go_sem]) rfl ?_
        rw [HQ2.out]
        exact ⟨_, rfl, (HI.out.low.trans (bdN _ _ _)), World.ownsRow_nil _ _ _ _⟩

end Go.Proofs.Ytmekpmboghmfpaa
