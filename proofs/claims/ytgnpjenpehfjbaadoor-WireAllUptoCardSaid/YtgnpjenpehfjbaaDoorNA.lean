/- Wire: All (by program: wip/tools/gen_wire35.py). -/
import Derived.Test.YtgnpjenpehfjbaaDoorMQ
set_option linter.unusedSimpArgs false
set_option linter.unusedVariables false
namespace Go.Proofs.YtgnpjenpehfjbaaDoor
open Go.RowKit

def allR (l : List UInt8) : Nat → List Pkt → Nat → List Pkt × Nat × Nat
  | 0, ps, a => (ps, a, 0)
  | f + 1, ps, a => if a < l.length then (if (nextP (l.drop a)).2.2 ≠ 0 then (ps, a, (nextP (l.drop a)).2.2) else allR l f (ps ++ [(nextP (l.drop a)).1]) (a + (nextP (l.drop a)).2.1)) else (ps, a, 0)
def allP (l : List UInt8) : List Pkt × Nat × Nat := allR l (l.length + 1) [] 0
theorem nextP_len (l : List UInt8) (h : (nextP l).2.2 = 0) : 8 ≤ (nextP l).2.1 ∧ (nextP l).2.1 ≤ l.length := by
  unfold nextP at h ⊢
  obtain ⟨h1, h2, h3⟩ := openF_len l
  split at h
  · rename_i h4; exact absurd h h4
  · rename_i h4
    rw [if_neg h4]
    exact ⟨h3 (by simpa using h4), h2⟩
theorem info_pkt : (Tryd.prog.info? 24).map (fun i => (i.zero, i.size, i.bytes)) = some (some (.agg #[.int .i64 0, .int .i64 0, .int .i64 0, .int .i64 0, .int .i64 0, .int .i64 0, .int .i64 0, .slice none 0 0]), 8, 80) := by kernel_rfl
abbrev OwnQ (w : World) (B : Nat) (v : Value) (qs : List (Pkt × Value)) : Prop := w.ownsRow B 24 8 v qs.length (qs.flatMap fun q => q.1.cells q.2)
/-- behind some rounds of All -/
structure AI (w : World) (qs : List (Pkt × Value)) (lv : Value) (W : World) : Prop where
  low : Below w.heap.size w W
  own : OwnQ W w.heap.size lv qs
  its : ∀ q ∈ qs, OwnX W w.heap.size q.2 q.1.items
theorem AI.below {w : World} {qs : List (Pkt × Value)} {lv : Value} {W W' : World} (h : AI w qs lv W) (hb : Below W.heap.size W W') : AI w qs lv W' :=
  ⟨h.low.trans (hb.mono h.low.size), World.ownsRow.kept h.own (row := none) ⟨hb.os, hb.tape, hb.output, hb.size, fun k hk _ => hb.block k hk⟩ (by
    cases hv : lv.ownBlock with
    | none => exact .inl rfl
    | some k => exact .inr (by simp)), fun q hq => (h.its q hq).below hb⟩
theorem AI.appends {w : World} {qs : List (Pkt × Value)} {lv lv' : Value} {W W' : World} (h : AI w qs lv W) (p : Pkt) (u : Value) (hg : W.grownBy W' lv.ownBlock) (ho : OwnQ W' w.heap.size lv' (qs ++ [(p, u)])) (hi : OwnX W w.heap.size u p.items) : AI w (qs ++ [(p, u)]) lv' W' := by
  have key : ∀ {v : Value} {xs : List Itm}, OwnX W w.heap.size v xs → OwnX W' w.heap.size v xs := fun {v xs} hx => by
    refine World.ownsRow.kept hx hg ?_
    cases hv : v.ownBlock with
    | none => exact .inl rfl
    | some k =>
      refine .inr fun e => ?_
      obtain ⟨c, hc⟩ := owns_kind hx k hv
      obtain ⟨c', hc'⟩ := owns_kind h.own k e.symm
      rw [hc] at hc'
      cases hc'
  refine ⟨h.low.grown hg h.low.size (fun k e => (World.ownsRow.lt h.own k e).1), ho, fun q hq => ?_⟩
  rcases List.mem_append.1 hq with hq | hq
  · exact key (h.its q hq)
  · rw [List.mem_singleton] at hq
    subst hq
    exact key hi

set_option maxRecDepth 100000 in
set_option maxHeartbeats 2000000 in
theorem all_any (v : Value) (l : List UInt8) (w : World) (hb : Bts w w.heap.size v l) (hl : l.length ≤ 100000000) (ht : TabOK w) :
    Calls Tryd.prog 26 #[v] w fun e w' => ∃ (qs : List (Pkt × Value)) (lv : Value), e = .returned (.tuple #[lv, .int .i64 ((allP l).2.1 : Nat), .int .i64 ((allP l).2.2 : Nat)]) ∧ AI w qs lv w' ∧ qs.map Prod.fst = (allP l).1 := by
  obtain ⟨⟨rp, rn, re⟩, hR⟩ : ∃ R, R = allP l := ⟨_, rfl⟩
  rw [← hR]
  dsimp only
  have HR := Lib.hid hR
  have HB := Lib.hid hb
  have HL := Lib.hid hl
  have HT := Lib.hid ht
  obtain ⟨ba, bc, hv, -⟩ := id hb
  obtain ⟨nb, hnb⟩ : ∃ n, n = l.length := ⟨_, rfl⟩
  rw [← hnb] at hv
  subst hv
  have HNB := Lib.hid hnb
  have hnb2 : nb ≤ 100000000 := by omega
  clear hb hl hnb hR ht
  go_enter Tryd.func26, Tryd.ntmps26
  go_wp2_with (fail)
  go_loopw [5, 6] (fun lv av wr => ∃ (qs : List (Pkt × Value)) (ap f n cl : Nat) (al : Option Addr), lv = .slice al n cl ∧ av = .int .i64 (ap : Int) ∧ Hid (allR l f (qs.map Prod.fst) ap = allR l (l.length + 1) [] 0 ∧ l.length + 1 ≤ f + ap ∧ ap ≤ l.length ∧ n = qs.length ∧ qs.length ≤ ap) ∧ Hid (AI w qs (.slice al n cl) wr)) (fun _ av _ => nb - (intOf av).toNat)
  case atStart => exact ⟨[], 0, l.length + 1, 0, 0, none, rfl, rfl, ⟨rfl, by omega, by omega, rfl, by simp⟩, ⟨Below.refl _ _, World.ownsRow_nil _ _ _ _, fun q h => by cases h⟩⟩
  case round =>
    obtain ⟨qs, ap, f, n, cl, al, rfl, rfl, HX, HI⟩ := hrel
    have hal : ap ≤ nb := by rw [HNB.out]; exact HX.out.2.2.1
    obtain ⟨f, rfl⟩ : ∃ f', f = f' + 1 := ⟨f - 1, by have h1 := HX.out.2.1; have h2 := HX.out.2.2.1; omega⟩
    by_cases hlt : ap < nb
    · obtain ⟨⟨np, nn, ne⟩, hN⟩ : ∃ R, R = nextP (l.drop ap) := ⟨_, rfl⟩
      have HST : Hid (allR l (f + 1) (qs.map Prod.fst) ap = if ne ≠ 0 then (qs.map Prod.fst, ap, ne) else allR l f (qs.map Prod.fst ++ [np]) (ap + nn)) := by
        show _ = _
        rw [allR, if_pos (by have := HNB.out; omega), ← hN]
      have hnl := nextP_len (l.drop ap)
      rw [← hN, List.length_drop] at hnl
      dsimp only at hnl
      have HNL := Lib.hid hnl
      obtain ⟨vc, hbc, hcut0⟩ := HB.out.fromB ap HX.out.2.2.1
      have hcut := fun W => hcut0 W .i64
      have hcon := next_any vc (l.drop ap) wr (hbc.below HI.out.low HI.out.low.size) (by rw [List.length_drop]; have := HL.out; omega) (HT.out.below HI.out.low HT.out.lt)
      rw [← hN] at hcon
      dsimp only at hcon
      have HCON := Lib.hid hcon
      clear hN hnl hbc hcut0 hcon
      go_wp2_with (fail)
      with_reducible refine HCON.out.mono ?_
      rintro e w1 ⟨p, u, rfl, hi, hp, hB⟩
      have hi0 := owns_mono hi (show w.heap.size ≤ wr.heap.size from HI.out.low.size)
      obtain ⟨k0, k1, k2, k3, k4, k5, k6, xs⟩ := p
      obtain ⟨au, cu, hu⟩ := owns_form hi
      obtain ⟨mu, hmu⟩ : ∃ m, m = xs.length := ⟨_, rfl⟩
      rw [← hmu] at hu
      subst hu
      obtain ⟨g1, j1⟩ := new_block w1 (.cells #[.int .i64 k0, .int .i64 k1, .int .i64 k2, .int .i64 k3, .int .i64 k4, .int .i64 k5, .int .i64 k6, .slice au mu cu] 24)
      have HI1 := Lib.hid (HI.out.below (hB.trans (g1.mono hB.size)))
      have HX1 := Lib.hid (OwnX.below hi0 g1)
      have HP := Lib.hid hp
      clear hi hi0 hp hB hmu g1 j1 HCON hcut
      by_cases hne : ne = 0
      · have hne0 : (ne : Int) = 0 := by omega
        obtain ⟨wA, hwA⟩ : ∃ W, W = w1.alloc (.cells #[.int .i64 k0, .int .i64 k1, .int .i64 k2, .int .i64 k3, .int .i64 k4, .int .i64 k5, .int .i64 k6, .slice au mu cu] 24) := ⟨_, rfl⟩
        rw [← hwA] at HI1 HX1
        have HWA := Lib.hid hwA
        obtain ⟨g2, j2⟩ := new_block wA (.cells #[.int .i64 k0, .int .i64 k1, .int .i64 k2, .int .i64 k3, .int .i64 k4, .int .i64 k5, .int .i64 k6, .slice au mu cu] 24)
        have hi2 := HI1.out.below g2
        obtain ⟨i0, ji, jz0, jz1, jz2⟩ := info_parts info_pkt
        obtain ⟨gz, capz, W8, hrunz, nz, gz8, -⟩ := op_append_row 52 24 i0 _ 8 80 Tryd.underlying52 ji jz0 jz1 jz2 rfl (by decide) (wA.alloc (.cells #[.int .i64 k0, .int .i64 k1, .int .i64 k2, .int .i64 k3, .int .i64 k4, .int .i64 k5, .int .i64 k6, .slice au mu cu] 24)) w.heap.size (.slice al n cl) qs.length _ wA.heap.size 1 [.int .i64 k0, .int .i64 k1, .int .i64 k2, .int .i64 k3, .int .i64 k4, .int .i64 k5, .int .i64 k6, .slice au mu cu] hi2.own j2 rfl (by intro y hy; simp only [List.mem_cons, List.not_mem_nil, or_false] at hy; rcases hy with rfl | rfl | rfl | rfl | rfl | rfl | rfl | rfl <;> rfl) (by decide) (by have := HX.out.2.2.2.2; have := HX.out.2.2.1; have := HL.out; omega) (by have := HX.out.2.2.2.2; have := HX.out.2.2.1; have := HL.out; omega) hi2.low.size
        rw [← HX.out.2.2.2.1] at hrunz nz
        have nz' : OwnQ W8 w.heap.size (.slice (some ⟨gz, 0, none⟩) (n + 1) capz) (qs ++ [(⟨k0, k1, k2, k3, k4, k5, k6, xs⟩, .slice au mu cu)]) := by
          show World.ownsRow _ _ _ _ _ _ _
          rw [List.length_append, List.flatMap_append, ← HX.out.2.2.2.1]
          simp only [List.flatMap_cons, List.flatMap_nil, List.append_nil]
          exact nz
        have HI8 := Lib.hid (hi2.appends ⟨k0, k1, k2, k3, k4, k5, k6, xs⟩ (.slice au mu cu) gz8 nz' (OwnX.below HX1.out g2))
        rw [hwA] at hrunz
        simp only [World.size_alloc] at hrunz
        have HRZ := Lib.hid hrunz
        have hnn : ap + nn ≤ nb := by have := HNL.out hne; have := HNB.out; omega
        have hn8 : 8 ≤ nn := (HNL.out hne).1
        clear hwA g2 j2 hi2 ji jz0 jz1 jz2 nz nz' gz8 hrunz
        go_wp2_with (at_builtin; (refine wpList_run rfl (HRZ.out _ _ 27 29 rfl rfl rfl rfl) ?_))
        go_roundw
        case rel => exact ⟨qs ++ [(⟨k0, k1, k2, k3, k4, k5, k6, xs⟩, .slice au mu cu)], ap + nn, f, n + 1, capz, some ⟨gz, 0, none⟩, rfl, by go_num, (by
          have h1 := HX.out
          refine ⟨?_, by omega, by have := HNB.out; omega, by simp [h1.2.2.2.1], by simp; omega⟩
          rw [← h1.1, HST.out, if_neg (by simp [hne]), List.map_append]
          rw [show (List.map Prod.fst [((⟨k0, k1, k2, k3, k4, k5, k6, xs⟩ : Pkt), Value.slice au mu cu)]) = [np] from by rw [← HP.out]; rfl]), HI8⟩
        case measure => simp [intOf] <;> omega
      · have hne0 : ¬ ((ne : Int) = 0) := by omega
        have hE : (rp, rn, re) = (qs.map Prod.fst, ap, ne) := by rw [HR.out]; unfold allP; rw [← HX.out.1, HST.out, if_pos hne]
        have HE : Hid (rp = qs.map Prod.fst ∧ rn = ap ∧ re = ne) := ⟨congrArg Prod.fst hE, congrArg (fun x => x.2.1) hE, congrArg (fun x => x.2.2) hE⟩
        clear hE hne
        go_wp2_with (fail)
        exact bodyPost_ret (v := .tuple #[.slice al n cl, .int .i64 (ap : Int), .int .i64 (ne : Nat)]) (by simp [results, Tryd.results26, go_sem]) rfl ⟨qs, .slice al n cl, by rw [HE.out.2.1, HE.out.2.2], HI1.out, HE.out.1.symm⟩
    · have hnlt : ¬ ((ap : Int) < (nb : Int)) := by omega
      have hE : (rp, rn, re) = (qs.map Prod.fst, ap, 0) := by rw [HR.out]; unfold allP; rw [← HX.out.1, allR, if_neg (by have := HNB.out; omega)]
      have HE : Hid (rp = qs.map Prod.fst ∧ rn = ap ∧ re = 0) := ⟨congrArg Prod.fst hE, congrArg (fun x => x.2.1) hE, congrArg (fun x => x.2.2) hE⟩
      clear hE hlt
      go_wp2_with (fail)
      exact bodyPost_ret (v := .tuple #[.slice al n cl, .int .i64 (ap : Int), .int .i64 0]) (by simp [results, Tryd.results26, go_sem]) rfl ⟨qs, .slice al n cl, by rw [HE.out.2.1, HE.out.2.2]; rfl, HI.out, HE.out.1.symm⟩

end Go.Proofs.YtgnpjenpehfjbaaDoor

