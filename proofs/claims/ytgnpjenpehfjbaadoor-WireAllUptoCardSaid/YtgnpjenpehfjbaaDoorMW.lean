/- The document's All (by program: wip/tools/gen_rd10.py). -/
import Derived.Test.YtgnpjenpehfjbaaDoorMT
import Derived.Test.YtgnpjenpehfjbaaDoorNA
import Derived.Test.YtgnpjenpehfjbaaDoorMA
set_option linter.unusedSimpArgs false
set_option linter.unusedVariables false
namespace Go.Proofs.YtgnpjenpehfjbaaDoor
open Go.RowKit

set_option maxRecDepth 100000 in
set_option maxHeartbeats 2000000 in
theorem rall_any (v : Value) (l : List UInt8) (w : World) (hb : Bts w w.heap.size v l) (hl : l.length ≤ 100000000) :
    Calls Tryd.prog 27 #[v] w fun e w' => ∃ (qs : List (Pkt × Value)) (lv : Value), e = .returned (.tuple #[lv, .int .i64 ((allP l).2.1 : Nat), .int .i64 ((allP l).2.2 : Nat)]) ∧ AI w qs lv w' ∧ qs.map Prod.fst = (allP l).1 := by
  obtain ⟨⟨rp, rn, re⟩, hR⟩ : ∃ R, R = allP l := ⟨_, rfl⟩
  rw [← hR]
  dsimp only
  have HR := Lib.hid hR
  have HB := Lib.hid hb
  have HL := Lib.hid hl
  obtain ⟨ba, bc, hv, -⟩ := id hb
  obtain ⟨nb, hnb⟩ : ∃ n, n = l.length := ⟨_, rfl⟩
  rw [← hnb] at hv
  subst hv
  have HNB := Lib.hid hnb
  have hnb2 : nb ≤ 100000000 := by omega
  clear hb hl hnb hR
  go_enter Tryd.func27, Tryd.ntmps27
  go_wp2_with (fail)
  go_loopw [5, 6] (fun lv av wr => ∃ (qs : List (Pkt × Value)) (ap f n cl : Nat) (al : Option Addr), lv = .slice al n cl ∧ av = .int .i64 (ap : Int) ∧ Hid (allR l f (qs.map Prod.fst) ap = allR l (l.length + 1) [] 0 ∧ l.length + 1 ≤ f + ap ∧ ap ≤ l.length ∧ n = qs.length ∧ qs.length ≤ ap) ∧ Hid (AI w qs (.slice al n cl) wr)) (fun _ av _ => nb - (intOf av).toNat)
  case atStart => exact ⟨[], 0, l.length + 1, 0, 0, none, rfl, rfl, ⟨rfl, by omega, by omega, rfl, by simp⟩, ⟨Below.refl _ _, World.ownsRow_nil _ _ _ _, fun q h => by cases h⟩⟩
  case round =>
    obtain ⟨qs, ap, f, n, cl, al, rfl, rfl, HX, HI⟩ := hrel
    have hal : ap ≤ nb := by rw [HNB.out]; exact HX.out.2.2.1
    obtain ⟨f, rfl⟩ : ∃ f', f = f' + 1 := ⟨f - 1, by have h1 := HX.out.2.1; have h2 := HX.out.2.2.1; omega⟩
    by_cases hlt : ap < nb
    · obtain ⟨⟨np, nn, ne⟩, hN⟩ : ∃ R, R = nextP (l.drop ap) := ⟨_, rfl⟩
      have HST : Hid (allR l (f + 1) (qs.map Prod.fst) ap = if ne ≠ 0 then (qs.map Prod.fst, ap, ne) else allR l f (qs.map Prod.fst ++ [np]) (ap + nn)) := by
        show _ = _
        rw [allR, if_pos (by have := HNB.out; omega), ← hN]
      have hnl := nextP_len (l.drop ap)
      rw [← hN, List.length_drop] at hnl
      dsimp only at hnl
      have HNL := Lib.hid hnl
      obtain ⟨⟨bo, fn, fe⟩, hF⟩ : ∃ R, R = openF (l.drop ap) := ⟨_, rfl⟩
      have HNP : Hid ((np, nn, ne) = if fe ≠ 0 then (zeroP, 0, fe) else ((openP bo).1, fn, (openP bo).2)) := by show _ = _; rw [hN]; unfold nextP; rw [← hF]
      have HBL : Hid (bo.length ≤ 100000000) := by
        show _ ≤ _
        have h1 := (openF_len (l.drop ap)).1
        rw [← hF, List.length_drop] at h1
        have := HL.out
        dsimp only at h1
        omega
      obtain ⟨vc, hbc, hcut0⟩ := HB.out.fromB ap HX.out.2.2.1
      have hcut := fun W => hcut0 W .i64
      have hcon := ref_Open vc (l.drop ap) wr (hbc.below HI.out.low HI.out.low.size)
      rw [← hF] at hcon
      dsimp only at hcon
      have HCON := Lib.hid hcon
      clear hN hnl hbc hcut0 hcon hF
      go_wp2_with (fail)
      with_reducible refine HCON.out.mono ?_
      rintro x w0 ⟨v', rfl, ho, hB⟩
      obtain ⟨ab, capb, hvb, -⟩ := ho.bts
      obtain ⟨mb, hmb⟩ : ∃ m, m = bo.length := ⟨_, rfl⟩
      rw [← hmb] at hvb
      subst hvb
      have HI0 := Lib.hid (HI.out.below hB)
      have HBO := Lib.hid ho.bts
      clear HCON ho hmb hB hcut
      by_cases hfe : fe = 0
      case neg =>
        have hfe1 : ((fe : Int) != 0) = true := by rw [bne_iff_ne]; omega
        have hNE : ne = fe ∧ ne ≠ 0 := by
          have h := HNP.out
          rw [if_pos hfe] at h
          have h2 : ne = fe := congrArg (fun x => x.2.2) h
          exact ⟨h2, by omega⟩
        have hE : (rp, rn, re) = (qs.map Prod.fst, ap, fe) := by rw [HR.out]; unfold allP; rw [← HX.out.1, HST.out, if_pos hNE.2, hNE.1]
        have HE : Hid (rp = qs.map Prod.fst ∧ rn = ap ∧ re = fe) := ⟨congrArg Prod.fst hE, congrArg (fun x => x.2.1) hE, congrArg (fun x => x.2.2) hE⟩
        clear hE hNE
        go_wp2_with (fail)
        exact bodyPost_ret (v := .tuple #[.slice al n cl, .int .i64 (ap : Int), .int .i64 (fe : Nat)]) (by simp [results, Tryd.results27, go_sem]) rfl ⟨qs, .slice al n cl, by rw [HE.out.2.1, HE.out.2.2], HI0.out, HE.out.1.symm⟩
      subst hfe
      have hNE : np = (openP bo).1 ∧ nn = fn ∧ ne = (openP bo).2 := by
        have h := HNP.out
        rw [if_neg (by simp)] at h
        exact ⟨congrArg Prod.fst h, congrArg (fun x => x.2.1) h, congrArg (fun x => x.2.2) h⟩
      obtain ⟨h1, h2, h3⟩ := hNE
      subst h2
      have hcon := rdoc_open (.slice ab mb capb) bo w0 HBO.out HBL.out
      rw [← h1, ← h3] at hcon
      have HCON := Lib.hid hcon
      clear hcon h1 h3
      go_wp2_with (fail)
      with_reducible refine HCON.out.mono ?_
      rintro e w1 ⟨p, u, rfl, hi, hp, hB⟩
      have hi0 := owns_mono hi (show w.heap.size ≤ w0.heap.size from HI0.out.low.size)
      obtain ⟨k0, k1, k2, k3, k4, k5, k6, xs⟩ := p
      obtain ⟨au, cu, hu⟩ := owns_form hi
      obtain ⟨mu, hmu⟩ : ∃ m, m = xs.length := ⟨_, rfl⟩
      rw [← hmu] at hu
      subst hu
      obtain ⟨g1, j1⟩ := new_block w1 (.cells #[.int .i64 k0, .int .i64 k1, .int .i64 k2, .int .i64 k3, .int .i64 k4, .int .i64 k5, .int .i64 k6, .slice au mu cu] 24)
      have HI1 := Lib.hid (HI0.out.below (hB.trans (g1.mono hB.size)))
      have HX1 := Lib.hid (OwnX.below hi0 g1)
      have HP := Lib.hid hp
      clear hi hi0 hp hB hmu g1 j1 HCON
      by_cases hne : ne = 0
      · have hne0 : (ne : Int) = 0 := by omega
        obtain ⟨wA, hwA⟩ : ∃ W, W = w1.alloc (.cells #[.int .i64 k0, .int .i64 k1, .int .i64 k2, .int .i64 k3, .int .i64 k4, .int .i64 k5, .int .i64 k6, .slice au mu cu] 24) := ⟨_, rfl⟩
        rw [← hwA] at HI1 HX1
        have HWA := Lib.hid hwA
        obtain ⟨g2, j2⟩ := new_block wA (.cells #[.int .i64 k0, .int .i64 k1, .int .i64 k2, .int .i64 k3, .int .i64 k4, .int .i64 k5, .int .i64 k6, .slice au mu cu] 24)
        have hi2 := HI1.out.below g2
        obtain ⟨i0, ji, jz0, jz1, jz2⟩ := info_parts info_pkt
        obtain ⟨gz, capz, W8, hrunz, nz, gz8, -⟩ := op_append_row 52 24 i0 _ 8 80 Tryd.underlying52 ji jz0 jz1 jz2 rfl (by decide) (wA.alloc (.cells #[.int .i64 k0, .int .i64 k1, .int .i64 k2, .int .i64 k3, .int .i64 k4, .int .i64 k5, .int .i64 k6, .slice au mu cu] 24)) w.heap.size (.slice al n cl) qs.length _ wA.heap.size 1 [.int .i64 k0, .int .i64 k1, .int .i64 k2, .int .i64 k3, .int .i64 k4, .int .i64 k5, .int .i64 k6, .slice au mu cu] hi2.own j2 rfl (by intro y hy; simp only [List.mem_cons, List.not_mem_nil, or_false] at hy; rcases hy with rfl | rfl | rfl | rfl | rfl | rfl | rfl | rfl <;> rfl) (by decide) (by have := HX.out.2.2.2.2; have := HX.out.2.2.1; have := HL.out; omega) (by have := HX.out.2.2.2.2; have := HX.out.2.2.1; have := HL.out; omega) hi2.low.size
        rw [← HX.out.2.2.2.1] at hrunz nz
        have nz' : OwnQ W8 w.heap.size (.slice (some ⟨gz, 0, none⟩) (n + 1) capz) (qs ++ [(⟨k0, k1, k2, k3, k4, k5, k6, xs⟩, .slice au mu cu)]) := by
          show World.ownsRow _ _ _ _ _ _ _
          rw [List.length_append, List.flatMap_append, ← HX.out.2.2.2.1]
          simp only [List.flatMap_cons, List.flatMap_nil, List.append_nil]
          exact nz
        have HI8 := Lib.hid (hi2.appends ⟨k0, k1, k2, k3, k4, k5, k6, xs⟩ (.slice au mu cu) gz8 nz' (OwnX.below HX1.out g2))
        rw [hwA] at hrunz
        simp only [World.size_alloc] at hrunz
        have HRZ := Lib.hid hrunz
        have hnn : ap + nn ≤ nb := by have := HNL.out hne; have := HNB.out; omega
        have hn8 : 8 ≤ nn := (HNL.out hne).1
        clear hwA g2 j2 hi2 ji jz0 jz1 jz2 nz nz' gz8 hrunz
        go_wp2_with (at_builtin; (refine wpList_run rfl (HRZ.out _ _ 38 40 rfl rfl rfl rfl) ?_))
        go_roundw
        case rel => exact ⟨qs ++ [(⟨k0, k1, k2, k3, k4, k5, k6, xs⟩, .slice au mu cu)], ap + nn, f, n + 1, capz, some ⟨gz, 0, none⟩, rfl, by go_num, (by
          have h1 := HX.out
          refine ⟨?_, by omega, by have := HNB.out; omega, by simp [h1.2.2.2.1], by simp; omega⟩
          rw [← h1.1, HST.out, if_neg (by simp [hne]), List.map_append]
          rw [show (List.map Prod.fst [((⟨k0, k1, k2, k3, k4, k5, k6, xs⟩ : Pkt), Value.slice au mu cu)]) = [np] from by rw [← HP.out]; rfl]), HI8⟩
        case measure => simp [intOf] <;> omega
      · have hne0 : ¬ ((ne : Int) = 0) := by omega
        have hE : (rp, rn, re) = (qs.map Prod.fst, ap, ne) := by rw [HR.out]; unfold allP; rw [← HX.out.1, HST.out, if_pos hne]
        have HE : Hid (rp = qs.map Prod.fst ∧ rn = ap ∧ re = ne) := ⟨congrArg Prod.fst hE, congrArg (fun x => x.2.1) hE, congrArg (fun x => x.2.2) hE⟩
        clear hE hne
        go_wp2_with (fail)
        exact bodyPost_ret (v := .tuple #[.slice al n cl, .int .i64 (ap : Int), .int .i64 (ne : Nat)]) (by simp [results, Tryd.results27, go_sem]) rfl ⟨qs, .slice al n cl, by rw [HE.out.2.1, HE.out.2.2], HI1.out, HE.out.1.symm⟩
    · have hnlt : ¬ ((ap : Int) < (nb : Int)) := by omega
      have hE : (rp, rn, re) = (qs.map Prod.fst, ap, 0) := by rw [HR.out]; unfold allP; rw [← HX.out.1, allR, if_neg (by have := HNB.out; omega)]
      have HE : Hid (rp = qs.map Prod.fst ∧ rn = ap ∧ re = 0) := ⟨congrArg Prod.fst hE, congrArg (fun x => x.2.1) hE, congrArg (fun x => x.2.2) hE⟩
      clear hE hlt
      go_wp2_with (fail)
      exact bodyPost_ret (v := .tuple #[.slice al n cl, .int .i64 (ap : Int), .int .i64 0]) (by simp [results, Tryd.results27, go_sem]) rfl ⟨qs, .slice al n cl, by rw [HE.out.2.1, HE.out.2.2]; rfl, HI.out, HE.out.1.symm⟩

end Go.Proofs.YtgnpjenpehfjbaaDoor

