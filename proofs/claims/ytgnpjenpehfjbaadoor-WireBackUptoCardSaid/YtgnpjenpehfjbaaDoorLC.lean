/- WireBack: the law, walked (by program: wip/tools/gen_wireback.py). -/
import Derived.Test.YtgnpjenpehfjbaaDoorMQ
import Derived.Test.YtgnpjenpehfjbaaDoorMM
import Derived.Test.YtgnpjenpehfjbaaDoorML
import Derived.Test.YtgnpjenpehfjbaaDoorMH
set_option linter.unusedSimpArgs false
set_option linter.unusedVariables false
namespace Go.Proofs.YtgnpjenpehfjbaaDoor
open Go.RowKit

def fitL (qs : List (Pkt × Value)) : List (Pkt × Value) := qs.filter fun q => fitP q.1
theorem fitL_len (qs : List (Pkt × Value)) (i : Nat) : (fitL (qs.take i)).length ≤ qs.length := by
  unfold fitL
  have := List.length_filter_le (fun q : Pkt × Value => fitP q.1) (qs.take i)
  have := List.length_take_le i qs
  rw [List.length_take] at *
  omega
theorem fitL_snoc (qs : List (Pkt × Value)) (i : Nat) (q : Pkt × Value) (h : qs[i]? = some q) : fitL (qs.take (i + 1)) = fitL (qs.take i) ++ (if fitP q.1 then [q] else []) := by
  unfold fitL
  rw [List.take_add_one, h]
  simp only [Option.toList_some, List.filter_append]
  congr 1
  cases hf : fitP q.1 <;> simp [hf]
def frames (qs : List (Pkt × Value)) : List UInt8 := ((fitL qs).map Prod.fst).flatMap encB
theorem frames_pre (qs : List (Pkt × Value)) (i : Nat) : (frames (qs.take i)).length ≤ (frames qs).length := by
  unfold frames fitL
  conv => rhs; rw [← List.take_append_drop i qs, List.filter_append, List.map_append, List.flatMap_append, List.length_append]
  omega

theorem Bts.pre {w : World} {B n c : Nat} {ao : Option Addr} {l : List UInt8} (h : Bts w B (.slice ao n c) l) (k : Nat) (hk : k ≤ l.length) : Bts w B (.slice ao k c) (l.take k) := by
  obtain ⟨ao', cap, e, hc, hm, hn, hl⟩ := h
  injection e with e1 e2 e3
  subst e1; subst e3
  have hlen : (l.take k).length = k := by rw [List.length_take]; omega
  refine ⟨ao, c, by rw [hlen], by omega, by omega, hn, fun hne => ?_⟩
  obtain ⟨b, off, r1, r2, r3⟩ := hl (by intro h; subst h; simp at hne)
  refine ⟨b, off, r1, r2, fun i hi => ?_⟩
  rw [hlen] at hi
  rw [r3 i (by omega)]
  simp [List.getD, List.getElem?_take_of_lt hi]

set_option maxRecDepth 100000 in
set_option maxHeartbeats 4000000 in
theorem law_WireBack (v : Value) (qs : List (Pkt × Value)) (cut : Int) (w : World) (hv : Pks w w.heap.size v qs) (hok : ∀ q ∈ qs, PkOk q.1) (hn : qs.length ≤ 2000000) (htot : (frames qs).length ≤ 100000000) (hc : -9223372036854775808 ≤ cut ∧ cut < 9223372036854775808) (ht : TabOK w) :
    Calls Tryd.prog 9 #[v, .int .i64 cut] w fun e w' => e = .returned (.bool true) ∧ Below w.heap.size w w' := by
  obtain ⟨⟨ao, cap, rfl, hcap, hmx, -⟩, -⟩ := id hv
  have HV := Lib.hid hv
  have HOK := Lib.hid hok
  have HQN := Lib.hid hn
  have HTOT := Lib.hid htot
  have HC := Lib.hid hc
  have HT := Lib.hid ht
  obtain ⟨n, hnn⟩ : ∃ n, n = qs.length := ⟨_, rfl⟩
  rw [← hnn] at HV HQN ⊢
  have hn6 : n ≤ 2000000 := by omega
  have HN := Lib.hid hnn
  clear hv hok hn htot hc ht hnn hcap hmx
  go_enter Tryd.func9, Tryd.ntmps9
  go_wp2_with (fail)
  go_loopw [5, 6, 7, 26] (fun bv ev fv iv wr => ∃ (k nb ne nf cb ce cf : Nat) (ab ae af : Option Addr), k ≤ n ∧ iv = .int .i64 (k : Int) ∧ bv = .slice ab nb cb ∧ ev = .slice ae ne ce ∧ fv = .slice af nf cf ∧ Hid (nb = (frames (qs.take k)).length ∧ ne = (fitL (qs.take k)).length ∧ nf = (fitL (qs.take k)).length) ∧ Hid (BI w ((fitL (qs.take k)).map Prod.fst) (fitL (qs.take k)) bv ev fv wr)) (fun _ _ _ iv _ => n - (intOf iv).toNat)
  case atStart => exact ⟨0, 0, 0, 0, 0, 0, 0, none, none, none, by omega, rfl, rfl, rfl, rfl, ⟨rfl, rfl, rfl⟩, ⟨Below.refl _ _, World.ownsRow_nil _ _ _ _, World.ownsRow_nil _ _ _ _, World.ownsRow_nil _ _ _ _, rfl, (fun p h => by cases h)⟩⟩
  case round =>
    obtain ⟨k, nb, ne, nf, cb, ce, cf, ab, ae, af, hk, rfl, rfl, rfl, rfl, HX, HI⟩ := hrel
    by_cases hlt : k < n
    · have hkx : k < qs.length := by have := HN.out; omega
      have HVW := HV.out.below HI.out.low HI.out.low.size
      obtain ⟨ao', cap', he, -, -, hrow⟩ := HVW.row
      injection he with he1 he2 he3
      obtain ⟨ib, off, hao, hib, hcc⟩ := hrow (by intro e; rw [e] at hkx; simp at hkx)
      rw [hao] at he1
      subst he1
      obtain ⟨⟨p, u⟩, hq⟩ : ∃ q, q = qs[k] := ⟨_, rfl⟩
      have hqk : qs[k]? = some (p, u) := by rw [hq]; exact List.getElem?_eq_getElem hkx
      have hrk := hcc k _ hqk
      have hmem : (p, u) ∈ qs := by rw [hq]; exact List.getElem_mem hkx
      have hims := (HVW.its _ hmem).1
      have hpok := HOK.out _ hmem
      have hnl : ∀ x ∈ p.items, x.name.length ≤ 9223372036854775807 := fun x hx => (hpok.items x hx).1
      obtain ⟨k0, k1, k2, k3, k4, k5, k6, xs⟩ := p
      obtain ⟨au, cu, hu, -, -⟩ := hims.slice
      obtain ⟨mu, hmu⟩ : ∃ m, m = xs.length := ⟨_, rfl⟩
      simp only at hu hims hrk hnl hqk
      rw [← hmu] at hu
      subst hu
      have HNL := Lib.hid hnl
      have HQK := Lib.hid hqk
      have HMS := Lib.hid (And.intro hmem hpok)
      have hki : 0 ≤ (k : Int) ∧ (k : Int) < (n : Int) := by omega
      obtain ⟨g1, kx⟩ := new_block wr (.cells #[.int .i64 k0, .int .i64 k1, .int .i64 k2, .int .i64 k3, .int .i64 k4, .int .i64 k5, .int .i64 k6, .slice au mu cu] 24)
      have HI1 := Lib.hid (HI.out.below g1)
      have HIM1 := Lib.hid (hims.below g1 g1.size)
      have KX := Lib.hid kx
      have ld0 : ∀ j u, ((⟨k0, k1, k2, k3, k4, k5, k6, xs⟩ : Pkt).cells (.slice au mu cu))[j]? = some u → wr.cell? ⟨ib, off + k * 8 + j, none⟩ = some u := fun j u hu => hrk j u hu
      have c0 : wr.cell? ⟨ib, off + k * 8 + 0, none⟩ = some (.int .i64 k0) := ld0 0 _ rfl
      have c1 : wr.cell? ⟨ib, off + k * 8 + 1, none⟩ = some (.int .i64 k1) := ld0 1 _ rfl
      have c2 : wr.cell? ⟨ib, off + k * 8 + 2, none⟩ = some (.int .i64 k2) := ld0 2 _ rfl
      have c3 : wr.cell? ⟨ib, off + k * 8 + 3, none⟩ = some (.int .i64 k3) := ld0 3 _ rfl
      have c4 : wr.cell? ⟨ib, off + k * 8 + 4, none⟩ = some (.int .i64 k4) := ld0 4 _ rfl
      have c5 : wr.cell? ⟨ib, off + k * 8 + 5, none⟩ = some (.int .i64 k5) := ld0 5 _ rfl
      have c6 : wr.cell? ⟨ib, off + k * 8 + 6, none⟩ = some (.int .i64 k6) := ld0 6 _ rfl
      have c7 : wr.cell? ⟨ib, off + k * 8 + 7, none⟩ = some (.slice au mu cu) := ld0 7 _ rfl
      rw [Nat.add_zero] at c0
      have hfit := Lib.hid (rfit_any (⟨k0, k1, k2, k3, k4, k5, k6, xs⟩ : Pkt) (.slice au mu cu) (wr.alloc (.cells #[.int .i64 k0, .int .i64 k1, .int .i64 k2, .int .i64 k3, .int .i64 k4, .int .i64 k5, .int .i64 k6, .slice au mu cu] 24)) HIM1.out hnl)
      clear HVW he2 he3 hrow hao hib hcc hq hqk hrk hmem hims hpok hnl hmu g1 kx ld0 hkx
      go_wp2_with (fail)
      with_reducible refine hfit.out.mono ?_
      rintro e w1 ⟨rfl, hB⟩
      obtain ⟨xb, hxb⟩ : ∃ b, b = wr.heap.size := ⟨_, rfl⟩
      rw [← hxb] at KX
      simp only [← hxb]
      have HXB := Lib.hid hxb
      have HI2 := Lib.hid (HI1.out.below hB)
      have HIM2 := Lib.hid (HIM1.out.below hB hB.size)
      have KX2 := Lib.hid (stays KX.out hB)
      clear hB hxb hfit c0 c1 c2 c3 c4 c5 c6 c7 HI1 HIM1 KX
      cases hf : fitP (⟨k0, k1, k2, k3, k4, k5, k6, xs⟩ : Pkt) with
      | false =>
        have hsn := fitL_snoc qs k _ HQK.out
        simp only [hf, Bool.false_eq_true, if_false, List.append_nil] at hsn
        have HSN := Lib.hid hsn
        clear hf hsn
        go_wp2_with (fail)
        go_roundw
        case rel => exact ⟨k + 1, nb, ne, nf, cb, ce, cf, ab, ae, af, by omega, by go_num, rfl, rfl, rfl, (by
          have h1 := HX.out
          unfold frames at h1 ⊢
          rw [HSN.out]
          exact h1), (by rw [HSN.out]; exact HI2.out)⟩
        case measure => simp [intOf] <;> omega
      | true =>
        have hsn := fitL_snoc qs k _ HQK.out
        simp only [hf, if_true] at hsn
        have HSN := Lib.hid hsn
        have HF := Lib.hid hf
        have hw1 : 0 < w.heap.size := HT.out.lt
        have henc := Lib.hid (encode_any (⟨k0, k1, k2, k3, k4, k5, k6, xs⟩ : Pkt) (.slice au mu cu) w1 HIM2.out HNL.out (HT.out.below HI2.out.low hw1))
        have c0 : w1.cell? ⟨xb, 0, none⟩ = some (.int .i64 k0) := cell_of_row _ _ 0 _ _ _ KX2.out
        have c1 : w1.cell? ⟨xb, 1, none⟩ = some (.int .i64 k1) := cell_of_row _ _ 1 _ _ _ KX2.out
        have c2 : w1.cell? ⟨xb, 2, none⟩ = some (.int .i64 k2) := cell_of_row _ _ 2 _ _ _ KX2.out
        have c3 : w1.cell? ⟨xb, 3, none⟩ = some (.int .i64 k3) := cell_of_row _ _ 3 _ _ _ KX2.out
        have c4 : w1.cell? ⟨xb, 4, none⟩ = some (.int .i64 k4) := cell_of_row _ _ 4 _ _ _ KX2.out
        have c5 : w1.cell? ⟨xb, 5, none⟩ = some (.int .i64 k5) := cell_of_row _ _ 5 _ _ _ KX2.out
        have c6 : w1.cell? ⟨xb, 6, none⟩ = some (.int .i64 k6) := cell_of_row _ _ 6 _ _ _ KX2.out
        have c7 : w1.cell? ⟨xb, 7, none⟩ = some (.slice au mu cu) := cell_of_row _ _ 7 _ _ _ KX2.out
        clear hf hsn hw1
        go_wp2_with (fail)
        with_reducible refine henc.out.mono ?_
        rintro e w2 ⟨xv, rfl, ho, hB⟩
        have HI3 := Lib.hid (HI2.out.below hB)
        have HIM3 := Lib.hid (HIM2.out.below hB hB.size)
        have KX3 := Lib.hid (stays KX2.out hB)
        have hdec := Lib.hid (decode_any xv (encB (⟨k0, k1, k2, k3, k4, k5, k6, xs⟩ : Pkt)) w2 ho.bts (by rw [encB_len HF.out]; have := bodyB_len HF.out; omega) (HT.out.below HI3.out.low HT.out.lt))
        rw [decode_back HF.out] at hdec
        have HXO := Lib.hid ho.bts
        obtain ⟨ax, cx, hxv, -⟩ := ho.bts
        obtain ⟨nx, hnx⟩ : ∃ n, n = (encB (⟨k0, k1, k2, k3, k4, k5, k6, xs⟩ : Pkt)).length := ⟨_, rfl⟩
        rw [← hnx] at hxv
        have HNX := Lib.hid hnx
        subst hxv
        clear c0 c1 c2 c3 c4 c5 c6 c7
        clear henc ho hB HI2 HIM2 KX2 hnx
        go_wp2_with (fail)
        with_reducible refine hdec.out.mono ?_
        rintro e w3 ⟨p', u', rfl, hi, hp, hB⟩
        have hp' : p' = (⟨k0, k1, k2, k3, k4, k5, k6, xs⟩ : Pkt) := hp
        subst hp'
        obtain ⟨au2, cu2, hu2⟩ := owns_form hi
        obtain ⟨mu2, hmu2⟩ : ∃ m, m = xs.length := ⟨_, rfl⟩
        simp only at hu2
        rw [← hmu2] at hu2
        subst hu2
        obtain ⟨g4, ky⟩ := new_block w3 (.cells #[.int .i64 k0, .int .i64 k1, .int .i64 k2, .int .i64 k3, .int .i64 k4, .int .i64 k5, .int .i64 k6, .slice au2 mu2 cu2] 24)
        obtain ⟨yb, hyb⟩ : ∃ b, b = w3.heap.size := ⟨_, rfl⟩
        have HI4 := Lib.hid (HI3.out.below (hB.trans (g4.mono hB.size)))
        have HIM4 := Lib.hid (HIM3.out.below (hB.trans (g4.mono hB.size)) (hB.trans (g4.mono hB.size)).size)
        have KX4 := Lib.hid (stays KX3.out (hB.trans (g4.mono hB.size)))
        have HXO4 := Lib.hid (HXO.out.below (hB.trans (g4.mono hB.size)) (hB.trans (g4.mono hB.size)).size)
        have HIU4 := Lib.hid ((OwnX.ims (OwnX.below hi g4)).1)
        have KY4 := Lib.hid ky
        rw [← hyb] at KY4
        have hsm := Lib.hid (same_any (⟨k0, k1, k2, k3, k4, k5, k6, xs⟩ : Pkt) (⟨k0, k1, k2, k3, k4, k5, k6, xs⟩ : Pkt) (.slice au mu cu) (.slice au2 mu2 cu2) (w3.alloc (.cells #[.int .i64 k0, .int .i64 k1, .int .i64 k2, .int .i64 k3, .int .i64 k4, .int .i64 k5, .int .i64 k6, .slice au2 mu2 cu2] 24)) HIM4.out HIU4.out)
        rw [sameP_iff.2 rfl] at hsm
        have c0 : (w3.alloc (.cells #[.int .i64 k0, .int .i64 k1, .int .i64 k2, .int .i64 k3, .int .i64 k4, .int .i64 k5, .int .i64 k6, .slice au2 mu2 cu2] 24)).cell? ⟨xb, 0, none⟩ = some (.int .i64 k0) := cell_of_row _ _ 0 _ _ _ KX4.out
        have c1 : (w3.alloc (.cells #[.int .i64 k0, .int .i64 k1, .int .i64 k2, .int .i64 k3, .int .i64 k4, .int .i64 k5, .int .i64 k6, .slice au2 mu2 cu2] 24)).cell? ⟨xb, 1, none⟩ = some (.int .i64 k1) := cell_of_row _ _ 1 _ _ _ KX4.out
        have c2 : (w3.alloc (.cells #[.int .i64 k0, .int .i64 k1, .int .i64 k2, .int .i64 k3, .int .i64 k4, .int .i64 k5, .int .i64 k6, .slice au2 mu2 cu2] 24)).cell? ⟨xb, 2, none⟩ = some (.int .i64 k2) := cell_of_row _ _ 2 _ _ _ KX4.out
        have c3 : (w3.alloc (.cells #[.int .i64 k0, .int .i64 k1, .int .i64 k2, .int .i64 k3, .int .i64 k4, .int .i64 k5, .int .i64 k6, .slice au2 mu2 cu2] 24)).cell? ⟨xb, 3, none⟩ = some (.int .i64 k3) := cell_of_row _ _ 3 _ _ _ KX4.out
        have c4 : (w3.alloc (.cells #[.int .i64 k0, .int .i64 k1, .int .i64 k2, .int .i64 k3, .int .i64 k4, .int .i64 k5, .int .i64 k6, .slice au2 mu2 cu2] 24)).cell? ⟨xb, 4, none⟩ = some (.int .i64 k4) := cell_of_row _ _ 4 _ _ _ KX4.out
        have c5 : (w3.alloc (.cells #[.int .i64 k0, .int .i64 k1, .int .i64 k2, .int .i64 k3, .int .i64 k4, .int .i64 k5, .int .i64 k6, .slice au2 mu2 cu2] 24)).cell? ⟨xb, 5, none⟩ = some (.int .i64 k5) := cell_of_row _ _ 5 _ _ _ KX4.out
        have c6 : (w3.alloc (.cells #[.int .i64 k0, .int .i64 k1, .int .i64 k2, .int .i64 k3, .int .i64 k4, .int .i64 k5, .int .i64 k6, .slice au2 mu2 cu2] 24)).cell? ⟨xb, 6, none⟩ = some (.int .i64 k6) := cell_of_row _ _ 6 _ _ _ KX4.out
        have c7 : (w3.alloc (.cells #[.int .i64 k0, .int .i64 k1, .int .i64 k2, .int .i64 k3, .int .i64 k4, .int .i64 k5, .int .i64 k6, .slice au2 mu2 cu2] 24)).cell? ⟨xb, 7, none⟩ = some (.slice au mu cu) := cell_of_row _ _ 7 _ _ _ KX4.out
        have hyx : xb < w3.heap.size := by
          have h1 := (Array.getElem?_eq_some_iff.1 KX3.out).1
          have := hB.size
          omega
        clear hdec hi hp hB g4 ky hmu2 HI3 HIM3 KX3 HXO
        go_wp2_with (fail)
        with_reducible refine hsm.out.mono ?_
        rintro e w5 ⟨rfl, hB⟩
        simp only [← hyb]
        have HYB := Lib.hid hyb
        have HI5 := Lib.hid (HI4.out.below hB)
        have HIM5 := Lib.hid (HIM4.out.below hB hB.size)
        have KX5 := Lib.hid (stays KX4.out hB)
        have KY5 := Lib.hid (stays KY4.out hB)
        have HXO5 := Lib.hid (HXO4.out.below hB hB.size)
        have HIU5 := Lib.hid (HIU4.out.below hB hB.size)
        have hrs := Lib.hid (rsame_any (⟨k0, k1, k2, k3, k4, k5, k6, xs⟩ : Pkt) (⟨k0, k1, k2, k3, k4, k5, k6, xs⟩ : Pkt) (.slice au mu cu) (.slice au2 mu2 cu2) w5 HIM5.out HIU5.out)
        rw [sameP_iff.2 rfl] at hrs
        clear c0 c1 c2 c3 c4 c5 c6 c7
        clear hsm hB hyb hyx HI4 HIM4 KX4 KY4 HXO4 HIU4
        have c0 : w5.cell? ⟨xb, 0, none⟩ = some (.int .i64 k0) := cell_of_row _ _ 0 _ _ _ KX5.out
        have c1 : w5.cell? ⟨xb, 1, none⟩ = some (.int .i64 k1) := cell_of_row _ _ 1 _ _ _ KX5.out
        have c2 : w5.cell? ⟨xb, 2, none⟩ = some (.int .i64 k2) := cell_of_row _ _ 2 _ _ _ KX5.out
        have c3 : w5.cell? ⟨xb, 3, none⟩ = some (.int .i64 k3) := cell_of_row _ _ 3 _ _ _ KX5.out
        have c4 : w5.cell? ⟨xb, 4, none⟩ = some (.int .i64 k4) := cell_of_row _ _ 4 _ _ _ KX5.out
        have c5 : w5.cell? ⟨xb, 5, none⟩ = some (.int .i64 k5) := cell_of_row _ _ 5 _ _ _ KX5.out
        have c6 : w5.cell? ⟨xb, 6, none⟩ = some (.int .i64 k6) := cell_of_row _ _ 6 _ _ _ KX5.out
        have c7 : w5.cell? ⟨xb, 7, none⟩ = some (.slice au mu cu) := cell_of_row _ _ 7 _ _ _ KX5.out
        have y0 : w5.cell? ⟨yb, 0, none⟩ = some (.int .i64 k0) := cell_of_row _ _ 0 _ _ _ KY5.out
        have y1 : w5.cell? ⟨yb, 1, none⟩ = some (.int .i64 k1) := cell_of_row _ _ 1 _ _ _ KY5.out
        have y2 : w5.cell? ⟨yb, 2, none⟩ = some (.int .i64 k2) := cell_of_row _ _ 2 _ _ _ KY5.out
        have y3 : w5.cell? ⟨yb, 3, none⟩ = some (.int .i64 k3) := cell_of_row _ _ 3 _ _ _ KY5.out
        have y4 : w5.cell? ⟨yb, 4, none⟩ = some (.int .i64 k4) := cell_of_row _ _ 4 _ _ _ KY5.out
        have y5 : w5.cell? ⟨yb, 5, none⟩ = some (.int .i64 k5) := cell_of_row _ _ 5 _ _ _ KY5.out
        have y6 : w5.cell? ⟨yb, 6, none⟩ = some (.int .i64 k6) := cell_of_row _ _ 6 _ _ _ KY5.out
        have y7 : w5.cell? ⟨yb, 7, none⟩ = some (.slice au2 mu2 cu2) := cell_of_row _ _ 7 _ _ _ KY5.out
        go_wp2_with (fail)
        with_reducible refine hrs.out.mono ?_
        rintro e w6 ⟨rfl, hB⟩
        have HI6 := Lib.hid (HI5.out.below hB)
        have KX6 := Lib.hid (stays KX5.out hB)
        have HXO6 := Lib.hid (HXO5.out.below hB hB.size)
        clear c0 c1 c2 c3 c4 c5 c6 c7
        clear y0 y1 y2 y3 y4 y5 y6 y7
        clear hrs hB HI5 KX5 KY5 HXO5 HIU5 HIM5
        have hfr : (((fitL (qs.take k)).map Prod.fst).flatMap encB ++ encB (⟨k0, k1, k2, k3, k4, k5, k6, xs⟩ : Pkt)) = frames (qs.take (k + 1)) := by
          unfold frames
          rw [HSN.out, List.map_append, List.flatMap_append]
          simp only [List.map_cons, List.map_nil, List.flatMap_cons, List.flatMap_nil, List.append_nil]
        have hlen : (((fitL (qs.take k)).map Prod.fst).flatMap encB).length + (encB (⟨k0, k1, k2, k3, k4, k5, k6, xs⟩ : Pkt)).length ≤ 100000000 := by
          rw [← List.length_append, hfr]
          exact Nat.le_trans (frames_pre qs (k + 1)) HTOT.out
        have HFR := Lib.hid hfr
        have HLEN := Lib.hid hlen
        clear hfr hlen
        go_wp2_with (at_builtin; (refine wpList_append_bts rfl _ _ rfl w.heap.size _ (((fitL (qs.take k)).map Prod.fst).flatMap encB) rfl HI6.out.ob _ (encB (⟨k0, k1, k2, k3, k4, k5, k6, xs⟩ : Pkt)) _ rfl HXO6.out (Nat.le_trans HLEN.out (by decide)) HI6.out.low.size ?_))
        intro bv' w7 ob7 g7 _
        rw [HFR.out] at ob7
        obtain ⟨ab', cb', hbv, -⟩ := ob7.bts
        obtain ⟨nb', hnb'⟩ : ∃ m, m = (frames (qs.take (k + 1))).length := ⟨_, rfl⟩
        rw [← hnb'] at hbv
        subst hbv
        have HNB := Lib.hid hnb'
        obtain ⟨g8, j8⟩ := new_block w7 (.cells #[.int .i64 (nb' : Int)] 3)
        have oe7 := owns_kept HI6.out.ob HI6.out.oe (by decide) g7
        have kx7 := row_grown HI6.out.ob KX6.out (by decide) g7
        have l7 : Below w.heap.size w w7 := HI6.out.low.grown g7 HI6.out.low.size (fun j e => (World.ownsRow.lt HI6.out.ob j e).1)
        have hle : (endsI ((fitL (qs.take k)).map Prod.fst)).length ≤ 2000000 := by
          rw [endsI_len, List.length_map]
          exact Nat.le_trans (fitL_len qs k) (by have := HN.out; have := HQN.out; omega)
        obtain ⟨i0, ji, jz0, jz1, jz2⟩ := info_parts info_int
        obtain ⟨ga, capa, w9, hrun2, n2, g9, -⟩ := op_append_row 58 3 i0 _ 1 8 Tryd.underlying58 ji jz0 jz1 jz2 rfl (by decide) (w7.alloc (.cells #[.int .i64 (nb' : Int)] 3)) w.heap.size (.slice ae ne ce) (endsI ((fitL (qs.take k)).map Prod.fst)).length _ w7.heap.size 1 [.int .i64 (nb' : Int)] (owns_below oe7 g8) j8 rfl (by intro y hy; simp only [List.mem_cons, List.not_mem_nil, or_false] at hy; subst hy; rfl) (by decide) (by omega) (by omega) (Nat.le_trans l7.size g8.size)
        have HEL : Hid ((endsI ((fitL (qs.take k)).map Prod.fst)).length = ne) := by
          show _ = _
          rw [endsI_len, List.length_map]
          exact HX.out.2.1.symm
        have HFS : Hid (((((fitL (qs.take k)).map Prod.fst) ++ [(⟨k0, k1, k2, k3, k4, k5, k6, xs⟩ : Pkt)]).flatMap encB).length = nb') := by
          show _ = _
          rw [HNB.out, ← HFR.out, List.flatMap_append]
          simp only [List.flatMap_cons, List.flatMap_nil, List.append_nil]
        rw [HEL.out] at hrun2 n2 hle
        have ev9 : OwnK w9 w.heap.size (.slice (some ⟨ga, 0, none⟩) (ne + 1) capa) (endsI ((fitL (qs.take k)).map Prod.fst ++ [(⟨k0, k1, k2, k3, k4, k5, k6, xs⟩ : Pkt)])) := by
          show World.ownsRow _ _ _ _ _ _ _
          rw [endsI_snoc, List.length_append, List.map_append, HEL.out, HFS.out]
          exact n2
        have oq7 := owns_kept HI6.out.ob HI6.out.oq (by decide) g7
        have oq9 := owns_kept (owns_below oe7 g8) (owns_below oq7 g8) (by decide) g9
        have kx9 := row_grown (owns_below oe7 g8) (stays kx7 g8) (by decide) g9
        have l8 := l7.trans (g8.mono l7.size)
        have l9 : Below w.heap.size w w9 := l8.grown g9 l8.size (fun j e => (World.ownsRow.lt (owns_below oe7 g8) j e).1)
        obtain ⟨g10, j10⟩ := new_block w9 (.cells #[.int .i64 k0, .int .i64 k1, .int .i64 k2, .int .i64 k3, .int .i64 k4, .int .i64 k5, .int .i64 k6, .slice au mu cu] 24)
        obtain ⟨q0, qi, qz0, qz1, qz2⟩ := info_parts info_pkt
        have hlq : (fitL (qs.take k)).length ≤ 2000000 := Nat.le_trans (fitL_len qs k) (by have := HN.out; have := HQN.out; omega)
        obtain ⟨gz, capz, w11, hrun3, n3, g11, -⟩ := op_append_row 52 24 q0 _ 8 80 Tryd.underlying52 qi qz0 qz1 qz2 rfl (by decide) (w9.alloc (.cells #[.int .i64 k0, .int .i64 k1, .int .i64 k2, .int .i64 k3, .int .i64 k4, .int .i64 k5, .int .i64 k6, .slice au mu cu] 24)) w.heap.size (.slice af nf cf) (fitL (qs.take k)).length _ w9.heap.size 1 [.int .i64 k0, .int .i64 k1, .int .i64 k2, .int .i64 k3, .int .i64 k4, .int .i64 k5, .int .i64 k6, .slice au mu cu] (owns_below oq9 g10) j10 rfl (by intro y hy; simp only [List.mem_cons, List.not_mem_nil, or_false] at hy; rcases hy with rfl | rfl | rfl | rfl | rfl | rfl | rfl | rfl <;> rfl) (by decide) (by omega) (by omega) (Nat.le_trans l9.size g10.size)
        rw [← HX.out.2.2] at hrun3 n3
        have fv11 : OwnQ w11 w.heap.size (.slice (some ⟨gz, 0, none⟩) (nf + 1) capz) (fitL (qs.take k) ++ [((⟨k0, k1, k2, k3, k4, k5, k6, xs⟩ : Pkt), (.slice au mu cu))]) := by
          show World.ownsRow _ _ _ _ _ _ _
          rw [List.length_append, List.flatMap_append, ← HX.out.2.2]
          simp only [List.flatMap_cons, List.flatMap_nil, List.append_nil]
          exact n3
        have ob7' : Own w7 w.heap.size (.slice ab' nb' cb') (((fitL (qs.take k)).map Prod.fst).flatMap encB ++ encB (⟨k0, k1, k2, k3, k4, k5, k6, xs⟩ : Pkt)) := by
          rw [HFR.out]; exact ob7
        have hst := HI6.out.step (p := (⟨k0, k1, k2, k3, k4, k5, k6, xs⟩ : Pkt)) (u := (.slice au mu cu)) HF.out g7 ob7' g8 g9 ev9 g10 g11 fv11
        have HST := Lib.hid hst
        have HR2 := Lib.hid hrun2
        have HR3 := Lib.hid hrun3
        have c7x := Lib.hid kx9
        have c0 : w9.cell? ⟨xb, 0, none⟩ = some (.int .i64 k0) := cell_of_row _ _ 0 _ _ _ c7x.out
        have c1 : w9.cell? ⟨xb, 1, none⟩ = some (.int .i64 k1) := cell_of_row _ _ 1 _ _ _ c7x.out
        have c2 : w9.cell? ⟨xb, 2, none⟩ = some (.int .i64 k2) := cell_of_row _ _ 2 _ _ _ c7x.out
        have c3 : w9.cell? ⟨xb, 3, none⟩ = some (.int .i64 k3) := cell_of_row _ _ 3 _ _ _ c7x.out
        have c4 : w9.cell? ⟨xb, 4, none⟩ = some (.int .i64 k4) := cell_of_row _ _ 4 _ _ _ c7x.out
        have c5 : w9.cell? ⟨xb, 5, none⟩ = some (.int .i64 k5) := cell_of_row _ _ 5 _ _ _ c7x.out
        have c6 : w9.cell? ⟨xb, 6, none⟩ = some (.int .i64 k6) := cell_of_row _ _ 6 _ _ _ c7x.out
        have c7 : w9.cell? ⟨xb, 7, none⟩ = some (.slice au mu cu) := cell_of_row _ _ 7 _ _ _ c7x.out
        clear hst hrun2 hrun3 n2 n3 g8 g9 g10 g11 j8 j10 oe7 kx7 l7 l8 l9 oq7 oq9 kx9 ji jz0 jz1 jz2 qi qz0 qz1 qz2 hlq hle ob7 ob7' hnb' fv11 ev9 g7 HI6 KX6 HXO6
        go_wp2_with (at_builtin; (first | refine wpList_run rfl (HR2.out _ _ 57 60 rfl rfl rfl rfl) ?_ | refine wpList_run rfl (HR3.out _ _ 62 65 rfl rfl rfl rfl) ?_ | refine wpList_run rfl (HR3.out _ _ 62 64 rfl rfl rfl rfl) ?_))
        go_roundw
        case rel => exact ⟨k + 1, nb', ne + 1, nf + 1, cb', capa, capz, ab', some ⟨ga, 0, none⟩, some ⟨gz, 0, none⟩, by omega, by go_num, rfl, rfl, rfl, (by
          refine ⟨HNB.out, ?_, ?_⟩ <;> (rw [HSN.out, List.length_append, List.length_singleton]; have := HX.out; omega)), (by
          rw [HSN.out, List.map_append]
          exact HST.out)⟩
        case measure => simp [intOf] <;> omega
    · have hnk : ¬ ((k : Int) < (n : Int)) := by omega
      have hke : k = n := by omega
      subst hke
      have htk : qs.take k = qs := by rw [HN.out, List.take_length]
      rw [htk] at HX HI
      have hfit : ∀ p ∈ (fitL qs).map Prod.fst, fitP p = true := HI.out.fit
      have hal := Lib.hid (all_any (.slice ab nb cb) (frames qs) wr HI.out.ob.bts (Nat.le_trans HTOT.out (by decide)) (HT.out.below HI.out.low HT.out.lt))
      have hab : allP (frames qs) = ((fitL qs).map Prod.fst, (frames qs).length, 0) := all_back _ hfit
      rw [hab] at hal
      dsimp only at hal
      have HFIT := Lib.hid hfit
      clear hfit hab htk
      go_wp2_with (fail)
      with_reducible refine hal.out.mono ?_
      rintro e w1 ⟨gs2, lv, rfl, hai, hpm⟩
      have HI1 := Lib.hid (HI.out.below hai.low)
      obtain ⟨al, cl, hlv⟩ := owns_form hai.own
      obtain ⟨nl, hnl⟩ : ∃ m, m = gs2.length := ⟨_, rfl⟩
      rw [← hnl] at hlv
      subst hlv
      have hln : nl = nf := by
        rw [hnl, HX.out.2.2, ← List.length_map (f := Prod.fst), hpm, List.length_map]
      have hbl : (frames qs).length = nb := HX.out.1.symm
      rw [hbl]
      subst hln
      clear hal hnl hpm hai hbl
      by_cases hnb : nb = 0
      · have hnb0 : (nb : Int) = 0 := by omega
        have haw := Lib.hid (awake_any w1 (HT.out.below HI1.out.low HT.out.lt))
        go_wp2_with (fail)
        with_reducible refine haw.out.mono ?_
        rintro e w2 ⟨rfl, hB⟩
        have HB := Lib.hid (HI1.out.low.trans (hB.mono HI1.out.low.size))
        clear haw hB
        go_wp2_with (fail)
        go_ret
        exact ⟨rfl, HB.out⟩
      · have hnb0 : ¬ ((nb : Int) = 0) := by omega
        obtain ⟨kc, hkc⟩ : ∃ x, x = numW cut % nb := ⟨_, rfl⟩
        have hklt : kc < nb := by rw [hkc]; exact Nat.mod_lt _ (by omega)
        have HKC := Lib.hid hkc
        clear hkc
        have hcb : nb ≤ cb := by
          obtain ⟨ao2, cap2, e1, e2, -⟩ := HI1.out.ob.bts
          injection e1 with _ e3 e4
          have e5 : nb = (frames qs).length := HX.out.1
          have : (((fitL qs).map Prod.fst).flatMap encB).length = (frames qs).length := rfl
          omega
        have hnb1 : 0 < nb := by omega
        have hnb5 : nb ≤ 100000000 := by have := HX.out.1; have := HTOT.out; omega
        have hkv : wrap64 ((IntKind.u64.wrap cut).tmod (IntKind.u64.wrap (nb : Int))) = (kc : Int) := by
          rw [numW_wrap, numW_wrap, numW_nn (x := (nb : Int)) (by omega) (by omega), Int.toNat_natCast, ← Int.ofNat_tmod, ← HKC.out]
          unfold wrap64; omega
        have hnw : IntKind.u64.wrap (nb : Int) = (nb : Int) := by rw [numW_wrap, numW_nn (x := (nb : Int)) (by omega) (by omega), Int.toNat_natCast]
        rw [hnw] at hkv
        have hkb : 0 ≤ (kc : Int) ∧ (kc : Int) ≤ (cb : Int) := by omega
        have hbk : Bts w1 w1.heap.size (.slice ab kc cb) ((frames qs).take kc) := by
          have h1 := Bts.pre (HI1.out.ob.bts) kc (by show kc ≤ (frames qs).length; have := HX.out.1; omega)
          obtain ⟨ao2, cap2, e1, -⟩ := HI1.out.ob.bts
          exact h1
        obtain ⟨ps, p, rs, hfs, hc1, hc2⟩ := cut_at ((fitL qs).map Prod.fst) HFIT.out kc (by show kc < (frames qs).length; have := HX.out.1; omega)
        have hct := all_cut ps rs p (kc - (ps.flatMap encB).length) (fun x hx => HFIT.out x (by rw [hfs]; simp [hx])) (HFIT.out p (by rw [hfs]; simp)) (by omega)
        rw [← hfs, Nat.add_sub_cancel' hc1] at hct
        have hal := Lib.hid (all_any (.slice ab kc cb) ((frames qs).take kc) w1 hbk (by rw [List.length_take]; have := HTOT.out; omega) (HT.out.below HI1.out.low HT.out.lt))
        have hct2 : allP ((frames qs).take kc) = (ps, (ps.flatMap encB).length, if kc - (ps.flatMap encB).length = 0 then 0 else 21) := hct
        rw [hct2] at hal
        dsimp only at hal
        have HCUT := Lib.hid (And.intro hfs (And.intro hc1 hc2))
        clear hct hct2 hbk hfs hc1 hc2
        go_wp2_with (fail)
        simp only [hkv]
        with_reducible refine hal.out.mono ?_
        rintro e w2 ⟨gs3, lv, rfl, hai, hpm⟩
        have HI2 := Lib.hid (HI1.out.below hai.low)
        obtain ⟨al2, cl2, hlv⟩ := owns_form hai.own
        have hnl : gs3.length = ps.length := by rw [← List.length_map (f := Prod.fst), hpm]
        rw [hnl] at hlv
        subst hlv
        obtain ⟨c, hcc⟩ : ∃ m, m = ps.length := ⟨_, rfl⟩
        rw [← hcc]
        obtain ⟨fa, hfa⟩ : ∃ m, m = (ps.flatMap encB).length := ⟨_, rfl⟩
        rw [← hfa]
        obtain ⟨er, her⟩ : ∃ m, m = (if kc - fa = 0 then 0 else 21) := ⟨_, rfl⟩
        rw [← her]
        have HCC := Lib.hid hcc
        have HFA := Lib.hid hfa
        have HER := Lib.hid her
        clear hal hnl hpm hai hcc hfa her
        go_wp2_with (fail)
        go_loopw [20, 21, 109] (fun av hv jv wx => ∃ (j a0 h0 : Nat), j ≤ ne ∧ av = .int .i64 (a0 : Int) ∧ hv = .int .i64 (h0 : Int) ∧ jv = .int .i64 (j : Int) ∧ Hid (a0 = endAt ((fitL qs).map Prod.fst) (min j c) ∧ h0 = min j c) ∧ Hid (wx = w2)) (fun _ _ jv _ => ne - (intOf jv).toNat)
        case atStart => exact ⟨0, 0, 0, by omega, rfl, rfl, rfl, ⟨by simp [endAt], by simp⟩, rfl⟩
        case round =>
          obtain ⟨j, a0, h0, hj, rfl, rfl, rfl, HA, HW⟩ := hrel
          have hwx := HW.out
          subst hwx
          have hnl2 : ((fitL qs).map Prod.fst).length = ne := by rw [List.length_map]; exact HX.out.2.1.symm
          have hne6 : ne ≤ 2000000 := by
            have h1 := fitL_len qs qs.length
            rw [List.take_length] at h1
            have := HX.out.2.1
            have := HN.out
            omega
          have hh6 : h0 ≤ 2000000 := by have := HA.out.2; omega
          by_cases hjl : j < ne
          · obtain ⟨ao2, cap2, e1, -, -, e4⟩ := OwnK.ints HI2.out.oe
            rw [endsI_len, hnl2] at e1
            injection e1 with e1 e2 e3
            obtain ⟨ie, oe, e5, e6, e7⟩ := e4 (by intro h; have := congrArg List.length h; rw [endsI_len, hnl2] at this; simp at this; omega)
            have hcell := e7 j (by rw [endsI_len, hnl2]; exact hjl)
            rw [endsI_get _ _ (by rw [hnl2]; exact hjl)] at hcell
            rw [e1] at HI2
            rw [e5] at HI2 e1
            subst e1
            obtain ⟨ej, hej⟩ : ∃ m, m = endAt ((fitL qs).map Prod.fst) (j + 1) := ⟨_, rfl⟩
            rw [← hej] at hcell
            have HEJ := Lib.hid hej
            have hji : 0 ≤ (j : Int) ∧ (j : Int) < (ne : Int) := by omega
            have hiff : (ej : Int) ≤ (kc : Int) ↔ j < c := by
              have h1 := HCUT.out
              have h2 := HEJ.out
              rw [h1.1] at h2
              have h3 := HCC.out
              constructor
              · intro h
                rcases Nat.lt_or_ge j c with h4 | h4
                · exact h4
                · have := endAt_past ps rs p j (by omega)
                  omega
              · intro h
                have := endAt_cut ps (p :: rs) j (by omega)
                omega
            clear e2 e3 e4 e5 e6 e7 hej hnl2
            by_cases hjc : j < c
            · have hle : (ej : Int) ≤ (kc : Int) := hiff.2 hjc
              clear hiff
              go_wp2_with (fail)
              go_roundw
              case rel => exact ⟨j + 1, ej, h0 + 1, by omega, rfl, by go_num, by go_num, (by
                have h1 := HA.out
                rw [show min (j + 1) c = j + 1 by omega]
                exact ⟨HEJ.out, by omega⟩), Lib.hid trivial⟩
              case measure => simp [intOf] <;> omega
            · have hle : ¬ (ej : Int) ≤ (kc : Int) := fun h => hjc (hiff.1 h)
              clear hiff
              go_wp2_with (fail)
              go_roundw
              case rel => exact ⟨j + 1, a0, h0, by omega, rfl, rfl, by go_num, (by
                have h1 := HA.out
                rw [show min (j + 1) c = min j c by omega]
                exact h1), Lib.hid trivial⟩
              case measure => simp [intOf] <;> omega
          · have hjne : ¬ ((j : Int) < (ne : Int)) := by omega
            have hcn : c ≤ ne := by
              have h1 := HCUT.out.1
              have h2 := congrArg List.length h1
              rw [hnl2, List.length_append] at h2
              have := HCC.out
              omega
            have hmin : min j c = c := by omega
            have ha0 : a0 = fa := by
              have h1 := HA.out.1
              rw [hmin, HCUT.out.1, HCC.out, endAt_at] at h1
              rw [h1, HFA.out]
            have hh0 : h0 = c := by have := HA.out.2; omega
            subst ha0
            subst hh0
            have hfk : a0 ≤ kc := by have := HCUT.out.2.1; have := HFA.out; omega
            have haw := Lib.hid (awake_any _ (HT.out.below HI2.out.low HT.out.lt))
            clear hmin hnl2 hcn hjl
            by_cases hz : a0 = kc
            · have he0 : er = 0 := by rw [HER.out, if_pos (by omega)]
              subst hz
              subst he0
              go_wp2_with (fail)
              with_reducible refine haw.out.mono ?_
              rintro e w3 ⟨rfl, hB⟩
              have HB := Lib.hid (HI2.out.low.trans (hB.mono HI2.out.low.size))
              clear haw hB
              go_wp2_with (fail)
              go_ret
              exact ⟨rfl, HB.out⟩
            · have he0 : er = 21 := by rw [HER.out, if_neg (by omega)]
              have hzi : ¬ ((a0 : Int) = (kc : Int)) := by omega
              have hzb : ((a0 : Int) == (kc : Int)) = false := by rw [beq_eq_false_iff_ne]; exact hzi
              subst he0
              go_wp2_with (fail)
              with_reducible refine haw.out.mono ?_
              rintro e w3 ⟨rfl, hB⟩
              have HB := Lib.hid (HI2.out.low.trans (hB.mono HI2.out.low.size))
              clear haw hB
              go_wp2_with (fail)
              go_ret
              exact ⟨rfl, HB.out⟩

end Go.Proofs.YtgnpjenpehfjbaaDoor

