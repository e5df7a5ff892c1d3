/- WireAll: the law, walked (by program: wip/tools/gen_wireall.py). -/
import Derived.Test.YtgnpjenpehfjbaaDoorMU
import Derived.Test.YtgnpjenpehfjbaaDoorMW
import Derived.Test.YtgnpjenpehfjbaaDoorNB
import Derived.Test.YtgnpjenpehfjbaaDoorMH
set_option linter.unusedSimpArgs false
set_option linter.unusedVariables false
namespace Go.Proofs.YtgnpjenpehfjbaaDoor
open Go.RowKit

def forges (qs : List (Pkt × Value)) : List UInt8 := qs.flatMap fun q => forgeF q.1
theorem forges_snoc (qs : List (Pkt × Value)) (k : Nat) (q : Pkt × Value) (h : qs[k]? = some q) : forges (qs.take (k + 1)) = forges (qs.take k) ++ forgeF q.1 := by
  unfold forges
  rw [List.take_add_one, h, List.flatMap_append]
  simp
theorem forges_pre (qs : List (Pkt × Value)) (k : Nat) : (forges (qs.take k)).length ≤ (forges qs).length := by
  have h : forges qs = forges (qs.take k) ++ forges (qs.drop k) := by unfold forges; rw [← List.flatMap_append, List.take_append_drop]
  rw [h, List.length_append]
  omega
theorem flat_pkt (qs : List (Pkt × Value)) (i : Nat) (q : Pkt × Value) (h : qs[i]? = some q) (j : Nat) (hj : j < 8) : (qs.flatMap fun q => q.1.cells q.2)[i * 8 + j]? = (q.1.cells q.2)[j]? := by
  induction qs generalizing i with
  | nil => simp at h
  | cons a t ih =>
    have ha : (a.1.cells a.2).length = 8 := rfl
    cases i with
    | zero => simp at h; subst h; rw [List.flatMap_cons, List.getElem?_append_left (by omega)]; simp
    | succ i =>
      rw [List.flatMap_cons, List.getElem?_append_right (by omega), ha, show (i + 1) * 8 + j - 8 = i * 8 + j by omega]
      exact ih i (by simpa using h)
theorem pkt_row {W : World} {B : Nat} {v : Value} {qs : List (Pkt × Value)} (h : OwnQ W B v qs) (hp : 0 < qs.length) : ∃ g cap, v = .slice (some ⟨g, 0, none⟩) qs.length cap ∧ g < W.heap.size ∧ ∀ i q, qs[i]? = some q → ∀ j u, (q.1.cells q.2)[j]? = some u → W.cell? ⟨g, i * 8 + j, none⟩ = some u := by
  obtain ⟨g, cap, rfl, hg, hlt⟩ := World.ownsRow.form h (by omega)
  refine ⟨g, cap, rfl, hlt, fun i q hq j u hu => ?_⟩
  have hj : j < 8 := (List.getElem?_eq_some_iff.1 hu).1
  have hi := (List.getElem?_eq_some_iff.1 hq).1
  rw [World.ownsRow.cellAt h _ (by omega), flat_pkt qs i q hq j hj]
  exact hu

theorem allR_len (l : List UInt8) : ∀ f ps a, ps.length ≤ a → a ≤ l.length → (allR l f ps a).1.length ≤ l.length := by
  intro f
  induction f with
  | zero => intro ps a h1 h2; show ps.length ≤ _; omega
  | succ f ih =>
    intro ps a h1 h2
    unfold allR
    split
    · split
      · show ps.length ≤ _; omega
      · rename_i h3 h4
        have h5 := nextP_len (l.drop a) (by simpa using h4)
        rw [List.length_drop] at h5
        exact ih _ _ (by rw [List.length_append, List.length_singleton]; omega) (by omega)
    · show ps.length ≤ _; omega
theorem all_len (l : List UInt8) : (allP l).1.length ≤ l.length := allR_len l _ _ _ (Nat.le_refl _) (Nat.zero_le _)

set_option maxRecDepth 100000 in
set_option maxHeartbeats 8000000 in
theorem law_WireAll (v : Value) (qs : List (Pkt × Value)) (vm : Value) (more : List UInt8) (w : World) (hv : Pks w w.heap.size v qs) (hok : ∀ q ∈ qs, (∀ x ∈ q.1.items, Itm64 x) ∧ (bodyR q.1).length ≤ 999990000) (hn : qs.length ≤ 2000000) (hm : Bts w w.heap.size vm more) (htot : (forges qs).length + more.length ≤ 100000000) (ht : TabOK w) :
    Calls Tryd.prog 8 #[v, vm] w fun e w' => e = .returned (.bool true) ∧ Below w.heap.size w w' := by
  obtain ⟨⟨ao, cap, rfl, hcap, hmx, -⟩, -⟩ := id hv
  have HV := Lib.hid hv
  have HOK := Lib.hid hok
  have HQN := Lib.hid hn
  have HTOT := Lib.hid htot
  have HM := Lib.hid hm
  have HT := Lib.hid ht
  obtain ⟨n, hnn⟩ : ∃ n, n = qs.length := ⟨_, rfl⟩
  rw [← hnn] at HV HQN ⊢
  have hn6 : n ≤ 2000000 := by omega
  have HN := Lib.hid hnn
  obtain ⟨am, cm, hvm, -⟩ := id hm
  obtain ⟨nm, hnm⟩ : ∃ n, n = more.length := ⟨_, rfl⟩
  rw [← hnm] at hvm
  subst hvm
  have HNM := Lib.hid hnm
  clear hv hok hn htot hm ht hnn hcap hmx hnm
  go_enter Tryd.func8, Tryd.ntmps8
  go_wp2_with (fail)
  go_loopw [5, 17] (fun bv iv wr => ∃ (k nb cb : Nat) (ab : Option Addr), k ≤ n ∧ iv = .int .i64 (k : Int) ∧ bv = .slice ab nb cb ∧ Hid (Below w.heap.size w wr) ∧ Hid (Own wr w.heap.size bv (forges (qs.take k)))) (fun _ iv _ => n - (intOf iv).toNat)
  case atStart => exact ⟨0, 0, 0, none, by omega, rfl, rfl, Below.refl _ _, Own.nil _ _⟩
  case round =>
    obtain ⟨k, nb, cb, ab, hk, rfl, rfl, LB, HO⟩ := hrel
    by_cases hlt : k < n
    · have hkx : k < qs.length := by have := HN.out; omega
      have HVW := HV.out.below LB.out LB.out.size
      obtain ⟨ao', cap', he, -, -, hrow⟩ := HVW.row
      injection he with he1 he2 he3
      obtain ⟨ib, off, hao, hib, hcc⟩ := hrow (by intro e; rw [e] at hkx; simp at hkx)
      rw [hao] at he1
      subst he1
      obtain ⟨⟨p, u⟩, hq⟩ : ∃ q, q = qs[k] := ⟨_, rfl⟩
      have hqk : qs[k]? = some (p, u) := by rw [hq]; exact List.getElem?_eq_getElem hkx
      have hrk := hcc k _ hqk
      have hmem : (p, u) ∈ qs := by rw [hq]; exact List.getElem_mem hkx
      have hims := (HVW.its _ hmem).1
      have hpok := HOK.out _ hmem
      obtain ⟨k0, k1, k2, k3, k4, k5, k6, xs⟩ := p
      obtain ⟨au, cu, hu, -, -⟩ := hims.slice
      obtain ⟨mu, hmu⟩ : ∃ m, m = xs.length := ⟨_, rfl⟩
      simp only at hu hims hrk hqk
      rw [← hmu] at hu
      subst hu
      have hsn := forges_snoc qs k _ hqk
      have hpre := forges_pre qs (k + 1)
      dsimp only at hsn
      rw [hsn, List.length_append] at hpre
      have HSN := Lib.hid hsn
      have HPRE : Hid ((forges (qs.take k)).length + (forgeF (⟨k0, k1, k2, k3, k4, k5, k6, xs⟩ : Pkt)).length ≤ 100000000) := by show _ ≤ _; have := HTOT.out; omega
      have hki : 0 ≤ (k : Int) ∧ (k : Int) < (n : Int) := by omega
      obtain ⟨g1, kx⟩ := new_block wr (.cells #[.int .i64 k0, .int .i64 k1, .int .i64 k2, .int .i64 k3, .int .i64 k4, .int .i64 k5, .int .i64 k6, .slice au mu cu] 24)
      have LB1 := Lib.hid (LB.out.trans (g1.mono LB.out.size))
      have HO1 := Lib.hid (owns_below HO.out g1)
      have hforge := Lib.hid (forged_any (⟨k0, k1, k2, k3, k4, k5, k6, xs⟩ : Pkt) (.slice au mu cu) (wr.alloc (.cells #[.int .i64 k0, .int .i64 k1, .int .i64 k2, .int .i64 k3, .int .i64 k4, .int .i64 k5, .int .i64 k6, .slice au mu cu] 24)) (hims.below g1 g1.size) hpok.1 hpok.2)
      have ld0 : ∀ j u, ((⟨k0, k1, k2, k3, k4, k5, k6, xs⟩ : Pkt).cells (.slice au mu cu))[j]? = some u → wr.cell? ⟨ib, off + k * 8 + j, none⟩ = some u := fun j u hu => hrk j u hu
      have c0 : wr.cell? ⟨ib, off + k * 8 + 0, none⟩ = some (.int .i64 k0) := ld0 0 _ rfl
      have c1 : wr.cell? ⟨ib, off + k * 8 + 1, none⟩ = some (.int .i64 k1) := ld0 1 _ rfl
      have c2 : wr.cell? ⟨ib, off + k * 8 + 2, none⟩ = some (.int .i64 k2) := ld0 2 _ rfl
      have c3 : wr.cell? ⟨ib, off + k * 8 + 3, none⟩ = some (.int .i64 k3) := ld0 3 _ rfl
      have c4 : wr.cell? ⟨ib, off + k * 8 + 4, none⟩ = some (.int .i64 k4) := ld0 4 _ rfl
      have c5 : wr.cell? ⟨ib, off + k * 8 + 5, none⟩ = some (.int .i64 k5) := ld0 5 _ rfl
      have c6 : wr.cell? ⟨ib, off + k * 8 + 6, none⟩ = some (.int .i64 k6) := ld0 6 _ rfl
      have c7 : wr.cell? ⟨ib, off + k * 8 + 7, none⟩ = some (.slice au mu cu) := ld0 7 _ rfl
      rw [Nat.add_zero] at c0
      clear HVW he2 he3 hrow hao hib hcc hq hqk hrk hmem hims hpok hmu g1 kx ld0 hkx hsn hpre
      go_wp2_with (fail)
      with_reducible refine hforge.out.mono ?_
      rintro e w1 ⟨xv, rfl, ho, hB⟩
      have LB2 := Lib.hid (LB1.out.trans (hB.mono LB1.out.size))
      have HO2 := Lib.hid (owns_below HO1.out hB)
      have HX2 := Lib.hid ho.bts
      clear hforge ho hB c0 c1 c2 c3 c4 c5 c6 c7
      go_wp2_with (at_builtin; (refine wpList_append_bts rfl _ _ rfl w.heap.size _ (forges (qs.take k)) rfl HO2.out _ (forgeF (⟨k0, k1, k2, k3, k4, k5, k6, xs⟩ : Pkt)) _ rfl HX2.out (Nat.le_trans HPRE.out (by decide)) LB2.out.size ?_))
      intro bv' w7 ob7 g7 _
      rw [← HSN.out] at ob7
      obtain ⟨ab', cb', hbv, -⟩ := ob7.bts
      obtain ⟨nb', hnb'⟩ : ∃ m, m = (forges (qs.take (k + 1))).length := ⟨_, rfl⟩
      rw [← hnb'] at hbv
      subst hbv
      have HO7 := Lib.hid ob7
      have LB7 := Lib.hid (LB2.out.grown g7 LB2.out.size (fun j e => (World.ownsRow.lt HO2.out j e).1))
      clear ob7 g7 hnb'
      go_wp2_with (fail)
      go_roundw
      case rel => exact ⟨k + 1, nb', cb', ab', by omega, by go_num, rfl, LB7.out, HO7.out⟩
      case measure => simp [intOf] <;> omega
    · have hnk : ¬ ((k : Int) < (n : Int)) := by omega
      have hke : k = n := by omega
      subst hke
      have htk : qs.take k = qs := by rw [HN.out, List.take_length]
      rw [htk] at HO
      have HMW := Lib.hid (HM.out.below LB.out LB.out.size)
      clear htk
      go_wp2_with (at_builtin; (refine wpList_append_bts rfl _ _ rfl w.heap.size _ (forges qs) rfl HO.out _ more _ rfl HMW.out (Nat.le_trans HTOT.out (by decide)) LB.out.size ?_))
      intro bv' w1 ob1 g1 _
      obtain ⟨m, hmm⟩ : ∃ m, m = forges qs ++ more := ⟨_, rfl⟩
      rw [← hmm] at ob1
      have HML : Hid (m.length ≤ 100000000) := by show _ ≤ _; rw [hmm, List.length_append]; exact HTOT.out
      have LB1 := Lib.hid (LB.out.grown g1 LB.out.size (fun j e => (World.ownsRow.lt HO.out j e).1))
      have HBM := Lib.hid ob1.bts
      obtain ⟨ab', cb', hbv, -⟩ := ob1.bts
      obtain ⟨nb', hnb'⟩ : ∃ z, z = m.length := ⟨_, rfl⟩
      rw [← hnb'] at hbv
      subst hbv
      obtain ⟨⟨rp, rn, re⟩, hR⟩ : ∃ R, R = allP m := ⟨_, rfl⟩
      have hall := all_any (.slice ab' nb' cb') m w1 HBM.out HML.out (HT.out.below LB1.out HT.out.lt)
      rw [← hR] at hall
      dsimp only at hall
      have HALL := Lib.hid hall
      have HR := Lib.hid hR
      clear hmm ob1 g1 hnb' hall hR HMW
      go_wp2_with (fail)
      with_reducible refine HALL.out.mono ?_
      rintro e w2 ⟨qa, la, rfl, hai, hpm⟩
      have LB2 := Lib.hid (LB1.out.trans (hai.low.mono LB1.out.size))
      have HA := Lib.hid hai
      have HPA := Lib.hid hpm
      obtain ⟨al, cl, hla⟩ := owns_form hai.own
      obtain ⟨na, hna⟩ : ∃ z, z = qa.length := ⟨_, rfl⟩
      rw [← hna] at hla
      subst hla
      have hall := rall_any (.slice ab' nb' cb') m w2 (HBM.out.below hai.low hai.low.size) HML.out
      rw [← HR.out] at hall
      dsimp only at hall
      have HALL2 := Lib.hid hall
      have HNA := Lib.hid hna
      clear HALL hai hpm hna hall
      go_wp2_with (fail)
      with_reducible refine HALL2.out.mono ?_
      rintro e w3 ⟨qb, lb, rfl, hbi, hpm⟩
      have LB3 := Lib.hid (LB2.out.trans (hbi.low.mono LB2.out.size))
      have HA3 := Lib.hid (HA.out.below hbi.low)
      have HB3 := Lib.hid hbi
      have HPB := Lib.hid (HPA.out.trans hpm.symm)
      obtain ⟨bl, dl, hlb⟩ := owns_form hbi.own
      have hab : qb.length = qa.length := by have := congrArg List.length HPB.out; simpa using this.symm
      rw [hab, ← HNA.out] at hlb
      subst hlb
      have HAB := Lib.hid hab
      have hna8 : na ≤ 100000000 := by
        have h1 := all_len m
        rw [← HR.out] at h1
        dsimp only at h1
        rw [← HPA.out, List.length_map] at h1
        have := HNA.out
        have := HML.out
        omega
      clear HALL2 hbi hpm hab HA LB2
      go_wp2_with (fail)
      go_loopw [58] (fun iv wx => ∃ i : Nat, i ≤ na ∧ iv = .int .i64 (i : Int) ∧ Hid (Below w3.heap.size w3 wx)) (fun iv _ => na - (intOf iv).toNat)
      case atStart => exact ⟨0, by omega, rfl, Below.refl _ _⟩
      case round =>
        obtain ⟨i, hi, rfl, HLZ⟩ := hrel
        by_cases hil : i < na
        · have hAW := HA3.out.below HLZ.out
          have hBW := HB3.out.below HLZ.out
          have hia : i < qa.length := by have := HNA.out; omega
          have hib : i < qb.length := by have := HNA.out; have := HAB.out; omega
          obtain ⟨ga, ca2, e1, hgl, hrowa⟩ := pkt_row hAW.own (by omega)
          injection e1 with e1 e2 e3
          subst e1
          obtain ⟨gb, cb2, e1, hgl2, hrowb⟩ := pkt_row hBW.own (by omega)
          injection e1 with e1 e4 e5
          subst e1
          obtain ⟨⟨pa, ua⟩, hqa⟩ : ∃ q, q = qa[i] := ⟨_, rfl⟩
          obtain ⟨⟨pb, ub⟩, hqb⟩ : ∃ q, q = qb[i] := ⟨_, rfl⟩
          have hqa2 : qa[i]? = some (pa, ua) := by rw [hqa]; exact List.getElem?_eq_getElem hia
          have hqb2 : qb[i]? = some (pb, ub) := by rw [hqb]; exact List.getElem?_eq_getElem hib
          have hpp : pa = pb := by
            have h1 := congrArg (fun l => l[i]?) HPB.out
            simp only [List.getElem?_map, hqa2, hqb2, Option.map_some, Option.some.injEq] at h1
            exact h1
          subst hpp
          have hxa := hAW.its (pa, ua) (by rw [hqa]; exact List.getElem_mem hia)
          have hxb := hBW.its (pa, ub) (by rw [hqb]; exact List.getElem_mem hib)
          have HA5 : Hid (∀ W, Below wr.heap.size wr W → W.rangeAt ga (i * 8) (pa.cells ua)) := Lib.hid fun W hW j u hu => (hW.cell (p := ⟨ga, i * 8 + j, none⟩) hgl).trans (hrowa i _ hqa2 j u hu)
          have HB5 : Hid (∀ W, Below wr.heap.size wr W → W.rangeAt gb (i * 8) (pa.cells ub)) := Lib.hid fun W hW j u hu => (hW.cell (p := ⟨gb, i * 8 + j, none⟩) hgl2).trans (hrowb i _ hqb2 j u hu)
          have HSM : Hid (∀ W, Below wr.heap.size wr W → Calls Tryd.prog 15 #[.agg (pa.cells ua).toArray, .agg (pa.cells ub).toArray] W fun e w' => e = .returned (.bool true) ∧ Below W.heap.size W w') := Lib.hid fun W hW => by
            have h := rsame_any pa pa ua ub W (hxa.below hW).ims.1 (hxb.below hW).ims.1
            rw [sameP_iff.2 rfl] at h
            exact h
          have hki : 0 ≤ (i : Int) ∧ (i : Int) < (na : Int) := by omega
          clear hAW hBW hia hib e2 e3 e4 e5 hgl hgl2 hrowa hrowb hqa hqb hqa2 hqb2 hxa hxb
          go_wp2_with (fail)
          refine wpIn_wide (n := 5).1 (wpIn_flowM (F0 := Fence.wide) (n0 := 5) (fun _ => trivial) (fun h => by cases h) (by kernel_rfl) (by kernel_rfl) 10 10 (by kernel_rfl) (fun j => ([0, 1, 2, 3, 4, 5, 6, 7, 8, 9] : List Nat).getD j 0) (fun j => ([61, 62, 63, 64, 65, 66, 67, 68, 69, 70] : List Nat).getD j 0) (by kernel_rfl) (by kernel_rfl) (by kernel_rfl) (by kernel_rfl) (by kernel_rfl) (by kernel_rfl) (by kernel_rfl) (fun j zv => ([(fun zv => zv = (.slice (some ⟨ga, 0, none⟩) na cl)), (fun zv => zv = (.int .i64 (i : Int))), (fun zv => zv = (.pointer (some ⟨ga, i * 8, none⟩))), (fun zv => zv = (.agg (pa.cells ua).toArray)), (fun zv => zv = (.slice (some ⟨gb, 0, none⟩) na dl)), (fun zv => zv = (.int .i64 (i : Int))), (fun zv => zv = (.pointer (some ⟨gb, i * 8, none⟩))), (fun zv => zv = (.agg (pa.cells ub).toArray)), (fun zv => zv = (.bool true)), (fun zv => zv = (.bool false))] : List (Value → Prop)).getD j (fun _ => True) zv) (fun d vs W => Below wr.heap.size wr W) ?h0z ?stepz ?finz)
          case h0z => exact fun vs => (Below.refl _ _).drew
          case stepz =>
            intro i o a W d vs hi ho hdi hJ hf hr hF
            replace hi : i < 10 := hi
            rcases (show i = 0 ∨ i = 1 ∨ i = 2 ∨ i = 3 ∨ i = 4 ∨ i = 5 ∨ i = 6 ∨ i = 7 ∨ i = 8 ∨ i = 9 by omega) with rfl | rfl | rfl | rfl | rfl | rfl | rfl | rfl | rfl | rfl
            · replace ho := op_at ho (by rfl)
              subst ho
              have f8 : a.tmps.getD 8 undef = (.slice (some ⟨ga, 0, none⟩) na cl) := hf 8 (by kernel_rfl)
              exact .inl ⟨(fun k b h => by cases h), .inl ⟨0, by decide, rfl, (.slice (some ⟨ga, 0, none⟩) na cl), W, (by simp [go_sem, Act.eval, f8]), rfl, hJ⟩⟩
            · replace ho := op_at ho (by rfl)
              subst ho
              have f14 : a.tmps.getD 14 undef = (.int .i64 (i : Int)) := hf 14 (by kernel_rfl)
              exact .inl ⟨(fun k b h => by cases h), .inl ⟨1, by decide, rfl, (.int .i64 (i : Int)), W, (by simp [go_sem, Act.eval, f14]), rfl, hJ⟩⟩
            · replace ho := op_at ho (by rfl)
              subst ho
              have d0 : a.tmps.getD 61 undef = (.slice (some ⟨ga, 0, none⟩) na cl) := by have h1 := hF 0 (by decide) (hr 0 (by kernel_rfl)); exact h1.2.trans h1.1
              have d1 : a.tmps.getD 62 undef = (.int .i64 (i : Int)) := by have h1 := hF 1 (by decide) (hr 1 (by kernel_rfl)); exact h1.2.trans h1.1
              exact .inl ⟨(fun k b h => by cases h), .inl ⟨2, by decide, rfl, (.pointer (some ⟨ga, i * 8, none⟩)), W, (by simp [go_sem, Act.eval, d0, d1, hki]), rfl, hJ⟩⟩
            · replace ho := op_at ho (by rfl)
              subst ho
              have d2 : a.tmps.getD 63 undef = (.pointer (some ⟨ga, i * 8, none⟩)) := by have h1 := hF 2 (by decide) (hr 2 (by kernel_rfl)); exact h1.2.trans h1.1
              exact .inl ⟨(fun k b h => by cases h), .inl ⟨3, by decide, rfl, (.agg (pa.cells ua).toArray), W, (exec_load_mid 24 _ rfl ga (i * 8) (pa.cells ua) (.struct (Tryd.prog.fieldsOf 24)) (by simp only [Act.eval, d2]) (HA5.out W hJ) (by kernel_rfl) rfl (by kernel_rfl)), rfl, hJ⟩⟩
            · replace ho := op_at ho (by rfl)
              subst ho
              have f11 : a.tmps.getD 11 undef = (.slice (some ⟨gb, 0, none⟩) na dl) := hf 11 (by kernel_rfl)
              exact .inl ⟨(fun k b h => by cases h), .inl ⟨4, by decide, rfl, (.slice (some ⟨gb, 0, none⟩) na dl), W, (by simp [go_sem, Act.eval, f11]), rfl, hJ⟩⟩
            · replace ho := op_at ho (by rfl)
              subst ho
              have f14 : a.tmps.getD 14 undef = (.int .i64 (i : Int)) := hf 14 (by kernel_rfl)
              exact .inl ⟨(fun k b h => by cases h), .inl ⟨5, by decide, rfl, (.int .i64 (i : Int)), W, (by simp [go_sem, Act.eval, f14]), rfl, hJ⟩⟩
            · replace ho := op_at ho (by rfl)
              subst ho
              have d4 : a.tmps.getD 65 undef = (.slice (some ⟨gb, 0, none⟩) na dl) := by have h1 := hF 4 (by decide) (hr 4 (by kernel_rfl)); exact h1.2.trans h1.1
              have d5 : a.tmps.getD 66 undef = (.int .i64 (i : Int)) := by have h1 := hF 5 (by decide) (hr 5 (by kernel_rfl)); exact h1.2.trans h1.1
              exact .inl ⟨(fun k b h => by cases h), .inl ⟨6, by decide, rfl, (.pointer (some ⟨gb, i * 8, none⟩)), W, (by simp [go_sem, Act.eval, d4, d5, hki]), rfl, hJ⟩⟩
            · replace ho := op_at ho (by rfl)
              subst ho
              have d6 : a.tmps.getD 67 undef = (.pointer (some ⟨gb, i * 8, none⟩)) := by have h1 := hF 6 (by decide) (hr 6 (by kernel_rfl)); exact h1.2.trans h1.1
              exact .inl ⟨(fun k b h => by cases h), .inl ⟨7, by decide, rfl, (.agg (pa.cells ub).toArray), W, (exec_load_mid 24 _ rfl gb (i * 8) (pa.cells ub) (.struct (Tryd.prog.fieldsOf 24)) (by simp only [Act.eval, d6]) (HB5.out W hJ) (by kernel_rfl) rfl (by kernel_rfl)), rfl, hJ⟩⟩
            · replace ho := op_at ho (by rfl)
              subst ho
              have d3 : a.tmps.getD 64 undef = (.agg (pa.cells ua).toArray) := by have h1 := hF 3 (by decide) (hr 3 (by kernel_rfl)); exact h1.2.trans h1.1
              have d7 : a.tmps.getD 68 undef = (.agg (pa.cells ub).toArray) := by have h1 := hF 7 (by decide) (hr 7 (by kernel_rfl)); exact h1.2.trans h1.1
              refine .inl ⟨(fun k b h => by cases h), .inr (.inr ⟨8, by decide, rfl, 15, #[(.agg (pa.cells ua).toArray), (.agg (pa.cells ub).toArray)], W, (by simp [go_sem, Act.eval, d3, d7]), ?_⟩)⟩
              refine (callsIn_wide.2 (HSM.out W hJ)).mono ?_
              rintro e W' ⟨rfl, hBe⟩
              exact ⟨_, rfl, rfl, hJ.trans (hBe.mono hJ.size)⟩
            · replace ho := op_at ho (by rfl)
              subst ho
              have d8 : a.tmps.getD 69 undef = (.bool true) := by have h1 := hF 8 (by decide) (hr 8 (by kernel_rfl)); exact h1.2.trans h1.1
              exact .inl ⟨(fun k b h => by cases h), .inl ⟨9, by decide, rfl, (.bool false), W, (by simp [go_sem, Act.eval, d8]), rfl, hJ⟩⟩
          case finz =>
            intro d vs Wz hall hJ hF
            have h0 : vs 0 = (.slice (some ⟨ga, 0, none⟩) na cl) := hF 0 (by decide)
            have h1 : vs 1 = (.int .i64 (i : Int)) := hF 1 (by decide)
            have h2 : vs 2 = (.pointer (some ⟨ga, i * 8, none⟩)) := hF 2 (by decide)
            have h3 : vs 3 = (.agg (pa.cells ua).toArray) := hF 3 (by decide)
            have h4 : vs 4 = (.slice (some ⟨gb, 0, none⟩) na dl) := hF 4 (by decide)
            have h5 : vs 5 = (.int .i64 (i : Int)) := hF 5 (by decide)
            have h6 : vs 6 = (.pointer (some ⟨gb, i * 8, none⟩)) := hF 6 (by decide)
            have h7 : vs 7 = (.agg (pa.cells ub).toArray) := hF 7 (by decide)
            have h8 : vs 8 = (.bool true) := hF 8 (by decide)
            have h9 : vs 9 = (.bool false) := hF 9 (by decide)
            clear hF
            have HJZ := Lib.hid hJ
            clear hJ hall
            show (_ : Exit → Act → World → Prop) Exit.normal (puts _ vs 10 _) Wz
            simp only [puts, h0, h1, h2, h3, h4, h5, h6, h7, h8, h9, List.getD_cons_zero, List.getD_cons_succ]
            clear h0 h1 h2 h3 h4 h5 h6 h7 h8 h9
            go_simp
            go_wp2_with (fail)
            go_roundw
            case rel => exact ⟨i + 1, by omega, by go_num, (HLZ.out.trans (HJZ.out.mono HLZ.out.size) : Below w3.heap.size w3 _)⟩
            case measure => simp [intOf] <;> omega
        · have hnl : ¬ ((i : Int) < (na : Int)) := by omega
          have LBZ := Lib.hid (LB3.out.trans (HLZ.out.mono LB3.out.size))
          have hcon := Lib.hid (awake_any wr (HT.out.below LBZ.out HT.out.lt))
          go_wp2_with (fail)
          with_reducible refine hcon.out.mono ?_
          rintro e w7 ⟨rfl, hB⟩
          have L7 := Lib.hid (LBZ.out.trans (hB.mono LBZ.out.size))
          clear hcon hB
          go_wp2
          go_ret
          exact ⟨rfl, L7.out⟩

end Go.Proofs.YtgnpjenpehfjbaaDoor

