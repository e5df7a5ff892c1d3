/- Cuts: the document's blocks: plain. No program here.
Cuts: the document's Blocks: walked.
Cuts: the document's distances: plain. No program here.
Cuts: the document's Distances: walked. -/
import Derived.Test.YtenilbofncfbdaaP6
import Derived.Test.YtenilbofncfbdaaCE
import Derived.Test.YtenilbofncfbdaaCM
set_option linter.unusedSimpArgs false
set_option linter.unusedVariables false
namespace Go.Proofs.Ytenilbofncfbdaa

theorem setD_get {done : List Bool} {D : List Int} {u : Nat} (hu : u < done.length) : ∀ m, (setD done D m).getD u false = true ↔ done.getD u false = true ∨ (u < m ∧ 0 ≤ D.getD u 0) := by
  intro m
  induction m with
  | zero => simp [setD]
  | succ m ih =>
    unfold setD
    by_cases h : 0 ≤ D.getD m 0
    · rw [if_pos h]
      by_cases e : u = m
      · subst e
        rw [getD_set_same _ _ _ _ (by rw [setD_len]; exact hu)]
        exact ⟨fun _ => .inr ⟨by omega, h⟩, fun _ => rfl⟩
      · rw [getD_set_other _ _ _ _ _ (Ne.symm e), ih]
        constructor
        · rintro (h | ⟨h1, h2⟩)
          · exact .inl h
          · exact .inr ⟨by omega, h2⟩
        · rintro (h | ⟨h1, h2⟩)
          · exact .inl h
          · exact .inr ⟨by omega, h2⟩
    · rw [if_neg h, ih]
      constructor
      · rintro (h | ⟨h1, h2⟩)
        · exact .inl h
        · exact .inr ⟨by omega, h2⟩
      · rintro (h' | ⟨h1, h2⟩)
        · exact .inl h'
        · by_cases e : u = m
          · subst e; exact absurd h2 h
          · exact .inr ⟨by omega, h2⟩
/-- which nodes stand in a block after v steps -/
theorem blk_done {R : Prs} {n : Nat} (hf : FitL n R) : ∀ v, v ≤ n → ∀ u, u < n → ((blkN R n v).1.getD u false = true ↔ ∃ w, w < v ∧ Way R All All w u) := by
  intro v
  induction v with
  | zero =>
    intro _ u hu
    unfold blkN
    rw [List.getD_eq_getElem?_getD, List.getElem?_replicate, if_pos hu]
    simp
  | succ v ih =>
    intro hv u hu
    have ihv := ih (by omega)
    unfold blkN
    by_cases hd : (blkN R n v).1.getD v false = true
    · rw [if_pos hd, ihv u hu]
      obtain ⟨w, h1, h2⟩ := (ihv v (by omega)).1 hd
      constructor
      · rintro ⟨x, h3, h4⟩; exact ⟨x, by omega, h4⟩
      · rintro ⟨x, h3, h4⟩
        by_cases e : x = v
        · subst e; exact ⟨w, h1, h2.trans h4⟩
        · exact ⟨x, by omega, h4⟩
    · rw [if_neg hd, setD_get (by rw [blkN_len]; exact hu), ihv u hu, far_way hf (by omega) (far_ok hf (by omega)) hu]
      constructor
      · rintro (⟨x, h3, h4⟩ | ⟨_, h4⟩)
        · exact ⟨x, by omega, h4⟩
        · exact ⟨v, by omega, h4⟩
      · rintro ⟨x, h3, h4⟩
        by_cases e : x = v
        · subst e; exact .inr ⟨hu, h4⟩
        · exact .inl ⟨x, by omega, h4⟩
/-- from a node that stands in none: all it leads to stands in none, and behind it -/
theorem blk_new {R : Prs} {n v u : Nat} (hf : FitL n R) (hv : v < n) (hu : u < n) (hd : (blkN R n v).1.getD v false = false) (h : 0 ≤ (farI R n (v : Int)).getD u 0) : v ≤ u ∧ (blkN R n v).1.getD u false = false := by
  have hw := (far_way hf hv (far_ok hf hv) hu).1 h
  have hno : ¬ ∃ w, w < v ∧ Way R All All w v := fun hx => by
    have := (blk_done hf v (by omega) v hv).2 hx
    rw [hd] at this; cases this
  constructor
  · refine Classical.byContradiction fun c => hno ⟨u, by omega, hw.symm⟩
  · cases c : (blkN R n v).1.getD u false with
    | false => rfl
    | true =>
      exfalso
      obtain ⟨w, h1, h2⟩ := (blk_done hf v (by omega) u hu).1 c
      exact hno ⟨w, h1, h2.trans hw.symm⟩
theorem setD_none {done : List Bool} {D : List Int} : ∀ m, (∀ k, k < m → ¬ 0 ≤ D.getD k 0) → setD done D m = done := by
  intro m
  induction m with
  | zero => intro _; rfl
  | succ m ih =>
    intro h
    unfold setD
    rw [if_neg (h m (Nat.lt_succ_self m)), ih (fun k hk => h k (by omega))]
theorem rowD_none {D : List Int} {m : Nat} (h : ∀ k, k < m → ¬ 0 ≤ D.getD k 0) : rowD D m = [] := by
  unfold rowD
  rw [List.filter_eq_nil_iff]
  intro k hk
  rw [List.mem_range] at hk
  simpa using h k hk
theorem rowD_succ (D : List Int) (m : Nat) : rowD D (m + 1) = rowD D m ++ (if 0 ≤ D.getD m 0 then [m] else []) := by
  unfold rowD
  rw [List.range_succ, List.filter_append, List.filter_cons]
  by_cases h : 0 ≤ D.getD m 0
  · rw [if_pos h, if_pos (by simpa using h)]; rfl
  · rw [if_neg h, if_neg (by simpa using h)]; rfl
theorem jn_iff {L : Prs} {n a b : Nat} (hf : FitL n L) (ha : a < n) (hb : b < n) : decide (0 ≤ (farI (restI L n) n (a : Int)).getD b 0) = true ↔ Way L (fun k => brI L n k = false) All a b := by
  have hfr : FitL n (restI L n) := pickN_fit hf
  rw [decide_eq_true_iff, far_way hfr ha (far_ok hfr ha) hb]
  have := pick_way (L := L) (P := fun k => !brI L n k) (a := a) (b := b)
  rw [show restI L n = pickN L (fun k => !brI L n k) L.length from rfl, this]
  simp only [Bool.not_eq_true']

end Go.Proofs.Ytenilbofncfbdaa

namespace Go.Proofs.Ytenilbofncfbdaa
open Go.RowKit

/-- the blocks so far -/
def DBK (w : World) (Bz : Nat) (R : Prs) (n : Nat) (db v : Nat) (ov : Value) (W : World) : Prop :=
  RowB W db (blkN R n v).1 ∧ OwnG W (db + 1) ov (nII (blkN R n v).2) ∧ Below Bz w W ∧ Bz ≤ db
/-- within a block -/
def IBD (Wf : World) (Bz : Nat) (R : Prs) (n : Nat) (db v u : Nat) (d : List Int) (ov : Value) (W : World) : Prop :=
  OwnN W Wf.heap.size ov (nI (rowD d u)) ∧ RowB W db (setD (blkN R n v).1 d u) ∧ (∀ c, c ≠ db → c < Wf.heap.size → W.heap[c]? = Wf.heap[c]?) ∧ Below Bz Wf W ∧ Wf.heap.size ≤ W.heap.size
theorem IBD.below {Wf W W' : World} {Bz n db v u : Nat} {R : Prs} {d : List Int} {ov : Value} (h : IBD Wf Bz R n db v u d ov W) (hB : Bz ≤ Wf.heap.size) (hb : Below W.heap.size W W') : IBD Wf Bz R n db v u d ov W' := by
  obtain ⟨h1, h2, h3, h4, h5⟩ := h
  exact ⟨owns_below h1 hb, h2.keep hb, fun c x y => (hb.block c (by omega)).trans (h3 c x y), h4.trans (hb.mono (by omega)), Nat.le_trans h5 hb.size⟩

set_option maxRecDepth 100000 in
set_option maxHeartbeats 4000000 in
theorem rblocks_any (w : World) (lv : Value) (n : Nat) (L : Prs) (hl : Lis w w.heap.size lv L) (hf : FitL n L) (hL : L.length ≤ 1000) (hn : n ≤ 16) :
    Calls Try.prog 30 #[.int .i64 (n : Int), lv] w fun e w' => (∃ v, e = .returned v ∧ OwnG w' w.heap.size v (nII (blocksI L n))) ∧ Below w.heap.size w w' := by
  obtain ⟨R, hR⟩ : ∃ R, R = restI L n := ⟨_, rfl⟩
  have hRR : blocksI L n = (blkN R n n).2 := by rw [hR]; rfl
  rw [hRR]
  have HFR : Hid (FitL n R) := by show FitL n R; rw [hR]; exact pickN_fit hf
  have HJN : Hid (∀ (W : World) (a b : Nat), Below w.heap.size w W → a < n → b < n → Calls Try.prog 43 #[.int .i64 (n : Int), lv, .int .i64 (a : Int), .int .i64 (b : Int)] W fun e w' => e = .returned (.bool (decide (0 ≤ (farI R n (a : Int)).getD b 0))) ∧ Below W.heap.size W w') := fun W a b hW ha hb => by
    rw [hR]
    exact rjoined_any W lv n L a b _ (jn_iff hf ha hb) (hl.below hW hW.size) hf hL hn ha hb
  clear hR hRR hf
  obtain ⟨al, ac, rfl, -, -⟩ := hl.slice
  clear hl
  go_enter Try.func30, Try.ntmps30
  go_wp2_with (refine wpList_make_bool rfl _ _ rfl n rfl rfl (by omega) ?_)
  intro db W2 hrow hge hbel
  have HBK : Hid (DBK w w.heap.size R n db 0 (.slice none 0 0) W2) := ⟨hrow, OwnG.nil _ _, hbel, hge⟩
  have HGE := Lib.hid hge
  clear hrow hge hbel
  go_wp2_with (fail)
  go_loopw [5, 7] (fun ov vv wx => ∃ v no co : Nat, ∃ ao', ov = .slice ao' no co ∧ vv = .int .i64 (v : Int) ∧ v ≤ n ∧ Hid (DBK w w.heap.size R n db v (.slice ao' no co) wx)) (fun _ vv _ => n - (intOf vv).toNat)
  case atStart => exact ⟨0, 0, 0, none, rfl, rfl, Nat.zero_le _, HBK.out⟩
  case round =>
    clear HBK
    obtain ⟨v, no, co, ao', rfl, rfl, hv, HBK⟩ := hrel
    by_cases hlt : v < n
    · obtain ⟨hdb, hog, hbe, -⟩ := HBK.out
      have cdv := hdb.cell v (by rw [blkN_len]; exact hlt)
      have hdl := hdb.lt
      have hvn : 0 ≤ (v : Int) ∧ (v : Int) < (n : Int) := by omega
      obtain ⟨bq, hbq⟩ : ∃ x, x = (blkN R n v).1.getD v false := ⟨_, rfl⟩
      rw [← hbq] at cdv
      have HBQ := Lib.hid hbq
      have HOG := Lib.hid hog
      have HBE := Lib.hid hbe
      have HDB := Lib.hid hdb
      clear HBK hdb hog hbe hbq
      cases bq with
      | true =>
        have HN : Hid (blkN R n (v + 1) = blkN R n v) := by show (if _ then _ else _) = _; rw [if_pos HBQ.out.symm]
        have HBK2 : Hid (DBK w w.heap.size R n db (v + 1) (.slice ao' no co) wr) := by
          show DBK _ _ _ _ _ _ _ _
          unfold DBK
          rw [HN.out]
          exact ⟨HDB.out, HOG.out, HBE.out, HGE.out⟩
        go_wp2_with (fail)
        go_roundw
        case rel => exact ⟨v + 1, no, co, ao', rfl, by go_num, by omega, HBK2.out⟩
        case measure => simp [intOf] <;> omega
      | false =>
        obtain ⟨D, hD⟩ : ∃ D, D = farI R n (v : Int) := ⟨_, rfl⟩
        have HN : Hid (blkN R n (v + 1) = (setD (blkN R n v).1 D n, (blkN R n v).2 ++ [rowD D n])) := by show (if _ then _ else _) = _; rw [if_neg (by rw [← HBQ.out]; simp), ← hD]
        have HNEW : Hid (∀ u, u < n → 0 ≤ D.getD u 0 → v ≤ u ∧ (blkN R n v).1.getD u false = false) := fun u hu h => blk_new HFR.out hlt hu HBQ.out.symm (by rw [← hD]; exact h)
        have HJV : Hid (∀ (W : World) (b : Nat), Below w.heap.size w W → b < n → Calls Try.prog 43 #[.int .i64 (n : Int), .slice al L.length ac, .int .i64 (v : Int), .int .i64 (b : Int)] W fun e w' => e = .returned (.bool (decide (0 ≤ D.getD b 0))) ∧ Below W.heap.size W w') := fun W b hW hb => by rw [hD]; exact HJN.out W v b hW hlt hb
        clear hD
        obtain ⟨Wf, hWf⟩ : ∃ x, x = wr := ⟨_, rfl⟩
        rw [← hWf] at cdv hdl HOG HBE HDB ⊢
        have HIB : Hid (IBD Wf w.heap.size R n db v v D (.slice none 0 0) Wf) := by
          have hno : ∀ k, k < v → ¬ 0 ≤ D.getD k 0 := fun k hk h => by
            have := (HNEW.out k (by omega) h).1
            omega
          refine ⟨?_, ?_, fun _ _ _ => rfl, Below.refl _ _, Nat.le_refl _⟩
          · rw [rowD_none hno]; exact OwnN.nil _ _
          · rw [setD_none v hno]; exact HDB.out
        have HSZ : Hid (w.heap.size ≤ Wf.heap.size) := HBE.out.size
        have HDL := Lib.hid hdl
        clear hWf
        go_wp2_with (fail)
        clear cdv hdl
        go_loopw [8, 9] (fun rw_ uv wx => ∃ u nr cr : Nat, ∃ ar, rw_ = .slice ar nr cr ∧ uv = .int .i64 (u : Int) ∧ u ≤ n ∧ Hid (IBD Wf w.heap.size R n db v u D (.slice ar nr cr) wx)) (fun _ uv _ => n - (intOf uv).toNat)
        case atStart => exact ⟨v, 0, 0, none, rfl, rfl, hv, HIB.out⟩
        case round =>
          clear HIB
          obtain ⟨u, nr, cr, ar, rfl, rfl, hu, HIB⟩ := hrel
          by_cases hult : u < n
          · obtain ⟨-, hd, -, hbx, -⟩ := HIB.out
            have cdu := hd.cell u (by rw [setD_len, blkN_len]; exact hult)
            have hdl := hd.lt
            have hun : 0 ≤ (u : Int) ∧ (u : Int) < (n : Int) := by omega
            have hg := setD_get (done := (blkN R n v).1) (D := D) (u := u) (by rw [blkN_len]; exact hult) u
            obtain ⟨dq, hdq⟩ : ∃ x, x = (setD (blkN R n v).1 D u).getD u false := ⟨_, rfl⟩
            rw [← hdq] at cdu hg
            have HG : Hid (dq = true ↔ (blkN R n v).1.getD u false = true) := hg.trans ⟨fun h => h.resolve_right (fun h => by omega), .inl⟩
            have HBX := Lib.hid (HBE.out.trans hbx)
            have HNU : Hid (0 ≤ D.getD u 0 → (blkN R n v).1.getD u false = false) := fun h => (HNEW.out u hult h).2
            have HSKIP : Hid (¬ 0 ≤ D.getD u 0 → ∀ W, IBD Wf w.heap.size R n db v u D (.slice ar nr cr) W → IBD Wf w.heap.size R n db v (u + 1) D (.slice ar nr cr) W) := fun h W hW => by
              obtain ⟨x1, x2, x3, x4, x5⟩ := hW
              refine ⟨?_, ?_, x3, x4, x5⟩
              · rw [rowD_succ, if_neg h, List.append_nil]; exact x1
              · show RowB _ _ (if _ then _ else _); rw [if_neg h]; exact x2
            clear hd hbx hg hdq
            cases dq with
            | true =>
              have hno : ¬ 0 ≤ D.getD u 0 := fun h => by
                have h1 := HG.out.1 rfl
                rw [HNU.out h] at h1; cases h1
              have HIB5 := Lib.hid (HSKIP.out hno wr HIB.out)
              clear hno
              go_wp2_with (fail)
              go_roundw
              case rel => exact ⟨u + 1, nr, cr, ar, rfl, by go_num, by omega, HIB5.out⟩
              case measure => simp [intOf] <;> omega
            | false =>
              have HCJ := Lib.hid (HJV.out wr u HBX.out hult)
              by_cases h0 : 0 ≤ D.getD u 0
              · rw [decide_eq_true h0] at HCJ
                have HST : Hid (setD (blkN R n v).1 D (u + 1) = (setD (blkN R n v).1 D u).set u true ∧ rowD D (u + 1) = rowD D u ++ [u]) := ⟨by show (if _ then _ else _) = _; rw [if_pos h0], by rw [rowD_succ, if_pos h0]⟩
                clear h0
                go_wp2_with (fail)
                refine HCJ.out.mono ?_
                rintro e Wj ⟨rfl, hb⟩
                have hij := HIB.out.below HSZ.out hb
                obtain ⟨ho, hd, hkx, hbx, hsx⟩ := hij
                have cd5 := hd.cell u (by rw [setD_len, blkN_len]; exact hult)
                have fd5 := hd.frozen u
                have hdl5 := hd.lt
                obtain ⟨Ws, hWs⟩ : ∃ x, x = Wj.setCell ⟨db, u, none⟩ (.bool true) := ⟨_, rfl⟩
                have ho2 : OwnN Ws Wf.heap.size (.slice ar nr cr) (nI (rowD D u)) := by
                  rw [hWs]
                  exact owns_same ho fun k cur _ hk hB => Below.heap_setCell _ _ _ _ (by show k ≠ db; have := HDL.out; omega)
                have hd2 : RowB Ws db (setD (blkN R n v).1 D (u + 1)) := by rw [HST.out.1, hWs]; exact RowB.set hd u true
                have hk2 : ∀ c, c ≠ db → c < Wf.heap.size → Ws.heap[c]? = Wf.heap[c]? := fun c h1 h2 => by rw [hWs]; exact (Below.heap_setCell _ _ _ _ h1).trans (hkx c h1 h2)
                have hb2 : Below w.heap.size Wf Ws := by rw [hWs]; exact bel_set HGE.out hbx
                have hs2 : Wf.heap.size ≤ Ws.heap.size := by rw [hWs]; simpa using hsx
                have m1 := new_block Ws (.cells #[.int .i64 (u : Int)] 3)
                have HM1 := Lib.hid m1
                have hszw : Ws.heap.size = Wj.heap.size := by rw [hWs]; simp
                have HMA : Hid ((Ws.alloc (.cells #[.int .i64 (u : Int)] 3)).heap[Wj.heap.size]? = some (.cells #[.int .i64 (u : Int)] 3 (0, 0))) := by rw [← hszw]; exact m1.2
                have HD2 := Lib.hid hd2
                have HK2 := Lib.hid hk2
                have HB2 := Lib.hid hb2
                have HS2 := Lib.hid hs2
                have HO1 : Hid (OwnN (Ws.alloc (.cells #[.int .i64 (u : Int)] 3)) Wf.heap.size (.slice ar nr cr) (nI (rowD D u))) := owns_below ho2 m1.1
                have HS1 : Hid (Wf.heap.size ≤ (Ws.alloc (.cells #[.int .i64 (u : Int)] 3)).heap.size) := Nat.le_trans hs2 m1.1.size
                have HSM : Hid ((nI (rowD D u)).length ≤ 1000000) := by show _ ≤ _; rw [List.length_map]; have := rowD_few (d := D) (k := u); omega
                have HWS := Lib.hid hWs
                clear hszw m1 ho hd hkx hbx hsx ho2 hd2 hk2 hb2 hs2 hWs hb cdu
                go_wp2_with (first | (rw [← HWS.out]; at_builtin; refine wpList_append_n rfl _ _ rfl Wf.heap.size _ _ rfl HO1.out Wj.heap.size (u : Int) rfl HMA.out HSM.out HS1.out ?_))
                intro v5 W5 ho5 hg5
                have hb5 := grown_low HO1.out hg5 (Below.refl Wf.heap.size _) (Nat.le_refl _) HS1.out
                have HIB5 : Hid (IBD Wf w.heap.size R n db v (u + 1) D v5 W5) := by
                  refine ⟨?_, ?_, fun c h1 h2 => ((hb5.block c h2).trans (HM1.out.1.block c (by have := HS2.out; omega))).trans (HK2.out c h1 h2), (HB2.out.trans (HM1.out.1.mono (by have := HS2.out; have := HSZ.out; omega))).trans (hb5.mono HSZ.out), by have := HS1.out; have := hb5.size; omega⟩
                  · rw [HST.out.2]; simpa [nI] using ho5
                  · exact (HD2.out.of (HM1.out.1.block db HD2.out.lt)).of (hb5.block db HDL.out)
                obtain ⟨av5, cv5, hv5⟩ := owns_form ho5
                clear ho5 hg5 hb5
                subst hv5
                go_wp2_with (fail)
                go_roundw
                case rel => exact ⟨u + 1, _, cv5, av5, rfl, by go_num, by omega, HIB5.out⟩
                case measure => simp [intOf] <;> omega
              · rw [decide_eq_false h0] at HCJ
                have HSK := Lib.hid (HSKIP.out h0)
                clear h0
                go_wp2_with (fail)
                refine HCJ.out.mono ?_
                rintro e Wj ⟨rfl, hb⟩
                have HIB5 := Lib.hid (HSK.out Wj (HIB.out.below HSZ.out hb))
                clear hb cdu
                go_wp2_with (fail)
                go_roundw
                case rel => exact ⟨u + 1, nr, cr, ar, rfl, by go_num, by omega, HIB5.out⟩
                case measure => simp [intOf] <;> omega
          · obtain rfl : u = n := by omega
            obtain ⟨ho, hd, hkx, hbx, hsx⟩ := HIB.out
            have hgz := HGE.out
            have hdl := HDL.out
            have hog : OwnG wr (db + 1) (.slice ao' no co) (nII (blkN R u v).2) := HOG.out.of fun c cs ty hc ht hB => hkx c (by omega) (Array.getElem?_eq_some_iff.1 hc).1
            have m2 := new_block wr (.cells #[.slice ar nr cr] 35)
            have HOG3 := Lib.hid (hog.below m2.1)
            have HOW3 : Hid (OwnN (wr.alloc (.cells #[.slice ar nr cr] 35)) (db + 1) (.slice ar nr cr) (nI (rowD D u))) := owns_mono (owns_below ho m2.1) (by omega)
            have HM2 := Lib.hid m2
            have HBZ3 : Hid (db + 1 ≤ (wr.alloc (.cells #[.slice ar nr cr] 35)).heap.size) := by have := m2.1.size; show _ ≤ _; omega
            have HSM : Hid ((nII (blkN R u v).2).length ≤ 1000000) := by show _ ≤ _; rw [List.length_map]; have := blkN_few (R := R) (n := u) v; omega
            have HDR := Lib.hid (hd.keep m2.1)
            have HZ3 : Hid (Below w.heap.size w (wr.alloc (.cells #[.slice ar nr cr] 35))) := (HBE.out.trans hbx).trans (m2.1.mono (by have := HSZ.out; omega))
            clear HIB ho hd hkx hbx hsx hog m2 hgz hdl
            go_wp2_with (at_builtin; refine wpList_append_g rfl _ _ rfl (db + 1) _ _ rfl HOG3.out wr.heap.size (nI (rowD D u)) (.slice ar nr cr) rfl HM2.out.2 HOW3.out HSM.out HBZ3.out ?_)
            intro v5 W5 hog5 hb5 hk5
            have HBK5 : Hid (DBK w w.heap.size R u db (v + 1) v5 W5) := by
              have hgz := HGE.out
              refine ⟨?_, ?_, HZ3.out.trans (hb5.mono (by omega)), hgz⟩
              · rw [HN.out]; exact HDR.out.of (hb5.block db (Nat.lt_succ_self _))
              · rw [HN.out]
                rw [show nII ((blkN R u v).2 ++ [rowD D u]) = nII (blkN R u v).2 ++ [nI (rowD D u)] by simp [nII]]
                exact hog5
            obtain ⟨av5, cv5, hv5⟩ := hog5.form
            clear hog5 hb5 hk5
            subst hv5
            go_wp2_with (fail)
            go_roundw
            case rel => exact ⟨v + 1, _, cv5, av5, rfl, by go_num, by omega, HBK5.out⟩
            case measure => simp [intOf] <;> omega
    · obtain rfl : v = n := by omega
      obtain ⟨hdb, hog, hbe, hge⟩ := HBK.out
      have HFIN : Hid (OwnG wr w.heap.size (.slice ao' no co) (nII (blkN R v v).2)) := by
        obtain ⟨vs, h1, h2, h3⟩ := hog
        exact ⟨vs, h1, owns_mono h2 (by omega), fun i hi => owns_mono (h3 i hi) (by omega)⟩
      have HFB := Lib.hid hbe
      clear HBK hdb hog hbe hge
      go_wp2_with (fail)
      go_ret
      exact ⟨⟨_, rfl, HFIN.out⟩, HFB.out⟩

end Go.Proofs.Ytenilbofncfbdaa

namespace Go.Proofs.Ytenilbofncfbdaa

theorem dist_short {L : Prs} {n a : Nat} {e : List Int} (hf : FitL n L) (he : DistOk L n a e) {u : Nat} (hu : u < n) (h0 : 0 ≤ e.getD u 0) : e.getD u 0 < (n : Int) := by
  have key : ∀ (m u : Nat), u < n → e.getD u 0 = (m : Int) → ∃ l : List Nat, l.length = m + 1 ∧ l.Nodup ∧ ∀ x ∈ l, x < n ∧ e.getD x 0 ≤ (m : Int) := by
    intro m
    induction m with
    | zero => intro u hu h; exact ⟨[u], rfl, by simp, fun x hx => by rw [List.mem_singleton] at hx; subst hx; exact ⟨hu, by omega⟩⟩
    | succ m ih =>
      intro u hu h
      obtain ⟨k, x, h1, h2⟩ := he.by_ u hu (by omega)
      obtain ⟨l, l1, l2, l3⟩ := ih x (edge_lt hf h1).1 (by omega)
      refine ⟨l ++ [u], by simp [l1], ?_, fun y hy => ?_⟩
      · rw [List.nodup_append]
        refine ⟨l2, by simp, fun y hy z hz => ?_⟩
        rw [List.mem_singleton] at hz
        subst hz
        rintro rfl
        have := (l3 _ hy).2
        omega
      · rcases List.mem_append.1 hy with hy | hy
        · exact ⟨(l3 y hy).1, by have := (l3 y hy).2; omega⟩
        · rw [List.mem_singleton] at hy; subst hy; exact ⟨hu, by omega⟩
  obtain ⟨l, l1, l2, l3⟩ := key (e.getD u 0).toNat u hu (by omega)
  have := nodup_bound l2 (fun x hx => (l3 x hx).1)
  omega
/-- within round r, i pairs looked at -/
structure DA (L : Prs) (n : Nat) (e : List Int) (r i : Nat) (d : List Int) : Prop where
  dl : d.length = n
  val : ∀ u, u < n → d.getD u 0 = -1 ∨ (d.getD u 0 = e.getD u 0 ∧ 0 ≤ e.getD u 0 ∧ e.getD u 0 ≤ (r : Int) + 1)
  low : ∀ u, u < n → 0 ≤ e.getD u 0 → e.getD u 0 ≤ (r : Int) → d.getD u 0 = e.getD u 0
  new : ∀ u, u < n → e.getD u 0 = (r : Int) + 1 → ∀ k x, k < i → Edge L k x u → e.getD x 0 = (r : Int) → d.getD u 0 = e.getD u 0
/-- one end's turn -/
def turn (r : Nat) (x y : Nat) (d : List Int) : List Int := if d.getD x 0 = (r : Int) ∧ d.getD y 0 < 0 then d.set y ((r : Int) + 1) else d
theorem turn_ok {L : Prs} {n a r i x y k : Nat} {e d : List Int} (hf : FitL n L) (he : DistOk L n a e) (h : DA L n e r i d) (hk : Edge L k x y) : DA L n e r i (turn r x y d) ∧ (e.getD y 0 = (r : Int) + 1 → e.getD x 0 = (r : Int) → (turn r x y d).getD y 0 = e.getD y 0) ∧ ∀ u, u < n → d.getD u 0 = e.getD u 0 → (turn r x y d).getD u 0 = e.getD u 0 := by
  obtain ⟨hx, hy, hxy⟩ := edge_lt hf hk
  unfold turn
  by_cases c : d.getD x 0 = (r : Int) ∧ d.getD y 0 < 0
  · rw [if_pos c]
    have hex : e.getD x 0 = (r : Int) := by
      rcases h.val x hx with v | ⟨v, -, -⟩
      · omega
      · omega
    have hey : e.getD y 0 = (r : Int) + 1 := by
      obtain ⟨e1, e2⟩ := he.edge y x k hk.symm (by omega)
      by_cases le : e.getD y 0 ≤ (r : Int)
      · have := h.low y hy e1 le; omega
      · omega
    have hs : (d.set y ((r : Int) + 1)).getD y 0 = (r : Int) + 1 := getD_set_same _ _ _ _ (by rw [h.dl]; exact hy)
    have ho : ∀ u, u ≠ y → (d.set y ((r : Int) + 1)).getD u 0 = d.getD u 0 := fun u hu => getD_set_other _ _ _ _ _ (Ne.symm hu)
    refine ⟨⟨by simpa using h.dl, fun u hu => ?_, fun u hu h1 h2 => ?_, fun u hu h1 k x hk he2 h3 => ?_⟩, fun _ _ => by rw [hs, hey], fun u hu h1 => ?_⟩
    · by_cases q : u = y
      · subst q; exact .inr ⟨by rw [hs, hey], by omega, by omega⟩
      · rw [ho u q]; exact h.val u hu
    · by_cases q : u = y
      · subst q; rw [hs, hey]
      · rw [ho u q]; exact h.low u hu h1 h2
    · by_cases q : u = y
      · subst q; rw [hs, hey]
      · rw [ho u q]; exact h.new u hu h1 k x hk he2 h3
    · by_cases q : u = y
      · subst q; rw [hs, hey]
      · rw [ho u q]; exact h1
  · rw [if_neg c]
    refine ⟨h, fun h1 h2 => ?_, fun u hu h1 => h1⟩
    have hdx := h.low x hx (by omega) (by omega)
    rcases h.val y hy with v | ⟨v, -, -⟩
    · exact absurd ⟨by omega, by omega⟩ c
    · exact v
theorem both_ok {L : Prs} {n a r i : Nat} {e d : List Int} (hf : FitL n L) (he : DistOk L n a e) (h : DA L n e r i d) (hi : i < L.length) : DA L n e r (i + 1) (turn r (endB L i) (endA L i) (turn r (endA L i) (endB L i) d)) := by
  have hed : Edge L i (endA L i) (endB L i) := ⟨hi, .inl ⟨rfl, rfl⟩⟩
  obtain ⟨g1, g2, g3⟩ := turn_ok hf he h hed
  obtain ⟨f1, f2, f3⟩ := turn_ok hf he g1 hed.symm
  obtain ⟨ha, hb, -⟩ := edge_lt hf hed
  refine ⟨f1.dl, f1.val, f1.low, fun u hu h1 k x hk hx h2 => ?_⟩
  by_cases c : k = i
  · subst c
    rcases hx.2 with ⟨x1, x2⟩ | ⟨x1, x2⟩
    · rw [← x2] at h1 hu ⊢
      rw [← x1] at h2
      exact f3 _ hb (g2 h1 h2)
    · rw [← x1] at h1 hu ⊢
      rw [← x2] at h2
      exact f2 h1 h2
  · exact f1.new u hu h1 k x (by omega) hx h2
theorem DA.next {L : Prs} {n a r : Nat} {e d : List Int} (hf : FitL n L) (he : DistOk L n a e) (h : DA L n e r L.length d) : DA L n e (r + 1) 0 d := by
  have full : ∀ u, u < n → e.getD u 0 = (r : Int) + 1 → d.getD u 0 = e.getD u 0 := fun u hu h1 => by
    obtain ⟨k, x, h2, h3⟩ := he.by_ u hu (by omega)
    exact h.new u hu h1 k x h2.1 h2 (by omega)
  refine ⟨h.dl, fun u hu => ?_, fun u hu h1 h2 => ?_, fun u hu h1 k x hk => by omega⟩
  · rcases h.val u hu with v | ⟨v1, v2, v3⟩
    · exact .inl v
    · exact .inr ⟨v1, v2, by omega⟩
  · by_cases c : e.getD u 0 ≤ (r : Int)
    · exact h.low u hu h1 c
    · exact full u hu (by omega)
theorem DA.start {L : Prs} {n a : Nat} {e : List Int} (he : DistOk L n a e) (ha : a < n) : DA L n e 0 0 ((List.replicate n (-1)).set a 0) := by
  have hs : ((List.replicate n (-1 : Int)).set a 0).getD a 0 = 0 := getD_set_same _ _ _ _ (by simpa using ha)
  have ho : ∀ u, u < n → u ≠ a → ((List.replicate n (-1 : Int)).set a 0).getD u 0 = -1 := fun u hu h => by
    rw [getD_set_other _ _ _ _ _ (Ne.symm h), List.getD_eq_getElem?_getD, List.getElem?_replicate, if_pos hu]; rfl
  have ea := (he.zero a ha).2 rfl
  refine ⟨by simp, fun u hu => ?_, fun u hu h1 h2 => ?_, fun u hu h1 k x hk => by omega⟩
  · by_cases c : u = a
    · subst c; exact .inr ⟨by rw [hs, ea], by omega, by omega⟩
    · exact .inl (ho u hu c)
  · have := (he.zero u hu).1 (by omega)
    subst this
    rw [hs, ea]
theorem DA.done {L : Prs} {n a : Nat} {e d : List Int} (hf : FitL n L) (he : DistOk L n a e) (h : DA L n e n 0 d) : d = e := by
  refine List.ext_getElem (by rw [h.dl, he.dl]) fun u h1 h2 => ?_
  have hu : u < n := by rw [← h.dl]; exact h1
  have e1 : d.getD u 0 = d[u] := by simp [List.getD, h1]
  have e2 : e.getD u 0 = e[u] := by simp [List.getD, h2]
  rw [← e1, ← e2]
  by_cases c : 0 ≤ e.getD u 0
  · exact h.low u hu c (by have := dist_short hf he hu c; omega)
  · rcases h.val u hu with v | ⟨v, -, -⟩
    · have := he.neg u hu; omega
    · exact v

end Go.Proofs.Ytenilbofncfbdaa

namespace Go.Proofs.Ytenilbofncfbdaa
open Go.RowKit

set_option maxRecDepth 100000 in
set_option maxHeartbeats 4000000 in
theorem rdist_any (w : World) (lv : Value) (n : Nat) (L : Prs) (a : Int) (hl : Lis w w.heap.size lv L) (hf : FitL n L) (hL : L.length ≤ 1000) (hn : n ≤ 16) :
    Calls Try.prog 42 #[.int .i64 (n : Int), lv, .int .i64 a] w fun e w' => (∃ yb, e = .returned (.slice (some ⟨yb, 0, none⟩) n n) ∧ RowI w' yb (farI L n a) ∧ w.heap.size ≤ yb) ∧ Below w.heap.size w w' := by
  have HLI : Hid (∀ W, Below w.heap.size w W → Lis W w.heap.size lv L) := fun W hW => hl.below hW (Nat.le_refl _)
  have HF := Lib.hid hf
  obtain ⟨E, hE⟩ : ∃ E, E = farI L n a := ⟨_, rfl⟩
  rw [← hE]
  have HEE := Lib.hid hE
  have HND : Hid (∀ W, Calls Try.prog 32 #[.int .i64 (n : Int), .int .i64 a] W fun e w' => e = .returned (.bool (nodeB (n : Int) a)) ∧ w' = W) := fun W => node_any (n : Int) a W
  obtain ⟨al, ac, rfl, hac, hal⟩ := hl.slice
  obtain ⟨ml, hml⟩ : ∃ x, x = L.length := ⟨_, rfl⟩
  rw [← hml] at hac hal hL HLI ⊢
  have HML := Lib.hid hml
  clear hl hf hml hE
  go_enter Try.func42, Try.ntmps42
  go_wp2_with (refine wpList_make_int rfl _ _ rfl n rfl rfl (by omega) ?_)
  intro db W2 hrow hge hbel
  have HR : Hid (RowI W2 db (List.replicate 0 (-1) ++ List.replicate (n - 0) 0)) := by show RowI _ _ _; simpa using hrow
  have HB := Lib.hid hbel
  have HGE := Lib.hid hge
  clear hrow hge hbel
  go_wp2_with (fail)
  go_loopw [8] (fun kv wx => ∃ k : Nat, kv = .int .i64 (k : Int) ∧ k ≤ n ∧ Hid (RowI wx db (List.replicate k (-1) ++ List.replicate (n - k) 0)) ∧ Hid (Below w.heap.size w wx)) (fun kv _ => n - (intOf kv).toNat)
  case atStart => exact ⟨0, rfl, Nat.zero_le _, HR.out, HB.out⟩
  case round =>
    clear HR HB
    obtain ⟨k, rfl, hk, HR, HB⟩ := hrel
    by_cases hlt : k < n
    · have cx := HR.out.cell k (by simp; omega)
      have fx := RowV.frozen HR.out k
      have hdl := HR.out.lt
      have hkn : 0 ≤ (k : Int) ∧ (k : Int) < (n : Int) := by omega
      have HR2 : Hid (RowI (wr.setCell ⟨db, k, none⟩ (.int .i64 (-1))) db (List.replicate (k + 1) (-1) ++ List.replicate (n - (k + 1)) 0)) := by
        have h := HR.out.set k (-1)
        have e : (List.replicate k (-1 : Int) ++ List.replicate (n - k) 0).set k (-1) = List.replicate (k + 1) (-1) ++ List.replicate (n - (k + 1)) 0 := by
          rw [show n - k = (n - (k + 1)) + 1 by omega, List.replicate_succ, List.set_append_right _ _ (by simp), List.length_replicate, Nat.sub_self, List.set_cons_zero, List.replicate_succ']
          simp
        rw [e] at h
        exact h
      have HB2 : Hid (Below w.heap.size w (wr.setCell ⟨db, k, none⟩ (.int .i64 (-1)))) := bel_set HGE.out HB.out
      go_wp2_with (fail)
      go_roundw
      case rel => exact ⟨k + 1, by go_num, by omega, HR2.out, HB2.out⟩
      case measure => simp [intOf] <;> omega
    · obtain rfl : n = k := by omega
      have hr := HR.out
      rw [Nat.sub_self, show List.replicate 0 (0 : Int) = [] from rfl, List.append_nil] at hr
      have HR0 := Lib.hid hr
      clear HR hr
      by_cases hnode : 0 ≤ a ∧ a < (n : Int)
      · obtain ⟨A, rfl⟩ : ∃ A : Nat, a = (A : Int) := ⟨a.toNat, by omega⟩
        have hA : A < n := by omega
        have hok := far_ok HF.out hA
        rw [← HEE.out] at hok
        have HOK := Lib.hid hok
        have HST := Lib.hid (DA.start hok hA)
        have HNN := HND.out wr
        rw [show nodeB (n : Int) (A : Int) = true by unfold nodeB; simp; omega] at HNN
        have HN := Lib.hid HNN
        have cx := HR0.out.cell A (by simpa using hA)
        have fx := RowV.frozen HR0.out A
        have hdl := HR0.out.lt
        have hAn : 0 ≤ (A : Int) ∧ (A : Int) < (n : Int) := by omega
        have HR1 : Hid (RowI (wr.setCell ⟨db, A, none⟩ (.int .i64 0)) db ((List.replicate n (-1)).set A 0)) := HR0.out.set A 0
        have HB1 : Hid (Below w.heap.size w (wr.setCell ⟨db, A, none⟩ (.int .i64 0))) := bel_set HGE.out HB.out
        clear hok HNN hnode HND
        go_wp2_with (fail)
        refine HN.out.mono ?_
        rintro e w' ⟨rfl, rfl⟩
        go_wp2_with (fail)
        clear cx fx hdl HN
        go_loopw [9] (fun rv wx => ∃ (r : Nat) (d : List Int), rv = .int .i64 (r : Int) ∧ r ≤ n ∧ Hid (DA L n E r 0 d) ∧ Hid (RowI wx db d) ∧ Hid (Below w.heap.size w wx)) (fun rv _ => n - (intOf rv).toNat)
        case atStart => exact ⟨0, _, rfl, Nat.zero_le _, HST.out, HR1.out, HB1.out⟩
        case round =>
          clear HST HR1 HB1
          obtain ⟨r, d, rfl, hr, HD, HR, HB⟩ := hrel
          by_cases hrl : r < n
          · go_wp2_with (fail)
            go_loopw [10] (fun iv wx => ∃ (i : Nat) (d : List Int), iv = .int .i64 (i : Int) ∧ i ≤ ml ∧ Hid (DA L n E r i d) ∧ Hid (RowI wx db d) ∧ Hid (Below w.heap.size w wx)) (fun iv _ => ml - (intOf iv).toNat)
            case atStart => exact ⟨0, d, rfl, Nat.zero_le _, HD.out, HR.out, HB.out⟩
            case round =>
              clear HD HR HB
              obtain ⟨i, d, rfl, hi, HD, HR, HB⟩ := hrel
              by_cases hil : i < ml
              · have hiL : i < L.length := by rw [← HML.out]; exact hil
                obtain ⟨bl, ol, e1, hl1, cA, cB⟩ := Lis.at (HLI.out wr HB.out) i hiL
                subst e1
                have hed := edge_lt HF.out (⟨hiL, .inl ⟨rfl, rfl⟩⟩ : Edge L i (endA L i) (endB L i))
                have hnx := both_ok HF.out HOK.out HD.out hiL
                obtain ⟨x, hx⟩ : ∃ x, x = endA L i := ⟨_, rfl⟩
                obtain ⟨y, hy⟩ : ∃ x, x = endB L i := ⟨_, rfl⟩
                rw [← hx] at cA hed hnx
                rw [← hy] at cB hed hnx
                obtain ⟨hxn, hyn, hxy⟩ := hed
                have cdx := HR.out.cell x (by rw [HD.out.dl]; exact hxn)
                have cdy := HR.out.cell y (by rw [HD.out.dl]; exact hyn)
                have fdx := RowV.frozen HR.out x
                have fdy := RowV.frozen HR.out y
                have hdl := HR.out.lt
                have hx2 : 0 ≤ (x : Int) ∧ (x : Int) < (n : Int) := by omega
                have hy2 : 0 ≤ (y : Int) ∧ (y : Int) < (n : Int) := by omega
                have hi2 : 0 ≤ (i : Int) ∧ (i : Int) < (ml : Int) := by omega
                have HNX := Lib.hid hnx
                obtain ⟨dx, hdx⟩ : ∃ q, q = d.getD x 0 := ⟨_, rfl⟩
                obtain ⟨dy, hdy⟩ : ∃ q, q = d.getD y 0 := ⟨_, rfl⟩
                rw [← hdx] at cdx
                rw [← hdy] at cdy
                have HDX : Hid (d.getD x 0 = dx ∧ d.getD y 0 = dy) := ⟨hdx.symm, hdy.symm⟩
                have hll : bl < wr.heap.size := by have := HB.out.size; omega
                clear hx hy hnx hdx hdy hiL
                by_cases c1 : dx = (r : Int)
                · have bx : (dx == (r : Int)) = true := by rw [beq_iff_eq]; exact c1
                  by_cases c2 : dy < 0
                  · have ly : decide (dy < 0) = true := by rw [decide_eq_true_iff]; exact c2
                    have HE : Hid (DA L n E r (i + 1) (d.set y ((r : Int) + 1))) := by
                      have h := HNX.out
                      rw [show turn r x y d = d.set y ((r : Int) + 1) by unfold turn; rw [HDX.out.1, HDX.out.2]; exact if_pos ⟨c1, c2⟩] at h
                      rw [show turn r y x (d.set y ((r : Int) + 1)) = d.set y ((r : Int) + 1) by unfold turn; rw [getD_set_same _ _ _ _ (by rw [HD.out.dl]; exact hyn)]; exact if_neg (by omega)] at h
                      exact h
                    obtain ⟨W1, hW1⟩ : ∃ W1, W1 = wr.setCell ⟨db, y, none⟩ (.int .i64 ((r : Int) + 1)) := ⟨_, rfl⟩
                    have HR1 : Hid (RowI (wr.setCell ⟨db, y, none⟩ (.int .i64 ((r : Int) + 1))) db (d.set y ((r : Int) + 1))) := HR.out.set y ((r : Int) + 1)
                    have HB1 : Hid (Below w.heap.size w (wr.setCell ⟨db, y, none⟩ (.int .i64 ((r : Int) + 1)))) := bel_set HGE.out HB.out
                    have cA1 : (wr.setCell ⟨db, y, none⟩ (.int .i64 ((r : Int) + 1))).cell? ⟨bl, ol + i * 2, none⟩ = some (.int .i64 (x : Int)) := (HB1.out.cell (p := ⟨bl, ol + i * 2, none⟩) hl1).trans ((HB.out.cell (p := ⟨bl, ol + i * 2, none⟩) hl1).symm.trans cA)
                    have cB1 : (wr.setCell ⟨db, y, none⟩ (.int .i64 ((r : Int) + 1))).cell? ⟨bl, ol + i * 2 + 1, none⟩ = some (.int .i64 (y : Int)) := (HB1.out.cell (p := ⟨bl, ol + i * 2 + 1, none⟩) hl1).trans ((HB.out.cell (p := ⟨bl, ol + i * 2 + 1, none⟩) hl1).symm.trans cB)
                    have ct1 : (wr.setCell ⟨db, y, none⟩ (.int .i64 ((r : Int) + 1))).cell? ⟨db, y, none⟩ = some (.int .i64 ((r : Int) + 1)) := by
                      have h := HR1.out.cell y (by rw [List.length_set, HD.out.dl]; exact hyn)
                      rwa [getD_set_same _ _ _ _ (by rw [HD.out.dl]; exact hyn)] at h
                    have hrr : (((r : Int) + 1) == (r : Int)) = false := by rw [beq_eq_false_iff_ne]; omega
                    clear hW1 W1
                    go_wp2_with (fail)
                    go_roundw
                    case rel => exact ⟨i + 1, _, by go_num, by omega, HE.out, HR1.out, HB1.out⟩
                    case measure => simp [intOf] <;> omega
                  · have ly : decide (dy < 0) = false := by rw [decide_eq_false_iff_not]; exact c2
                    have HE : Hid (DA L n E r (i + 1) d) := by
                      have h := HNX.out
                      rw [show turn r x y d = d by unfold turn; rw [HDX.out.1, HDX.out.2]; exact if_neg (by omega)] at h
                      rw [show turn r y x d = d by unfold turn; rw [HDX.out.1, HDX.out.2]; exact if_neg (by omega)] at h
                      exact h
                    have lx : decide (dx < 0) = false := by rw [decide_eq_false_iff_not]; omega
                    by_cases c3 : dy = (r : Int)
                    · have by_ : (dy == (r : Int)) = true := by rw [beq_iff_eq]; exact c3
                      go_wp2_with (fail)
                      go_roundw
                      case rel => exact ⟨i + 1, d, by go_num, by omega, HE.out, HR.out, HB.out⟩
                      case measure => simp [intOf] <;> omega
                    · have by_ : (dy == (r : Int)) = false := by rw [beq_eq_false_iff_ne]; exact c3
                      go_wp2_with (fail)
                      go_roundw
                      case rel => exact ⟨i + 1, d, by go_num, by omega, HE.out, HR.out, HB.out⟩
                      case measure => simp [intOf] <;> omega
                · have bx : (dx == (r : Int)) = false := by rw [beq_eq_false_iff_ne]; exact c1
                  by_cases c2 : dy = (r : Int)
                  · have by_ : (dy == (r : Int)) = true := by rw [beq_iff_eq]; exact c2
                    by_cases c3 : dx < 0
                    · have lx : decide (dx < 0) = true := by rw [decide_eq_true_iff]; exact c3
                      have HE : Hid (DA L n E r (i + 1) (d.set x ((r : Int) + 1))) := by
                        have h := HNX.out
                        rw [show turn r x y d = d by unfold turn; rw [HDX.out.1, HDX.out.2]; exact if_neg (by omega)] at h
                        rw [show turn r y x d = d.set x ((r : Int) + 1) by unfold turn; rw [HDX.out.1, HDX.out.2]; exact if_pos ⟨c2, c3⟩] at h
                        exact h
                      obtain ⟨W1, hW1⟩ : ∃ W1, W1 = wr.setCell ⟨db, x, none⟩ (.int .i64 ((r : Int) + 1)) := ⟨_, rfl⟩
                      have HR1 : Hid (RowI (wr.setCell ⟨db, x, none⟩ (.int .i64 ((r : Int) + 1))) db (d.set x ((r : Int) + 1))) := HR.out.set x ((r : Int) + 1)
                      have HB1 : Hid (Below w.heap.size w (wr.setCell ⟨db, x, none⟩ (.int .i64 ((r : Int) + 1)))) := bel_set HGE.out HB.out
                      have cA1 : (wr.setCell ⟨db, x, none⟩ (.int .i64 ((r : Int) + 1))).cell? ⟨bl, ol + i * 2, none⟩ = some (.int .i64 (x : Int)) := (HB1.out.cell (p := ⟨bl, ol + i * 2, none⟩) hl1).trans ((HB.out.cell (p := ⟨bl, ol + i * 2, none⟩) hl1).symm.trans cA)
                      have cB1 : (wr.setCell ⟨db, x, none⟩ (.int .i64 ((r : Int) + 1))).cell? ⟨bl, ol + i * 2 + 1, none⟩ = some (.int .i64 (y : Int)) := (HB1.out.cell (p := ⟨bl, ol + i * 2 + 1, none⟩) hl1).trans ((HB.out.cell (p := ⟨bl, ol + i * 2 + 1, none⟩) hl1).symm.trans cB)
                      have ct1 : (wr.setCell ⟨db, x, none⟩ (.int .i64 ((r : Int) + 1))).cell? ⟨db, x, none⟩ = some (.int .i64 ((r : Int) + 1)) := by
                        have h := HR1.out.cell x (by rw [List.length_set, HD.out.dl]; exact hxn)
                        rwa [getD_set_same _ _ _ _ (by rw [HD.out.dl]; exact hxn)] at h
                      have hrr : (((r : Int) + 1) == (r : Int)) = false := by rw [beq_eq_false_iff_ne]; omega
                      clear hW1 W1
                      go_wp2_with (fail)
                      go_roundw
                      case rel => exact ⟨i + 1, _, by go_num, by omega, HE.out, HR1.out, HB1.out⟩
                      case measure => simp [intOf] <;> omega
                    · have lx : decide (dx < 0) = false := by rw [decide_eq_false_iff_not]; exact c3
                      have HE : Hid (DA L n E r (i + 1) d) := by
                        have h := HNX.out
                        rw [show turn r x y d = d by unfold turn; rw [HDX.out.1, HDX.out.2]; exact if_neg (by omega)] at h
                        rw [show turn r y x d = d by unfold turn; rw [HDX.out.1, HDX.out.2]; exact if_neg (by omega)] at h
                        exact h
                      go_wp2_with (fail)
                      go_roundw
                      case rel => exact ⟨i + 1, d, by go_num, by omega, HE.out, HR.out, HB.out⟩
                      case measure => simp [intOf] <;> omega
                  · have by_ : (dy == (r : Int)) = false := by rw [beq_eq_false_iff_ne]; exact c2
                    have HE : Hid (DA L n E r (i + 1) d) := by
                      have h := HNX.out
                      rw [show turn r x y d = d by unfold turn; rw [HDX.out.1, HDX.out.2]; exact if_neg (by omega)] at h
                      rw [show turn r y x d = d by unfold turn; rw [HDX.out.1, HDX.out.2]; exact if_neg (by omega)] at h
                      exact h
                    go_wp2_with (fail)
                    go_roundw
                    case rel => exact ⟨i + 1, d, by go_num, by omega, HE.out, HR.out, HB.out⟩
                    case measure => simp [intOf] <;> omega
              · obtain rfl : ml = i := by omega
                have HD2 : Hid (DA L n E (r + 1) 0 d) := by
                  have h := HD.out
                  rw [HML.out] at h
                  exact h.next HF.out HOK.out
                go_wp2_with (fail)
                go_roundw
                case rel => exact ⟨r + 1, d, by go_num, by omega, HD2.out, HR.out, HB.out⟩
                case measure => simp [intOf] <;> omega
          · obtain rfl : n = r := by omega
            have HE : Hid (d = E) := DA.done HF.out HOK.out HD.out
            go_wp2_with (fail)
            go_ret
            exact ⟨⟨db, rfl, by rw [← HE.out]; exact HR.out, HGE.out⟩, HB.out⟩
      · have HE : Hid (E = List.replicate n (-1)) := by show _ = _; rw [HEE.out]; unfold farI; rw [if_neg hnode]
        have HNN := HND.out wr
        rw [show nodeB (n : Int) a = false by unfold nodeB; simp; omega] at HNN
        have HN := Lib.hid HNN
        clear HNN HND hnode
        go_wp2_with (fail)
        refine HN.out.mono ?_
        rintro e w' ⟨rfl, rfl⟩
        go_wp2_with (fail)
        go_ret
        exact ⟨⟨db, rfl, by rw [HE.out]; exact HR0.out, HGE.out⟩, HB.out⟩

end Go.Proofs.Ytenilbofncfbdaa

