/- Cuts: Tree, walked (by program: wip/tools/gen_ct1.py). -/
import Derived.Test.YtenilbofncfbdaaCE
set_option linter.unusedSimpArgs false
set_option linter.unusedVariables false
namespace Go.Proofs.Ytenilbofncfbdaa
open Go.RowKit

attribute [local go_sem] Oper.semAt_some

def parP (d : List Int) (v : Nat) (x : Nat × Nat) : Bool := decide (0 < d.getD v 0) && d.getD x.1 0 == d.getD v 0 - 1
def parS (L : Prs) (d : List Int) (v : Nat) (t : List Int) : List Int := match (nbF L v).find? (parP d v) with
 | some x => t.set v (x.1 : Int)
 | none => t
def treeN (L : Prs) (n : Nat) (d : List Int) : Nat → List Int
 | 0 => List.replicate n (-1)
 | v + 1 => parS L d v (treeN L n d v)
def treeI (L : Prs) (n : Nat) (root : Int) : List Int := treeN L n (farI L n root) n
theorem parS_len {L : Prs} {d : List Int} {v : Nat} {t : List Int} : (parS L d v t).length = t.length := by unfold parS; split <;> simp
theorem treeN_len {L : Prs} {n : Nat} {d : List Int} : ∀ v, (treeN L n d v).length = n := by
 intro v
 induction v with
 | zero => simp [treeN]
 | succ v ih => unfold treeN; rw [parS_len]; exact ih
theorem farI_len {L : Prs} {n : Nat} {a : Int} (hf : FitL n L) : (farI L n a).length = n := by
 by_cases h : 0 ≤ a ∧ a < n
 ·obtain ⟨z, rfl⟩ : ∃ z : Nat, a = (z : Int) := ⟨a.toNat, by omega⟩
  exact (far_ok hf (by omega)).dl
 ·unfold farI; rw [if_neg h]; simp
theorem dist_small {L : Prs} {n a : Nat} {d : List Int} (hf : FitL n L) (h : DistOk L n a d) : ∀ (m : Nat) (u : Nat), u < n → d.getD u 0 = (m : Int) → ∀ j : Nat, j ≤ m → ∃ x, x < n ∧ d.getD x 0 = (j : Int) := by
 intro m
 induction m with
 | zero => intro u hu h0 j hj; exact ⟨u, hu, by rw [h0, show j = 0 by omega]⟩
 | succ m ih =>
  intro u hu h0 j hj
  by_cases e : j = m + 1
  ·exact ⟨u, hu, by rw [h0, e]⟩
  ·obtain ⟨k, x, h1, h2⟩ := h.by_ u hu (by omega)
   exact ih x (edge_lt hf h1).1 (by omega) j (by omega)

/-- two rows and their boxes -/
structure TS (w1 : World) (n tb tp db dp : Nat) (t d : List Int) (W : World) : Prop where
 low : Below w1.heap.size w1 W
 rt : RowI W tb t
 rd : RowI W db d
 bt : W.heap[tp]? = some (.cells #[.slice (some ⟨tb, 0, none⟩) n n] 35 (0, 0))
 bd : W.heap[dp]? = some (.cells #[.slice (some ⟨db, 0, none⟩) n n] 35 (0, 0))
 ge : w1.heap.size ≤ tb ∧ w1.heap.size ≤ tp ∧ w1.heap.size ≤ db ∧ w1.heap.size ≤ dp
 ne : tb ≠ db
 tl : t.length = n
 dl : d.length = n
section
variable {w1 : World} {n tb tp db dp : Nat} {t d : List Int} {W : World}
theorem TS.of {W' : World} (h : TS w1 n tb tp db dp t d W) (hl : Below w1.heap.size w1 W') (hk : ∀ (k : Nat) (cs : Array Value) (ty : TypeId) (fr : Nat × Nat), W.heap[k]? = some (.cells cs ty fr) → W'.heap[k]? = W.heap[k]?) : TS w1 n tb tp db dp t d W' :=
 ⟨hl, h.rt.of (hk _ _ _ _ h.rt), h.rd.of (hk _ _ _ _ h.rd), (hk _ _ _ _ h.bt).trans h.bt, (hk _ _ _ _ h.bd).trans h.bd, h.ge, h.ne, h.tl, h.dl⟩
theorem TS.below {W' : World} (h : TS w1 n tb tp db dp t d W) (hb : Below W.heap.size W W') : TS w1 n tb tp db dp t d W' :=
 h.of (h.low.trans (hb.mono h.low.size)) fun k _ _ _ hk => hb.block k (Array.getElem?_eq_some_iff.1 hk).1
theorem TS.put {l : Nat} {o o' : Obj} (h : TS w1 n tb tp db dp t d W) (hl : w1.heap.size ≤ l) (ho : W.heap[l]? = some o) (hc : o.isCells = false) : TS w1 n tb tp db dp t d (W.putObj l o') :=
 h.of (h.low.trans ((Below.refl _ W).grown (grownBy_putObj' W l o') (by have := h.low.size; omega) (fun k e => by cases e; omega))) fun k _ _ _ hk => (row_put o' hk ho hc).trans hk.symm
theorem TS.set {u : Nat} {x : Int} (h : TS w1 n tb tp db dp t d W) : TS w1 n tb tp db dp (t.set u x) d (W.setCell ⟨tb, u, none⟩ (.int .i64 x)) := by
 have e : ∀ c, c ≠ tb → (W.setCell ⟨tb, u, none⟩ (.int .i64 x)).heap[c]? = W.heap[c]? := fun c h1 => Below.heap_setCell _ _ _ _ h1
 have hrt : W.heap[tb]? = some (.cells (t.map intV).toArray 3 (0, 0)) := h.rt
 exact ⟨bel_set h.ge.1 h.low, RowI.set h.rt u _, h.rd.of (e _ (Ne.symm h.ne)), (e _ (blk_ne h.bt hrt (by decide))).trans h.bt, (e _ (blk_ne h.bd hrt (by decide))).trans h.bd, h.ge, h.ne, by simpa using h.tl, h.dl⟩
end
/-- within the rounds: of pre none is a parent -/
structure TR (w1 : World) (L : Prs) (n v : Nat) (lv : Value) (N0 U : Nat) (ds : List Deferred) (tb tp db dp qn vb : Nat) (t d : List Int) (pre : List (Nat × Nat)) (W : World) : Prop where
 no : ∀ x ∈ pre, parP d v x = false
 rs : TS w1 n tb tp db dp t d W
 inv : InvN qn lv L v W
 bv : W.heap[vb]? = some (.cells #[.int .i64 (v : Int)] 3 (0, 0))
 mks : Marks N0 U ds W
section
variable {w1 : World} {L : Prs} {n v : Nat} {lv : Value} {N0 U : Nat} {ds : List Deferred} {tb tp db dp qn vb : Nat} {t d : List Int} {pre : List (Nat × Nat)} {W : World}
theorem TR.below {W' : World} (h : TR w1 L n v lv N0 U ds tb tp db dp qn vb t d pre W) (hb : Below W.heap.size W W') : TR w1 L n v lv N0 U ds tb tp db dp qn vb t d pre W' :=
 ⟨h.no, h.rs.below hb, h.inv.below hb, stays h.bv hb, h.mks.below hb⟩
theorem TR.put {l : Nat} {o o' : Obj} (h : TR w1 L n v lv N0 U ds tb tp db dp qn vb t d pre W) (hl : w1.heap.size ≤ l) (hU : U ≤ l) (ho : W.heap[l]? = some o) (hc : o.isCells = false) : TR w1 L n v lv N0 U ds tb tp db dp qn vb t d pre (W.putObj l o') :=
 ⟨h.no, h.rs.put hl ho hc, ⟨row_put o' h.inv.1 ho hc, row_put o' h.inv.2.1 ho hc, Lis.put h.inv.2.2 ho hc⟩, row_put o' h.bv ho hc, h.mks.put hU⟩
theorem TR.skip {x : Nat × Nat} (h : TR w1 L n v lv N0 U ds tb tp db dp qn vb t d pre W) (hx : parP d v x = false) : TR w1 L n v lv N0 U ds tb tp db dp qn vb t d (pre ++ [x]) W :=
 { h with no := fun y hy => by rcases List.mem_append.1 hy with hy | hy; exact h.no y hy; rw [List.mem_singleton] at hy; subst hy; exact hx }
end
/-- at the loop's head -/
def FT (w1 : World) (L : Prs) (n : Nat) (d : List Int) (N0 tb tp db dp f v : Nat) (ds : List Deferred) (W : World) : Prop :=
 ∃ U, f = n - v ∧ v ≤ n ∧ TS w1 n tb tp db dp (treeN L n d v) d W ∧ Marks N0 U ds W ∧ U ≤ W.heap.size

set_option maxRecDepth 100000 in
set_option maxHeartbeats 8000000 in
theorem tree_any (w : World) (lv : Value) (n : Nat) (L : Prs) (a : Int) (hl : Lis w w.heap.size lv L) (hf : FitL n L) (hn : n ≤ 16) (hn1 : 1 ≤ n) :
  Calls Try.prog 28 #[.int .i64 (n : Int), lv, .int .i64 a] w fun e w' => (∃ yb, e = .returned (.slice (some ⟨yb, 0, none⟩) n n) ∧ RowI w' yb (treeI L n a) ∧ w.heap.size ≤ yb) ∧ Below w.heap.size w w' := by
 obtain ⟨D, hD⟩ : ∃ D, D = farI L n a := ⟨_, rfl⟩
 have HR : Hid (treeI L n a = treeN L n D n) := by show _ = _; rw [hD]; rfl
 obtain ⟨R, hR⟩ : ∃ R, R = treeI L n a := ⟨_, rfl⟩
 rw [← hR] at HR ⊢
 have hDl : D.length = n := by rw [hD]; exact farI_len hf
 have HDB : Hid (∀ u, u < n → -1 ≤ D.getD u 0 ∧ D.getD u 0 ≤ 16) := by
  intro u hu
  by_cases h : 0 ≤ a ∧ a < n
  ·obtain ⟨z, rfl⟩ : ∃ z : Nat, a = (z : Int) := ⟨a.toNat, by omega⟩
   have hok := far_ok hf (show z < n by omega)
   rw [← hD] at hok
   refine ⟨hok.neg u hu, ?_⟩
   refine Classical.byContradiction fun hc => ?_
   have key := dist_small hf hok (D.getD u 0).toNat u hu (by omega)
   -- 17 numbers have 17 nodes
   have : ∀ m : Nat, m ≤ 17 → ∃ l : List Nat, l.length = m ∧ l.Nodup ∧ (∀ x ∈ l, x < n) ∧ ∀ x ∈ l, D.getD x 0 < (m : Int) := by
    intro m
    induction m with
    | zero => intro _; exact ⟨[], rfl, by simp, by simp, by simp⟩
    | succ m ih =>
     intro hm
     obtain ⟨l, h1, h2, h3, h4⟩ := ih (by omega)
     obtain ⟨x, hx, hx2⟩ := key m (by omega)
     refine ⟨x :: l, by simp [h1], List.nodup_cons.2 ⟨fun e => by have := h4 x e; omega, h2⟩, fun y hy => ?_, fun y hy => ?_⟩
     ·rcases List.mem_cons.1 hy with rfl | hy
      ·exact hx
      ·exact h3 y hy
     ·rcases List.mem_cons.1 hy with rfl | hy
      ·omega
      ·have := h4 y hy; omega
   obtain ⟨l, h1, h2, h3, -⟩ := this 17 (by omega)
   have := nodup_bound h2 h3
   omega
  ·rw [hD]; unfold farI; rw [if_neg h]
   simp [List.getD_eq_getElem?_getD, List.getElem?_replicate, hu]
 have HF := Lib.hid hf
 have HLS := Lib.hid hl
 have hn16 := hn
 have m0 := new_block w (.cells #[.int .i64 (-1)] 3)
 have hrow0 : RowI (w.alloc (.cells #[.int .i64 (-1)] 3)) w.heap.size [-1] := m0.2
 have HREP := Lib.hid (repeat_any (.slice (some ⟨w.heap.size, 0, none⟩) 1 1) (-1) n (w.alloc (.cells #[.int .i64 (-1)] 3)) (hrow0.its (by simp)) hn hn1)
 have HFAR : Hid (∀ W, Below w.heap.size w W → Calls Try.prog 38 #[.int .i64 (n : Int), lv, .int .i64 a] W fun e w' => (∃ yb, e = .returned (.slice (some ⟨yb, 0, none⟩) n n) ∧ RowI w' yb D ∧ W.heap.size ≤ yb) ∧ Below W.heap.size W w') := fun W hW => by
  rw [hD]
  exact far_any W lv n L a (hl.below hW hW.size) hf hn hn1
 have HB0 := Lib.hid m0.1
 have HQ0 : Hid (w.heap.size = w.heap.size) := rfl
 clear m0 hrow0 hR hD hl hf
 refine (callsIn_wide (n := 5)).1 ?_
 refine callsIn_of_wp_marks Try.func28 rfl trivial ?_ rfl
 simp only [Try.ntmps28, List.size_toArray, List.length_cons, List.length_nil, Nat.reduceAdd, Nat.reduceSub, Array.replicate_succ, Array.replicate_zero, List.push_toArray, List.append_toArray, List.nil_append, List.cons_append]
 gi_wp2_with (fail)
 refine ⟨trivial, ?_⟩
 refine (callsIn_wide.2 HREP.out).mono ?_
 rintro e W1 ⟨⟨tb, rfl, hrow, hge⟩, hbel⟩
 have HB1 : Hid (Below w.heap.size w W1) := HB0.out.trans (hbel.mono HB0.out.size)
 have HROW := Lib.hid hrow
 have HGE : Hid (w.heap.size ≤ tb) := by have := HB0.out.size; show _ ≤ _; omega
 clear hrow hge hbel HREP HB0
 gi_wp2_with (fail)
 have m1 := new_block W1 (.cells #[.slice (some ⟨tb, 0, none⟩) n n] 35)
 have HM1 := Lib.hid m1
 have HB2 : Hid (Below w.heap.size w (W1.alloc (.cells #[.slice (some ⟨tb, 0, none⟩) n n] 35))) := HB1.out.trans (m1.1.mono HB1.out.size)
 clear m1
 refine ⟨trivial, ?_⟩
 refine (callsIn_wide.2 (HFAR.out _ HB2.out)).mono ?_
 rintro e W2 ⟨⟨db, rfl, hrow2, hge2⟩, hbel2⟩
 have hstart : TS w n tb W1.heap.size db W2.heap.size (treeN L n D 0) D (W2.alloc (.cells #[.slice (some ⟨db, 0, none⟩) n n] 35)) := by
  have m2 := new_block W2 (.cells #[.slice (some ⟨db, 0, none⟩) n n] 35)
  have hs2 := HB2.out.size
  have hs1 := HB1.out.size
  have hlt1 := HROW.out.lt
  have hz : (W1.alloc (.cells #[.slice (some ⟨tb, 0, none⟩) n n] 35)).heap.size = W1.heap.size + 1 := by simp
  rw [hz] at hge2
  have hs3 := hbel2.size
  rw [hz] at hs3
  exact ⟨(HB2.out.trans (hbel2.mono hs2)).trans (m2.1.mono (by omega)), ((HROW.out.keep HM1.out.1).keep hbel2).keep m2.1, hrow2.keep m2.1, stays (stays HM1.out.2 hbel2) m2.1, m2.2, ⟨HGE.out, hs1, by omega, by omega⟩, by omega, by simp [treeN], hDl⟩
 have HST := Lib.hid hstart
 clear hstart hrow2 hge2 hbel2 HB1 HM1 HB2 HROW HFAR
 gi_wp2_with (fail)
 obtain ⟨tp, htp⟩ : ∃ q, q = W1.heap.size := ⟨_, rfl⟩
 obtain ⟨dp, hdp⟩ : ∃ q, q = W2.heap.size := ⟨_, rfl⟩
 obtain ⟨W3, hW3⟩ : ∃ W3, W3 = W2.alloc (.cells #[.slice (some ⟨db, 0, none⟩) n n] 35) := ⟨_, rfl⟩
 rw [← hW3] at HST ⊢
 rw [← htp, ← hdp] at HST ⊢
 have hwz : w.heap.size ≤ W3.heap.size := HST.out.low.size
 clear htp hdp hW3
 refine wpIn_loop_ghost (fun f a' W' => ∃ (dfs : List Deferred) (v : Nat) (u9 u10 u11 u12 u13 u14 u15 u16 u17 u20 u21 u22 u23 u24 u25 u26 u27 u28 u29 u30 u31 u32 u33 u34 u35 u36 u37 u38 u39 u40 u41 u42 u43 u44 u45 u46 u47 u48 u49 : Value), FT w L n D w.heap.size tb tp db dp f v dfs W' ∧ a' = { tmps := #[.int .i64 (n : Int), lv, .int .i64 a, undef, undef, undef, .slice none 0 0, .pointer (some ⟨tp, 0, none⟩), .pointer (some ⟨dp, 0, none⟩), u9, u10, u11, u12, u13, u14, u15, u16, u17, .int .i64 (n : Int), .int .i64 (v : Int), u20, u21, u22, u23, u24, u25, u26, u27, u28, u29, u30, u31, u32, u33, u34, u35, u36, u37, u38, u39, u40, u41, u42, u43, u44, u45, u46, u47, u48, u49], defers := dfs }) n ⟨[], 0, _, _, _, _, _, _, _, _, _, _, _, _, _, _, _, _, _, _, _, _, _, _, _, _, _, _, _, _, _, _, _, _, _, _, _, _, _, _, _, ⟨w.heap.size, rfl, Nat.zero_le _, HST.out, trivial, hwz⟩, rfl⟩ ?_
 rintro f a' W ⟨dfs, v, u9, u10, u11, u12, u13, u14, u15, u16, u17, u20, u21, u22, u23, u24, u25, u26, u27, u28, u29, u30, u31, u32, u33, u34, u35, u36, u37, u38, u39, u40, u41, u42, u43, u44, u45, u46, u47, u48, u49, HFT, rfl⟩
 obtain ⟨U, hf, hvn, hTS, hM, hU⟩ := HFT
 have HTS := Lib.hid hTS
 have HM := Lib.hid hM
 clear HST
 by_cases hlt : v < n
 ·have HUU := Lib.hid hU
  have m1 := new_block W (.cells #[.int .i64 (v : Int)] 3)
  have HM1 := Lib.hid m1
  have HTS1 := Lib.hid (hTS.below m1.1)
  have HMK := Lib.hid (hM.below m1.1)
  have HFF := Lib.hid hf
  have HTB : Hid (tb ≠ W.heap.size) := by have := hTS.rt.lt; show _ ≠ _; omega
  have HLI : Hid (Lis (W.alloc (.cells #[.int .i64 (v : Int)] 3)) (W.alloc (.cells #[.int .i64 (v : Int)] 3)).heap.size lv L) := HLS.out.below HTS1.out.low HTS1.out.low.size
  clear hTS hM hU m1 hf
  gi_wp2_with (fail)
  refine wpIn_scope_wide ?_
  gi_wp2_with (fail)
  refine wpIn_label ?_
  gi_wp2_with (fail)
  obtain ⟨vb, hvb⟩ : ∃ b, b = W.heap.size := ⟨_, rfl⟩
  obtain ⟨W4, hW4⟩ : ∃ W4, W4 = W.alloc (.cells #[.int .i64 (v : Int)] 3) := ⟨_, rfl⟩
  rw [← hW4] at HM1 HTS1 HMK HLI ⊢
  rw [← hvb] at HM1 HTB ⊢
  have HUV : Hid (U ≤ vb) := by have h0 := HUU.out; show _ ≤ _; omega
  have HV4 : Hid (vb < W4.heap.size) := (Array.getElem?_eq_some_iff.1 HM1.out.2).1
  clear hW4 hvb HUU
  refine ⟨trivial, ?_⟩
  refine (callsIn_wide.2 (neigh_any lv L v W4 HLI.out)).mono ?_
  rintro e Wy ⟨qn, rfl, hqs, hinv, hbel⟩
  have hri : TR w L n v lv w.heap.size U dfs tb tp db dp qn vb (treeN L n D v) D [] Wy :=
   ⟨(fun x hx => by cases hx), HTS1.out.below hbel, hinv, stays HM1.out.2 hbel, HMK.out.below hbel⟩
  have HRI := Lib.hid hri
  have HU : Hid (U ≤ Wy.heap.size ∧ w.heap.size ≤ Wy.heap.size) := ⟨by have h1 := hbel.size; have h2 := HV4.out; have h3 := HUV.out; omega, by have h1 := hbel.size; have h2 := HTS1.out.low.size; omega⟩
  clear hqs hinv hbel hri HTS1 HM1 HMK HLI HUV HTB HV4
  gi_wp2_with (fail)
  refine wpIn_range_H (F := Fence.wide) (n := 5) rfl (by omega) (gf := 50) (lb := #[.pointer (some ⟨qn, 0, none⟩), .pointer (some ⟨qn + 1, 0, none⟩)]) ?hg trivial (enters_of Try.func50 (by kernel_rfl) rfl) (encs := encN) (Inv := InvN qn lv L v) (neigh_iter qn lv L v 4) (fun x => rfl) ?hRput
   (fun pre W => TR w L n v lv w.heap.size U dfs tb tp db dp qn vb (treeN L n D v) D pre W ∧ Wy.heap.size ≤ W.heap.size)
   (fun c pre W => c = .exit 2 ∧ TS w n tb tp db dp (treeN L n D (v + 1)) D W ∧ Marks w.heap.size U dfs W)
   ?hI ?hIp ?hIxp ?hInv ?h0 (A := ?A) (fun (x : Nat × Nat) (u k : Nat) (_ _ _ _ : Unit) W => x = (u, k)) ?hAxp ?assign ?body ?done ?stop
  case hg => rfl
  case hRput => exact fun pre x W l o o' h _ _ => h
  case hI =>
   rintro s' A A' ⟨h1, h2⟩ hb
   exact ⟨h1.below hb, Nat.le_trans h2 hb.size⟩
  case hIp =>
   rintro s' A l o o' ⟨h1, h2⟩ hl ho hc
   exact ⟨h1.put (by have := HU.out.2; omega) (by have := HU.out.1; omega) ho hc, by simpa [World.putObj] using h2⟩
  case hIxp =>
   rintro c s' A l o o' ⟨h0, h1, h2⟩ hl ho hc
   exact ⟨h0, h1.put (by have := HU.out.2; omega) ho hc, h2.put (by have := HU.out.1; omega)⟩
  case hInv => rintro s' W' ⟨h1, h2⟩; exact h1.inv
  case h0 => exact ⟨HRI.out, Nat.le_refl _⟩
  case hAxp => exact fun x u k _ _ _ _ W l o o' h _ _ _ => h
  case assign =>
   rintro yl pre ⟨u, k⟩ W' K h1 hR hK
   have HK := Lib.hid hK
   have HP := Lib.hid h1
   have HR' := Lib.hid hR
   clear hK h1 hR
   simp only [encN]
   gi_wp2
   have d1 : Unit := ()
   have d2 : Unit := ()
   have d3 : Unit := ()
   have d4 : Unit := ()
   exact HK.out u k d1 d2 d3 d4 _ (KeepsOthers.refl _) HP.out HR'.out rfl
  case body =>
   rintro yl pre x u k d1 d2 d3 d4 W0 hyl ⟨rl, hrl⟩ ⟨h1, h2⟩ ⟨rest, hR⟩ rfl
   have hedge : Edge L k u v := mem_nb.1 (by rw [hR]; simp)
   obtain ⟨hu, -, huv⟩ := edge_lt HF.out hedge
   have HRI1 := Lib.hid h1
   have HRL := Lib.hid hrl
   have HSZ := Lib.hid h2
   have HRR := Lib.hid hR
   have cdp : W0.drew.cell? ⟨dp, 0, none⟩ = some (.slice (some ⟨db, 0, none⟩) n n) := cell_of_row _ _ 0 _ _ _ h1.rs.bd
   have cvb : W0.drew.cell? ⟨vb, 0, none⟩ = some (.int .i64 (v : Int)) := cell_of_row _ _ 0 _ _ _ h1.bv
   have cdu : W0.drew.cell? ⟨db, u, none⟩ = some (.int .i64 (D.getD u 0)) := h1.rs.rd.cell u (by rw [h1.rs.dl]; exact hu)
   have cdv : W0.drew.cell? ⟨db, v, none⟩ = some (.int .i64 (D.getD v 0)) := h1.rs.rd.cell v (by rw [h1.rs.dl]; exact hlt)
   have HPP : Hid (parP D v (u, k) = (decide (0 < D.getD v 0) && D.getD u 0 == D.getD v 0 - 1)) := rfl
   obtain ⟨hb1, hb2⟩ := HDB.out v hlt
   obtain ⟨du, hdu⟩ : ∃ x, x = D.getD u 0 := ⟨_, rfl⟩
   obtain ⟨dv, hdv⟩ : ∃ x, x = D.getD v 0 := ⟨_, rfl⟩
   rw [← hdu] at cdu HPP
   rw [← hdv] at cdv HPP hb1 hb2
   have hun : 0 ≤ (u : Int) ∧ (u : Int) < (n : Int) := by omega
   have hvn2 : 0 ≤ (v : Int) ∧ (v : Int) < (n : Int) := by omega
   clear h1 h2 hR hedge hrl hdu hdv
   by_cases hp : 0 < dv
   ·have hwr : IntKind.i64.wrap (dv - 1) = dv - 1 := by rw [IntKind.wrap_i64]; omega
    gi_wp2_with (fail)
    refine wpIn_flowM (F0 := (Fence.wide.inRound yl)) (n0 := 3) (fun _ => trivial) (fun h => by cases h) (by kernel_rfl) (by kernel_rfl) 17 17 (by kernel_rfl) (fun j => ([0, 1, 2, 3, 4, 5, 6, 7, 8, 9, 10, 11, 12, 13, 14, 15, 16] : List Nat).getD j 0) (fun j => ([27, 28, 29, 30, 31, 32, 33, 34, 35, 36, 37, 38, 39, 40, 41, 42, 43] : List Nat).getD j 0) (by kernel_rfl) (by kernel_rfl) (by kernel_rfl) (by kernel_rfl) (by kernel_rfl) (by kernel_rfl) (by kernel_rfl) (fun j zv => ([(fun zv => zv = (.slice (some ⟨db, 0, none⟩) n n)), (fun zv => zv = (.int .i64 (v : Int))), (fun zv => zv = (.pointer (some ⟨db, v, none⟩))), (fun zv => zv = (.int .i64 dv)), (fun zv => zv = (.bool true)), (fun zv => zv = (.bool true)), (fun zv => zv = (.slice (some ⟨db, 0, none⟩) n n)), (fun zv => zv = (.int .i64 (u : Int))), (fun zv => zv = (.pointer (some ⟨db, u, none⟩))), (fun zv => zv = (.int .i64 du)), (fun zv => zv = (.slice (some ⟨db, 0, none⟩) n n)), (fun zv => zv = (.int .i64 (v : Int))), (fun zv => zv = (.pointer (some ⟨db, v, none⟩))), (fun zv => zv = (.int .i64 dv)), (fun zv => zv = (.int .i64 (dv - 1))), (fun zv => zv = (.bool (du == dv - 1))), (fun zv => zv = (.bool (du == dv - 1)))] : List (Value → Prop)).getD j (fun _ => True) zv) (fun _ _ W => W = W0.drew) ?h0x ?stepx ?finx
    case h0x => exact fun _ => rfl
    case stepx =>
     intro i o a W d vs hi ho hdi hJ hf hr hF
     replace hi : i < 17 := hi
     rcases (show i = 0 ∨ i = 1 ∨ i = 2 ∨ i = 3 ∨ i = 4 ∨ i = 5 ∨ i = 6 ∨ i = 7 ∨ i = 8 ∨ i = 9 ∨ i = 10 ∨ i = 11 ∨ i = 12 ∨ i = 13 ∨ i = 14 ∨ i = 15 ∨ i = 16 by omega) with rfl | rfl | rfl | rfl | rfl | rfl | rfl | rfl | rfl | rfl | rfl | rfl | rfl | rfl | rfl | rfl | rfl
     all_goals
      replace ho := op_at ho (by rfl)
      subst ho
     ·have f8 : a.tmps.getD 8 undef = (.pointer (some ⟨dp, 0, none⟩)) := hf 8 (by kernel_rfl)
      subst hJ
      exact .inl ⟨(fun k b h => by cases h), .inl ⟨0, by decide, rfl, (.slice (some ⟨db, 0, none⟩) n n), W0.drew, (by simp [go_sem, Act.eval, f8, cdp]), rfl, rfl⟩⟩
     ·have f9 : a.tmps.getD 9 undef = (.pointer (some ⟨vb, 0, none⟩)) := hf 9 (by kernel_rfl)
      subst hJ
      exact .inl ⟨(fun k b h => by cases h), .inl ⟨1, by decide, rfl, (.int .i64 (v : Int)), W0.drew, (by simp [go_sem, Act.eval, f9, cvb]), rfl, rfl⟩⟩
     ·have d0 : a.tmps.getD 27 undef = (.slice (some ⟨db, 0, none⟩) n n) := fdn (hF 0 (by decide) (hr 0 (by kernel_rfl)))
      have d1 : a.tmps.getD 28 undef = (.int .i64 (v : Int)) := fdn (hF 1 (by decide) (hr 1 (by kernel_rfl)))
      subst hJ
      exact .inl ⟨(fun k b h => by cases h), .inl ⟨2, by decide, rfl, (.pointer (some ⟨db, v, none⟩)), W0.drew, (by simp [go_sem, Act.eval, d0, d1, hvn2]), rfl, rfl⟩⟩
     ·have d2 : a.tmps.getD 29 undef = (.pointer (some ⟨db, v, none⟩)) := fdn (hF 2 (by decide) (hr 2 (by kernel_rfl)))
      subst hJ
      exact .inl ⟨(fun k b h => by cases h), .inl ⟨3, by decide, rfl, (.int .i64 dv), W0.drew, (by simp [go_sem, Act.eval, d2, cdv]), rfl, rfl⟩⟩
     ·have d3 : a.tmps.getD 30 undef = (.int .i64 dv) := fdn (hF 3 (by decide) (hr 3 (by kernel_rfl)))
      subst hJ
      exact .inl ⟨(fun k b h => by cases h), .inl ⟨4, by decide, rfl, (.bool true), W0.drew, (by simp [go_sem, Act.eval, d3, hp]), rfl, rfl⟩⟩
     ·have d4 : a.tmps.getD 31 undef = (.bool true) := fdn (hF 4 (by decide) (hr 4 (by kernel_rfl)))
      subst hJ
      exact .inl ⟨(fun k b h => by cases h), .inl ⟨5, by decide, rfl, (.bool true), W0.drew, (by simp [go_sem, Act.eval, d4]), rfl, rfl⟩⟩
     ·have d5 : a.tmps.getD 32 undef = (.bool true) := fdn (hF 5 (by decide) (hr 5 (by kernel_rfl)))
      have f8 : a.tmps.getD 8 undef = (.pointer (some ⟨dp, 0, none⟩)) := hf 8 (by kernel_rfl)
      subst hJ
      exact .inl ⟨(fun k b h => by cases h; exact ⟨5, by decide, rfl, d5⟩), .inl ⟨6, by decide, rfl, (.slice (some ⟨db, 0, none⟩) n n), W0.drew, (by simp [go_sem, Act.eval, d5, f8, cdp]), rfl, rfl⟩⟩
     ·have d5 : a.tmps.getD 32 undef = (.bool true) := fdn (hF 5 (by decide) (hr 5 (by kernel_rfl)))
      have f10 : a.tmps.getD 10 undef = (.int .i64 (u : Int)) := hf 10 (by kernel_rfl)
      subst hJ
      exact .inl ⟨(fun k b h => by cases h; exact ⟨5, by decide, rfl, d5⟩), .inl ⟨7, by decide, rfl, (.int .i64 (u : Int)), W0.drew, (by simp [go_sem, Act.eval, d5, f10]), rfl, rfl⟩⟩
     ·have d6 : a.tmps.getD 33 undef = (.slice (some ⟨db, 0, none⟩) n n) := fdn (hF 6 (by decide) (hr 6 (by kernel_rfl)))
      have d7 : a.tmps.getD 34 undef = (.int .i64 (u : Int)) := fdn (hF 7 (by decide) (hr 7 (by kernel_rfl)))
      have d5 : a.tmps.getD 32 undef = (.bool true) := fdn (hF 5 (by decide) (hr 5 (by kernel_rfl)))
      subst hJ
      exact .inl ⟨(fun k b h => by cases h; exact ⟨5, by decide, rfl, d5⟩), .inl ⟨8, by decide, rfl, (.pointer (some ⟨db, u, none⟩)), W0.drew, (by simp [go_sem, Act.eval, d6, d7, d5, hun]), rfl, rfl⟩⟩
     ·have d8 : a.tmps.getD 35 undef = (.pointer (some ⟨db, u, none⟩)) := fdn (hF 8 (by decide) (hr 8 (by kernel_rfl)))
      have d5 : a.tmps.getD 32 undef = (.bool true) := fdn (hF 5 (by decide) (hr 5 (by kernel_rfl)))
      subst hJ
      exact .inl ⟨(fun k b h => by cases h; exact ⟨5, by decide, rfl, d5⟩), .inl ⟨9, by decide, rfl, (.int .i64 du), W0.drew, (by simp [go_sem, Act.eval, d8, d5, cdu]), rfl, rfl⟩⟩
     ·have d5 : a.tmps.getD 32 undef = (.bool true) := fdn (hF 5 (by decide) (hr 5 (by kernel_rfl)))
      have f8 : a.tmps.getD 8 undef = (.pointer (some ⟨dp, 0, none⟩)) := hf 8 (by kernel_rfl)
      subst hJ
      exact .inl ⟨(fun k b h => by cases h; exact ⟨5, by decide, rfl, d5⟩), .inl ⟨10, by decide, rfl, (.slice (some ⟨db, 0, none⟩) n n), W0.drew, (by simp [go_sem, Act.eval, d5, f8, cdp]), rfl, rfl⟩⟩
     ·have d5 : a.tmps.getD 32 undef = (.bool true) := fdn (hF 5 (by decide) (hr 5 (by kernel_rfl)))
      have f9 : a.tmps.getD 9 undef = (.pointer (some ⟨vb, 0, none⟩)) := hf 9 (by kernel_rfl)
      subst hJ
      exact .inl ⟨(fun k b h => by cases h; exact ⟨5, by decide, rfl, d5⟩), .inl ⟨11, by decide, rfl, (.int .i64 (v : Int)), W0.drew, (by simp [go_sem, Act.eval, d5, f9, cvb]), rfl, rfl⟩⟩
     ·have d10 : a.tmps.getD 37 undef = (.slice (some ⟨db, 0, none⟩) n n) := fdn (hF 10 (by decide) (hr 10 (by kernel_rfl)))
      have d11 : a.tmps.getD 38 undef = (.int .i64 (v : Int)) := fdn (hF 11 (by decide) (hr 11 (by kernel_rfl)))
      have d5 : a.tmps.getD 32 undef = (.bool true) := fdn (hF 5 (by decide) (hr 5 (by kernel_rfl)))
      subst hJ
      exact .inl ⟨(fun k b h => by cases h; exact ⟨5, by decide, rfl, d5⟩), .inl ⟨12, by decide, rfl, (.pointer (some ⟨db, v, none⟩)), W0.drew, (by simp [go_sem, Act.eval, d10, d11, d5, hvn2]), rfl, rfl⟩⟩
     ·have d12 : a.tmps.getD 39 undef = (.pointer (some ⟨db, v, none⟩)) := fdn (hF 12 (by decide) (hr 12 (by kernel_rfl)))
      have d5 : a.tmps.getD 32 undef = (.bool true) := fdn (hF 5 (by decide) (hr 5 (by kernel_rfl)))
      subst hJ
      exact .inl ⟨(fun k b h => by cases h; exact ⟨5, by decide, rfl, d5⟩), .inl ⟨13, by decide, rfl, (.int .i64 dv), W0.drew, (by simp [go_sem, Act.eval, d12, d5, cdv]), rfl, rfl⟩⟩
     ·have d13 : a.tmps.getD 40 undef = (.int .i64 dv) := fdn (hF 13 (by decide) (hr 13 (by kernel_rfl)))
      have d5 : a.tmps.getD 32 undef = (.bool true) := fdn (hF 5 (by decide) (hr 5 (by kernel_rfl)))
      subst hJ
      exact .inl ⟨(fun k b h => by cases h; exact ⟨5, by decide, rfl, d5⟩), .inl ⟨14, by decide, rfl, (.int .i64 (dv - 1)), W0.drew, (by simp [go_sem, Act.eval, d13, d5, hwr]), rfl, rfl⟩⟩
     ·have d9 : a.tmps.getD 36 undef = (.int .i64 du) := fdn (hF 9 (by decide) (hr 9 (by kernel_rfl)))
      have d14 : a.tmps.getD 41 undef = (.int .i64 (dv - 1)) := fdn (hF 14 (by decide) (hr 14 (by kernel_rfl)))
      have d5 : a.tmps.getD 32 undef = (.bool true) := fdn (hF 5 (by decide) (hr 5 (by kernel_rfl)))
      subst hJ
      exact .inl ⟨(fun k b h => by cases h; exact ⟨5, by decide, rfl, d5⟩), .inl ⟨15, by decide, rfl, (.bool (du == dv - 1)), W0.drew, (by simp [go_sem, Act.eval, d9, d14, d5]), rfl, rfl⟩⟩
     ·have d5 : a.tmps.getD 32 undef = (.bool true) := fdn (hF 5 (by decide) (hr 5 (by kernel_rfl)))
      have d15 : a.tmps.getD 42 undef = (.bool (du == dv - 1)) := fdn (hF 15 (by decide) (hr 15 (by kernel_rfl)))
      subst hJ
      exact .inl ⟨(fun k b h => by cases h), .inl ⟨16, by decide, rfl, (.bool (du == dv - 1)), W0.drew, (by simp [go_sem, Act.eval, d5, d15]), rfl, rfl⟩⟩
    case finx =>
     intro d vs Wx hall hJ hF
     have h0 : vs 0 = (.slice (some ⟨db, 0, none⟩) n n) := hF 0 (by decide)
     have h1 : vs 1 = (.int .i64 (v : Int)) := hF 1 (by decide)
     have h2 : vs 2 = (.pointer (some ⟨db, v, none⟩)) := hF 2 (by decide)
     have h3 : vs 3 = (.int .i64 dv) := hF 3 (by decide)
     have h4 : vs 4 = (.bool true) := hF 4 (by decide)
     have h5 : vs 5 = (.bool true) := hF 5 (by decide)
     have h6 : vs 6 = (.slice (some ⟨db, 0, none⟩) n n) := hF 6 (by decide)
     have h7 : vs 7 = (.int .i64 (u : Int)) := hF 7 (by decide)
     have h8 : vs 8 = (.pointer (some ⟨db, u, none⟩)) := hF 8 (by decide)
     have h9 : vs 9 = (.int .i64 du) := hF 9 (by decide)
     have h10 : vs 10 = (.slice (some ⟨db, 0, none⟩) n n) := hF 10 (by decide)
     have h11 : vs 11 = (.int .i64 (v : Int)) := hF 11 (by decide)
     have h12 : vs 12 = (.pointer (some ⟨db, v, none⟩)) := hF 12 (by decide)
     have h13 : vs 13 = (.int .i64 dv) := hF 13 (by decide)
     have h14 : vs 14 = (.int .i64 (dv - 1)) := hF 14 (by decide)
     have h15 : vs 15 = (.bool (du == dv - 1)) := hF 15 (by decide)
     have h16 : vs 16 = (.bool (du == dv - 1)) := hF 16 (by decide)
     clear hF
     show (_ : Exit → Act → World → Prop) Exit.normal (puts _ vs 17 _) Wx
     simp only [puts, h0, h1, h2, h3, h4, h5, h6, h7, h8, h9, h10, h11, h12, h13, h14, h15, h16, List.getD_cons_zero, List.getD_cons_succ]
     clear h0 h1 h2 h3 h4 h5 h6 h7 h8 h9 h10 h11 h12 h13 h14 h15 h16
     subst hJ
     simp only [Act.put, List.setIfInBounds_toArray, List.set_cons_succ, List.set_cons_zero]
     obtain ⟨Wd, hWd⟩ : ∃ Wd, Wd = W0.drew := ⟨_, rfl⟩
     have HD0 := Lib.hid (HRI1.out.below (bdN W0.heap.size W0 1))
     have HKO : Hid (KeepsOthers W0 Wd) := by show KeepsOthers _ _; rw [hWd]; exact ⟨Nat.le_refl _, fun _ _ h _ => h⟩
     have HSD : Hid (Wd.heap.size = W0.heap.size) := by show _ = _; rw [hWd]; rfl
     have hd1 : W0.drewN 1 = Wd := by rw [hWd]; rfl
     rw [hd1] at HD0
     rw [← hWd]
     clear hWd hd1 hall cdp cvb cdu cdv
     obtain ⟨bq, hbq⟩ : ∃ bq, bq = (du == dv - 1) := ⟨_, rfl⟩
     rw [← hbq] at HPP ⊢
     have HDP : Hid (decide (0 < dv) = true) := by show _ = _; simp [hp]
     clear hbq
     cases bq with
     | true =>
      have HTN : Hid (treeN L n D (v + 1) = (treeN L n D v).set v (u : Int)) := by
       show parS L D v _ = _
       unfold parS
       have h0 : (nbF L v).find? (parP D v) = some (u, k) := by
        rw [HRR.out, List.find?_append, List.find?_eq_none.2 (fun x hx => by rw [HRI1.out.no x hx]; simp)]
        simp only [Option.none_or]
        rw [List.find?_cons, HPP.out, HDP.out]
        rfl
       rw [h0]
      have ctp := cell_of_row _ _ 0 _ _ _ HD0.out.rs.bt
      have cvb := cell_of_row _ _ 0 _ _ _ HD0.out.bv
      have ctv := HD0.out.rs.rt.cell v (by rw [treeN_len]; exact hlt)
      have ftv := HD0.out.rs.rt.frozen v
      gi_wp2_with (fail)
      have hs := HD0.out.rs.set (u := v) (x := (u : Int))
      rw [← HTN.out] at hs
      exact ⟨HKO.out.trans (KeepsOthers.setCell _ ⟨tb, v, none⟩ _), rfl, hs, HD0.out.mks.set ⟨_, _, _, HD0.out.rs.rt⟩⟩
     | false =>
      have HE : Hid (parP D v (u, k) = false) := by show _ = _; rw [HPP.out]; simp
      gi_wp2_with (fail)
      exact ⟨HKO.out, HD0.out.skip HE.out, by have h1 := HSD.out; have h2 := HSZ.out; omega⟩
   ·have HE : Hid (parP D v (u, k) = false) := by show _ = _; rw [HPP.out]; simp [hp]
    gi_wp2_with (fail)
    refine wpIn_flowM (F0 := (Fence.wide.inRound yl)) (n0 := 3) (fun _ => trivial) (fun h => by cases h) (by kernel_rfl) (by kernel_rfl) 17 17 (by kernel_rfl) (fun j => ([0, 1, 2, 3, 4, 5, 6, 7, 8, 9, 10, 11, 12, 13, 14, 15, 16] : List Nat).getD j 0) (fun j => ([27, 28, 29, 30, 31, 32, 33, 34, 35, 36, 37, 38, 39, 40, 41, 42, 43] : List Nat).getD j 0) (by kernel_rfl) (by kernel_rfl) (by kernel_rfl) (by kernel_rfl) (by kernel_rfl) (by kernel_rfl) (by kernel_rfl) (fun j zv => ([(fun zv => zv = (.slice (some ⟨db, 0, none⟩) n n)), (fun zv => zv = (.int .i64 (v : Int))), (fun zv => zv = (.pointer (some ⟨db, v, none⟩))), (fun zv => zv = (.int .i64 dv)), (fun zv => zv = (.bool false)), (fun zv => zv = (.bool false)), (fun zv => zv = undef), (fun zv => zv = undef), (fun zv => zv = undef), (fun zv => zv = undef), (fun zv => zv = undef), (fun zv => zv = undef), (fun zv => zv = undef), (fun zv => zv = undef), (fun zv => zv = undef), (fun zv => zv = undef), (fun zv => zv = (.bool false))] : List (Value → Prop)).getD j (fun _ => True) zv) (fun _ _ W => W = W0.drew) ?h0z ?stepz ?finz
    case h0z => exact fun _ => rfl
    case stepz =>
     intro i o a W d vs hi ho hdi hJ hf hr hF
     replace hi : i < 17 := hi
     rcases (show i = 0 ∨ i = 1 ∨ i = 2 ∨ i = 3 ∨ i = 4 ∨ i = 5 ∨ i = 6 ∨ i = 7 ∨ i = 8 ∨ i = 9 ∨ i = 10 ∨ i = 11 ∨ i = 12 ∨ i = 13 ∨ i = 14 ∨ i = 15 ∨ i = 16 by omega) with rfl | rfl | rfl | rfl | rfl | rfl | rfl | rfl | rfl | rfl | rfl | rfl | rfl | rfl | rfl | rfl | rfl
     all_goals
      replace ho := op_at ho (by rfl)
      subst ho
     ·have f8 : a.tmps.getD 8 undef = (.pointer (some ⟨dp, 0, none⟩)) := hf 8 (by kernel_rfl)
      subst hJ
      exact .inl ⟨(fun k b h => by cases h), .inl ⟨0, by decide, rfl, (.slice (some ⟨db, 0, none⟩) n n), W0.drew, (by simp [go_sem, Act.eval, f8, cdp]), rfl, rfl⟩⟩
     ·have f9 : a.tmps.getD 9 undef = (.pointer (some ⟨vb, 0, none⟩)) := hf 9 (by kernel_rfl)
      subst hJ
      exact .inl ⟨(fun k b h => by cases h), .inl ⟨1, by decide, rfl, (.int .i64 (v : Int)), W0.drew, (by simp [go_sem, Act.eval, f9, cvb]), rfl, rfl⟩⟩
     ·have d0 : a.tmps.getD 27 undef = (.slice (some ⟨db, 0, none⟩) n n) := fdn (hF 0 (by decide) (hr 0 (by kernel_rfl)))
      have d1 : a.tmps.getD 28 undef = (.int .i64 (v : Int)) := fdn (hF 1 (by decide) (hr 1 (by kernel_rfl)))
      subst hJ
      exact .inl ⟨(fun k b h => by cases h), .inl ⟨2, by decide, rfl, (.pointer (some ⟨db, v, none⟩)), W0.drew, (by simp [go_sem, Act.eval, d0, d1, hvn2]), rfl, rfl⟩⟩
     ·have d2 : a.tmps.getD 29 undef = (.pointer (some ⟨db, v, none⟩)) := fdn (hF 2 (by decide) (hr 2 (by kernel_rfl)))
      subst hJ
      exact .inl ⟨(fun k b h => by cases h), .inl ⟨3, by decide, rfl, (.int .i64 dv), W0.drew, (by simp [go_sem, Act.eval, d2, cdv]), rfl, rfl⟩⟩
     ·have d3 : a.tmps.getD 30 undef = (.int .i64 dv) := fdn (hF 3 (by decide) (hr 3 (by kernel_rfl)))
      subst hJ
      exact .inl ⟨(fun k b h => by cases h), .inl ⟨4, by decide, rfl, (.bool false), W0.drew, (by simp [go_sem, Act.eval, d3, hp]), rfl, rfl⟩⟩
     ·have d4 : a.tmps.getD 31 undef = (.bool false) := fdn (hF 4 (by decide) (hr 4 (by kernel_rfl)))
      subst hJ
      exact .inl ⟨(fun k b h => by cases h), .inl ⟨5, by decide, rfl, (.bool false), W0.drew, (by simp [go_sem, Act.eval, d4]), rfl, rfl⟩⟩
     ·have d5 : a.tmps.getD 32 undef = (.bool false) := fdn (hF 5 (by decide) (hr 5 (by kernel_rfl)))
      subst hJ
      exact .inr ⟨5, true, 5, rfl, by decide, rfl, (nhB d5 rfl), .inl ⟨6, by decide, rfl, rfl, rfl⟩⟩
     ·have d5 : a.tmps.getD 32 undef = (.bool false) := fdn (hF 5 (by decide) (hr 5 (by kernel_rfl)))
      subst hJ
      exact .inr ⟨5, true, 5, rfl, by decide, rfl, (nhB d5 rfl), .inl ⟨7, by decide, rfl, rfl, rfl⟩⟩
     ·have d5 : a.tmps.getD 32 undef = (.bool false) := fdn (hF 5 (by decide) (hr 5 (by kernel_rfl)))
      subst hJ
      exact .inr ⟨5, true, 5, rfl, by decide, rfl, (nhB d5 rfl), .inl ⟨8, by decide, rfl, rfl, rfl⟩⟩
     ·have d5 : a.tmps.getD 32 undef = (.bool false) := fdn (hF 5 (by decide) (hr 5 (by kernel_rfl)))
      subst hJ
      exact .inr ⟨5, true, 5, rfl, by decide, rfl, (nhB d5 rfl), .inl ⟨9, by decide, rfl, rfl, rfl⟩⟩
     ·have d5 : a.tmps.getD 32 undef = (.bool false) := fdn (hF 5 (by decide) (hr 5 (by kernel_rfl)))
      subst hJ
      exact .inr ⟨5, true, 5, rfl, by decide, rfl, (nhB d5 rfl), .inl ⟨10, by decide, rfl, rfl, rfl⟩⟩
     ·have d5 : a.tmps.getD 32 undef = (.bool false) := fdn (hF 5 (by decide) (hr 5 (by kernel_rfl)))
      subst hJ
      exact .inr ⟨5, true, 5, rfl, by decide, rfl, (nhB d5 rfl), .inl ⟨11, by decide, rfl, rfl, rfl⟩⟩
     ·have d5 : a.tmps.getD 32 undef = (.bool false) := fdn (hF 5 (by decide) (hr 5 (by kernel_rfl)))
      subst hJ
      exact .inr ⟨5, true, 5, rfl, by decide, rfl, (nhB d5 rfl), .inl ⟨12, by decide, rfl, rfl, rfl⟩⟩
     ·have d5 : a.tmps.getD 32 undef = (.bool false) := fdn (hF 5 (by decide) (hr 5 (by kernel_rfl)))
      subst hJ
      exact .inr ⟨5, true, 5, rfl, by decide, rfl, (nhB d5 rfl), .inl ⟨13, by decide, rfl, rfl, rfl⟩⟩
     ·have d5 : a.tmps.getD 32 undef = (.bool false) := fdn (hF 5 (by decide) (hr 5 (by kernel_rfl)))
      subst hJ
      exact .inr ⟨5, true, 5, rfl, by decide, rfl, (nhB d5 rfl), .inl ⟨14, by decide, rfl, rfl, rfl⟩⟩
     ·have d5 : a.tmps.getD 32 undef = (.bool false) := fdn (hF 5 (by decide) (hr 5 (by kernel_rfl)))
      subst hJ
      exact .inr ⟨5, true, 5, rfl, by decide, rfl, (nhB d5 rfl), .inl ⟨15, by decide, rfl, rfl, rfl⟩⟩
     ·have d5 : a.tmps.getD 32 undef = (.bool false) := fdn (hF 5 (by decide) (hr 5 (by kernel_rfl)))
      subst hJ
      exact .inl ⟨(fun k b h => by cases h), .inl ⟨16, by decide, rfl, (.bool false), W0.drew, (by simp [go_sem, Act.eval, d5]), rfl, rfl⟩⟩
    case finz =>
     intro d vs Wz hall hJ hF
     have h0 : vs 0 = (.slice (some ⟨db, 0, none⟩) n n) := hF 0 (by decide)
     have h1 : vs 1 = (.int .i64 (v : Int)) := hF 1 (by decide)
     have h2 : vs 2 = (.pointer (some ⟨db, v, none⟩)) := hF 2 (by decide)
     have h3 : vs 3 = (.int .i64 dv) := hF 3 (by decide)
     have h4 : vs 4 = (.bool false) := hF 4 (by decide)
     have h5 : vs 5 = (.bool false) := hF 5 (by decide)
     have h6 : vs 6 = undef := hF 6 (by decide)
     have h7 : vs 7 = undef := hF 7 (by decide)
     have h8 : vs 8 = undef := hF 8 (by decide)
     have h9 : vs 9 = undef := hF 9 (by decide)
     have h10 : vs 10 = undef := hF 10 (by decide)
     have h11 : vs 11 = undef := hF 11 (by decide)
     have h12 : vs 12 = undef := hF 12 (by decide)
     have h13 : vs 13 = undef := hF 13 (by decide)
     have h14 : vs 14 = undef := hF 14 (by decide)
     have h15 : vs 15 = undef := hF 15 (by decide)
     have h16 : vs 16 = (.bool false) := hF 16 (by decide)
     clear hF
     show (_ : Exit → Act → World → Prop) Exit.normal (puts _ vs 17 _) Wz
     simp only [puts, h0, h1, h2, h3, h4, h5, h6, h7, h8, h9, h10, h11, h12, h13, h14, h15, h16, List.getD_cons_zero, List.getD_cons_succ]
     clear h0 h1 h2 h3 h4 h5 h6 h7 h8 h9 h10 h11 h12 h13 h14 h15 h16
     subst hJ
     simp only [Act.put, List.setIfInBounds_toArray, List.set_cons_succ, List.set_cons_zero]
     have HD0 := Lib.hid (HRI1.out.below (bdN W0.heap.size W0 1))
     clear hall cdp cvb cdu cdv
     gi_wp2_with (fail)
     exact ⟨⟨Nat.le_refl _, fun _ _ h _ => h⟩, HD0.out.skip HE.out, HSZ.out⟩
  case done =>
   rintro Dd xs W' hxs ⟨h1, h2⟩ hD hWD
   have H1 := Lib.hid h1
   have HXS := Lib.hid hxs
   have HDD := Lib.hid hD
   have H2 := Lib.hid h2
   clear h1 hxs hD h2
   dsimp only
   have HTN : Hid (treeN L n D (v + 1) = treeN L n D v) := by
    show parS L D v _ = _
    unfold parS
    have h0 : (nbF L v).find? (parP D v) = none := by
     rw [List.find?_eq_none]
     intro x hx
     rw [H1.out.no x (by rw [HXS.out]; exact hx)]
     simp
    rw [h0]
   gi_wp2_with (fail)
   rw [Exit.noGoto_normal]
   gi_wp2_with (fail)
   have hDl := (Array.getElem?_eq_some_iff.1 HDD.out).1
   have hts := H1.out.rs
   rw [← HTN.out] at hts
   exact ⟨n - (v + 1), by have := HFF.out; omega, _ :: dfs, v + 1, _, _, _, _, _, _, _, _, _, _, _, _, _, _, _, _, _, _, _, _, _, _, _, _, _, _, _, _, _, _, _, _, _, _, _, _, _, _, _, ⟨Dd + 1, rfl, by omega, hts, H1.out.mks.push HDD.out (Nat.le_trans HU.out.1 hWD) (by have := HU.out.2; omega), hDl⟩, rfl⟩
  case stop =>
   rintro Dd c pre W' hpre ⟨hc, h1, h2⟩ hD hWD
   subst hc
   have H1 := Lib.hid h1
   have HDD := Lib.hid hD
   have H2 := Lib.hid h2
   clear h1 hD h2
   dsimp only
   gi_wp2_with (fail)
   rw [Exit.noGoto_normal]
   gi_wp2_with (fail)
   have hDl := (Array.getElem?_eq_some_iff.1 HDD.out).1
   exact ⟨n - (v + 1), by have := HFF.out; omega, _ :: dfs, v + 1, _, _, _, _, _, _, _, _, _, _, _, _, _, _, _, _, _, _, _, _, _, _, _, _, _, _, _, _, _, _, _, _, _, _, _, _, _, _, _, ⟨Dd + 1, rfl, by omega, H1.out, H2.out.push HDD.out (Nat.le_trans HU.out.1 hWD) (by have := HU.out.2; omega), hDl⟩, rfl⟩
 ·obtain rfl : v = n := by omega
  have ctp := cell_of_row _ _ 0 _ _ _ hTS.bt
  have HRI : Hid (R = treeN L v D v) := HR.out
  clear hTS hM hU
  gi_wp2_with (fail)
  have hR2 := HRI.out
  have hr := HTS.out.rt
  rw [← hR2] at hr
  exact far_end hr HTS.out.ge.1 HTS.out.low HM.out rfl rfl

end Go.Proofs.Ytenilbofncfbdaa

