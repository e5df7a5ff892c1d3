/- code.Read. -/
import Derived.Test.YtgnpjenpehfjbaaDoorCodeCatch
import Derived.Test.YtgnpjenpehfjbaaDoorCodePanic
import Derived.Deep.RegionWith
import Derived.Deep.AppendLies
import Derived.Deep.RegionLaw
namespace Go.Proofs.YtgnpjenpehfjbaaDoor
open Go.RowKit

def readF (l : List UInt8) : List Int → List Fld → Nat → List Fld × Nat × Nat
  | [], fs, a => (fs, a, 0)
  | k :: r, fs, a => if (fieldR l k a).2.2 ≠ 0 then ([], 0, (fieldR l k a).2.2) else readF l r (fs ++ [(fieldR l k a).1]) (fieldR l k a).2.1

def Fld.cells (f : Fld) : List Value := [.int .i64 f.kind, .int .i64 f.num, .string ⟨f.text.toArray⟩, .bool f.is_]
abbrev OwnF (w : World) (B : Nat) (v : Value) (fs : List Fld) : Prop := w.ownsRow B 92 4 v fs.length (fs.flatMap Fld.cells)
theorem info_field : (Tryd.prog.info? 92).map (fun i => (i.zero, i.size, i.bytes)) = some (some (.agg #[.int .i64 0, .int .i64 0, .string ⟨#[]⟩, .bool false]), 4, 40) := by kernel_rfl

/-- a slice of ints that is read -/
def Ints (w : World) (B : Nat) (v : Value) (ks : List Int) : Prop :=
  ∃ ao cap, v = .slice ao ks.length cap ∧ ks.length ≤ cap ∧ cap ≤ maxLen ∧ (ks ≠ [] → ∃ b off, ao = some ⟨b, off, none⟩ ∧ b < B ∧ ∀ i, i < ks.length → w.cell? ⟨b, off + i, none⟩ = some (.int .i64 (ks.getD i 0)))
theorem Ints.below {w w' : World} {B B' : Nat} {v : Value} {ks : List Int} (h : Ints w B v ks) (hb : Below B w w') (hB : B ≤ B') : Ints w' B' v ks := by
  obtain ⟨ao, cap, h1, h2, h3, h4⟩ := h
  refine ⟨ao, cap, h1, h2, h3, fun hne => ?_⟩
  obtain ⟨b, off, h5, h6, h7⟩ := h4 hne
  exact ⟨b, off, h5, by omega, fun i hi => (hb.cell (p := ⟨b, off + i, none⟩) h6).trans (h7 i hi)⟩

/-- the world in the loop's round: the three named results' boxes, the reader's block, the fields so far -/
structure ReadI (w : World) (v lv : Value) (a : Nat) (fs : List Fld) (wr : World) : Prop where
  low : Below w.heap.size w wr
  b0 : wr.heap[w.heap.size]? = some (.cells #[lv] 63 (0, 0))
  b1 : wr.heap[w.heap.size + 1]? = some (.cells #[.int .i64 0] 3 (0, 0))
  b2 : wr.heap[w.heap.size + 1 + 1]? = some (.cells #[.int .i64 0] 43 (0, 0))
  b3 : wr.heap[w.heap.size + 1 + 1 + 1]? = some (curO v a)
  own : OwnF wr (w.heap.size + 4) lv fs
  size : w.heap.size + 4 ≤ wr.heap.size
  at_ : fs.length ≤ 1000000000

theorem Rd.owns {rb : Nat} {vb : Value} {w w' : World} {a : Nat} (h : Rd rb vb w w' a) {B n sz : Nat} {e : TypeId} {v : Value} {xs : List Value} (hB : rb < B) (ho : w.ownsRow B e sz v n xs) : w'.ownsRow B e sz v n xs := by
  obtain ⟨h1, h2⟩ := ho
  refine ⟨h1, ?_⟩
  rcases h2 with h2 | ⟨g, cap, cur, hv, hb, hg, r⟩
  · exact .inl h2
  · exact .inr ⟨g, cap, cur, hv, hb, by rw [h.block g (Array.getElem?_eq_some_iff.1 hg).1 (by omega)]; exact hg, r⟩

/-- what stands behind the field's reading and the growing row -/
theorem ReadI.behind {w wr w1 w2 : World} {v lv : Value} {a a' : Nat} {fs : List Fld} {o : Obj} (h : ReadI w v lv a fs wr) (hD : Rd (w.heap.size + 1 + 1 + 1) v wr.drew w1 a') (hg : (w1.alloc o).grownBy w2 lv.ownBlock) :
    Below w.heap.size w w2 ∧ w2.heap[w.heap.size]? = some (.cells #[lv] 63 (0, 0)) ∧ w2.heap[w.heap.size + 1]? = some (.cells #[.int .i64 0] 3 (0, 0)) ∧ w2.heap[w.heap.size + 1 + 1]? = some (.cells #[.int .i64 0] 43 (0, 0)) ∧
      w2.heap[w.heap.size + 1 + 1 + 1]? = some (curO v a') ∧ w.heap.size + 4 ≤ w2.heap.size := by
  have hs : wr.drew.heap.size = wr.heap.size := rfl
  have hs1 : (w1.alloc o).heap.size = w1.heap.size + 1 := by simp
  have hz := h.size
  have hd := hD.size
  have hlt : ∀ k, lv.ownBlock = some k → w.heap.size + 4 ≤ k := fun k hk => (World.ownsRow.lt h.own k hk).1
  have key : ∀ k, k < w.heap.size + 4 → w2.heap[k]? = w1.heap[k]? := fun k hk => by
    rw [hg.block k (by omega) (fun e => by have := hlt k e.symm; omega), Below.heap_alloc _ _ _ (by omega)]
  have key2 : ∀ k, k < w.heap.size + 3 → w2.heap[k]? = wr.heap[k]? := fun k hk => (key k (by omega)).trans (hD.block k (by omega) (by omega))
  refine ⟨⟨(hg.os.trans hD.os).trans h.low.os, (hg.tape.trans hD.tape).trans h.low.tape, (hg.output.trans hD.output).trans h.low.output, by have := hg.size; have := h.low.size; omega, fun k hk => (key2 k (by omega)).trans (h.low.block k hk)⟩,
    (key2 _ (by omega)).trans h.b0, (key2 _ (by omega)).trans h.b1, (key2 _ (by omega)).trans h.b2, (key _ (by omega)).trans hD.cur, by have := hg.size; omega⟩

theorem ReadI.stored {w w2 : World} {v lv lv2 : Value} {a' : Nat} {fs : List Fld} {j : Nat}
    (h : Below w.heap.size w w2 ∧ w2.heap[w.heap.size]? = some (.cells #[lv] 63 (0, 0)) ∧ w2.heap[w.heap.size + 1]? = some (.cells #[.int .i64 0] 3 (0, 0)) ∧ w2.heap[w.heap.size + 1 + 1]? = some (.cells #[.int .i64 0] 43 (0, 0)) ∧
      w2.heap[w.heap.size + 1 + 1 + 1]? = some (curO v a') ∧ w.heap.size + 4 ≤ w2.heap.size) (ho : OwnF w2 (w.heap.size + 4) lv2 fs) (hl : fs.length ≤ j) (hj : j ≤ 1000000000) : ReadI w v lv2 a' fs (w2.setCell ⟨w.heap.size, 0, none⟩ lv2) := by
  obtain ⟨h1, h2, h3, h4, h5, h6⟩ := h
  have hne : ∀ k, k ≠ w.heap.size → (w2.setCell ⟨w.heap.size, 0, none⟩ lv2).heap[k]? = w2.heap[k]? := fun k hk => Below.heap_setCell _ _ _ _ hk
  refine ⟨h1.setCell (p := ⟨w.heap.size, 0, none⟩) (Nat.le_refl _) _, ?_, (hne _ (by omega)).trans h3, (hne _ (by omega)).trans h4, (hne _ (by omega)).trans h5, ?_, by simpa [World.setCell] using h6, Nat.le_trans hl hj⟩
  · rw [heap_setCell_same w2 _ 0 #[lv] _ lv2 h2]; rfl
  · exact ownsRow_setCell_below ho (by show w.heap.size < w.heap.size + 4; omega) _

def calmQ (Q : Exit → Act → World → Prop) : Exit → Act → World → Prop
  | .normal, a, w => Q .normal a w
  | _, _, _ => False
theorem calm_n {Q : Exit → Act → World → Prop} {a : Act} {w : World} (h : Q .normal a w) : calmQ Q .normal a w := h
/-- a part of the code that neither panics nor jumps -/
theorem wp_calm {P : Program} {c : Code} {Q : Exit → Act → World → Prop} {a : Act} {w : World} (h : c.wp P (calmQ Q) a w) : c.wp P Q a w :=
  Code.wp_mono (fun e a w h => by cases e <;> first | exact h | exact h.elim) h

theorem news_lit (w1 : World) (f : Fld) (jj : Nat) (u : Value) (hu : f.cells[jj]? = some u) : (w1.alloc (.cells #[.int .i64 f.kind, .int .i64 f.num, .string ⟨f.text.toArray⟩, .bool f.is_] 92)).cell? ((⟨w1.heap.size, 0, none⟩ : Addr).add jj) = some u := by
  rw [Addr.add_lit, cell_of_row _ _ _ _ _ _ (heap_alloc_new w1 _)]
  simpa [Fld.cells] using hu

theorem ReadI.boxed {w wr w1 : World} {v lv : Value} {a a' : Nat} {fs : List Fld} (h : ReadI w v lv a fs wr) (hD : Rd (w.heap.size + 1 + 1 + 1) v wr.drew w1 a') : w1.cell? ⟨w.heap.size, 0, none⟩ = some lv := by
  have hz := h.size
  have hs : wr.drew.heap.size = wr.heap.size := rfl
  exact cell_of_row _ _ 0 _ _ _ ((hD.block _ (by omega) (by omega)).trans h.b0)
theorem ReadI.boxedA {w wr w1 : World} {v lv : Value} {a a' : Nat} {fs : List Fld} (h : ReadI w v lv a fs wr) (hD : Rd (w.heap.size + 1 + 1 + 1) v wr.drew w1 a') (o : Obj) : (w1.alloc o).cell? ⟨w.heap.size, 0, none⟩ = some lv := by
  have hz := h.size
  have hs : wr.drew.heap.size = wr.heap.size := rfl
  have hd := hD.size
  exact cell_of_row _ _ 0 _ _ _ (((Below.heap_alloc w1 o _ (by omega))).trans ((hD.block _ (by omega) (by omega)).trans h.b0))

theorem ReadI.start (w : World) (v : Value) : ReadI w v (.slice none 0 0) 0 [] ((((w.alloc (.cells #[.slice none 0 0] 63)).alloc (.cells #[.int .i64 0] 3)).alloc (.cells #[.int .i64 0] 43)).alloc (.cells #[v, .int .i64 0] 147)) := by
  have s1 : ∀ (o : Obj), (w.alloc o).heap.size = w.heap.size + 1 := fun o => by simp
  have s2 : ∀ (o o2 : Obj), ((w.alloc o).alloc o2).heap.size = w.heap.size + 1 + 1 := fun o o2 => by simp
  have s3 : ∀ (o o2 o3 : Obj), (((w.alloc o).alloc o2).alloc o3).heap.size = w.heap.size + 1 + 1 + 1 := fun o o2 o3 => by simp
  refine ⟨((((Below.refl _ _).alloc (Nat.le_refl _) _).alloc (by rw [s1]; omega) _).alloc (by rw [s2]; omega) _).alloc (by rw [s3]; omega) _, ?_, ?_, ?_, ?_, World.ownsRow_nil _ _ _ _, by simp, by simp⟩
  · rw [Below.heap_alloc _ _ _ (by rw [s3]; omega), Below.heap_alloc _ _ _ (by rw [s2]; omega), Below.heap_alloc _ _ _ (by rw [s1]; omega), heap_alloc_new]
  · rw [Below.heap_alloc _ _ _ (by rw [s3]; omega), Below.heap_alloc _ _ _ (by rw [s2]; omega), ← s1 (.cells #[.slice none 0 0] 63), heap_alloc_new]
  · rw [Below.heap_alloc _ _ _ (by rw [s3]; omega), ← s2 (.cells #[.slice none 0 0] 63) (.cells #[.int .i64 0] 3), heap_alloc_new]
  · rw [← s3 (.cells #[.slice none 0 0] 63) (.cells #[.int .i64 0] 3) (.cells #[.int .i64 0] 43), heap_alloc_new]; rfl

theorem owns_mono {w : World} {B B' n sz : Nat} {e : TypeId} {v : Value} {xs : List Value} (h : w.ownsRow B e sz v n xs) (hB : B' ≤ B) : w.ownsRow B' e sz v n xs := by
  obtain ⟨h1, h2⟩ := h
  refine ⟨h1, ?_⟩
  rcases h2 with h2 | ⟨g, cap, cur, hv, hb, r⟩
  · exact .inl h2
  · exact .inr ⟨g, cap, cur, hv, Nat.le_trans hB hb, r⟩
theorem owns_form {w : World} {B n sz : Nat} {e : TypeId} {v : Value} {xs : List Value} (h : w.ownsRow B e sz v n xs) : ∃ ao cap, v = .slice ao n cap := by
  rcases h.2 with ⟨rfl, h0⟩ | ⟨g, cap, cur, rfl, _⟩
  · exact ⟨none, 0, by rw [h0]⟩
  · exact ⟨_, _, rfl⟩

theorem textR_le (l : List UInt8) (a : Nat) (h : a ≤ l.length) : (textR l a).2.1 ≤ l.length := by
  have h1 := numR_le l 10 a 0 h
  unfold textR
  by_cases h2 : (numR l 10 a 0).2.2 ≠ 0
  · rw [if_pos h2]; exact h
  · rw [if_neg h2]
    by_cases h3 : l.length - (numR l 10 a 0).2.1 < (numR l 10 a 0).1
    · rw [if_pos h3]; exact h
    · rw [if_neg h3]; show (numR l 10 a 0).2.1 + (numR l 10 a 0).1 ≤ _; omega

theorem fieldR_le (l : List UInt8) (k : Int) (a : Nat) (h : a ≤ l.length) : (fieldR l k a).2.1 ≤ l.length := by
  have h1 := numR_le l 10 a 0 h
  have h2 := textR_le l a h
  unfold fieldR
  repeat' split
  all_goals first | exact h | exact h1 | exact h2 | (show a + 1 ≤ _; omega)

theorem owns_snoc {w : World} {B : Nat} {v : Value} {fs : List Fld} {f : Fld} (h : w.ownsRow B 92 4 v (fs.length + 1) (fs.flatMap Fld.cells ++ f.cells)) : OwnF w B v (fs ++ [f]) := by
  show World.ownsRow _ _ _ _ _ _ _
  rw [List.length_append, List.flatMap_append]
  simpa using h

theorem fld_cells (f : Fld) : ∀ u ∈ f.cells, u.oneCell' = true := by
  intro u hu
  simp [Fld.cells] at hu
  rcases hu with rfl | rfl | rfl | rfl <;> rfl

set_option maxRecDepth 100000 in
set_option maxHeartbeats 2000000 in
theorem code_Read (v vk : Value) (l : List UInt8) (ks : List Int) (w : World) (hb : Bts w w.heap.size v l) (hk : Ints w w.heap.size vk ks) (hl : l.length ≤ 1000000000) (hkl : ks.length ≤ 1000000000) :
    Calls Tryd.prog 77 #[v, vk] w fun e w' => ∃ lv, e = .returned (.tuple #[lv, .int .i64 ((readF l ks [] 0).2.1 : Nat), .int .i64 ((readF l ks [] 0).2.2 : Nat)]) ∧ Below w.heap.size w w' ∧ OwnF w' w.heap.size lv (readF l ks [] 0).1 := by
  have hmf : ∀ (fn : Fn) (first cap : Array Value) (w : World), (Instr.makeFunc fn first cap).run Tryd.prog w = .ok (.func fn first cap) w := fun _ _ _ _ => rfl
  obtain ⟨ao, cap, hv, _⟩ := id hb
  obtain ⟨ko, kcap, hvk, hkc, hkm, _⟩ := id hk
  generalize hR : readF l ks [] 0 = R at *
  have HR := Lib.hid hR
  have HBB := Lib.hid hb
  have HK := Lib.hid hk
  clear hR hb hk
  subst hvk
  have hkm' : ks.length ≤ 9223372036854775807 := by unfold maxLen at hkm; omega
  clear hkm
  generalize hN : ks.length = n at *
  have HN := Lib.hid hN
  clear hN
  go_enter_defers Tryd.func77, Tryd.ntmps77
  go_wp2
  have H0 := Lib.hid (ReadI.start w v)
  rw [← hv]
  clear hv
  go_loopw [9, 17] (fun k i wr => ∃ (j a : Nat) (lv : Value) (fs : List Fld), j ≤ n ∧ i = .int .i64 (j : Int) ∧ Hid (R = readF l (ks.drop j) fs a) ∧ Hid (a ≤ l.length) ∧ Hid (fs.length = j) ∧ Hid (ReadI w v lv a fs wr)) (fun _ i _ => n - (intOf i).toNat)
  case atStart => exact ⟨0, 0, _, [], by omega, rfl, HR.out.symm, Nat.zero_le _, rfl, H0⟩
  case round =>
    obtain ⟨j, a, lv, fs, hj, rfl, HQ, HA, HL, HI⟩ := hrel
    by_cases hlt : j < n
    · have hkr := HK.out.below HI.out.low HI.out.low.size
      obtain ⟨ko', kcap', he, _, _, h4⟩ := hkr
      injection he with e1 e2 e3
      subst e1 e3
      obtain ⟨b, off, rfl, hbw, hcell⟩ := h4 (fun h => by have := HN.out; rw [h] at this; simp at this; omega)
      have hcj := hcell j (by have := HN.out; omega)
      clear hcell h4 e2
      have hq := HQ.out
      have hdrop : ks.drop j = ks.getD j 0 :: ks.drop (j + 1) := by
        rw [List.drop_eq_getElem_cons (by have := HN.out; omega)]
        congr 1
        simp [List.getD, show j < ks.length by have := HN.out; omega]
      have hunf : ∀ k r, readF l (k :: r) fs a = if (fieldR l k a).2.2 ≠ 0 then ([], 0, (fieldR l k a).2.2) else readF l r (fs ++ [(fieldR l k a).1]) (fieldR l k a).2.1 := fun _ _ => rfl
      rw [hdrop, hunf] at hq
      clear hdrop hunf
      have hb3 := HI.out.b3
      have hbr : Bts wr (w.heap.size + 1 + 1 + 1) v l := HBB.out.below (HI.out.low) (by omega)
      have c1 := reader_field (w.heap.size + 1 + 1 + 1) v l (ks.getD j 0) a wr.drew hb3 (hbr.below (show Below _ wr wr.drew from ⟨rfl, rfl, rfl, Nat.le_refl _, fun _ _ => rfl⟩) (Nat.le_refl _)) HA.out (by omega)
      have hfle := fieldR_le l (ks.getD j 0) a HA.out
      generalize fieldR l (ks.getD j 0) a = T at *
      obtain ⟨⟨fk, fnum, ft, fb⟩, a', code⟩ := T
      simp only at hq hfle
      have HA2 := Lib.hid hfle
      clear hfle
      generalize ks.getD j 0 = k at *
      have hc0 : wr.cell? ⟨w.heap.size, 0, none⟩ = some lv := cell_of_row _ _ 0 _ _ _ HI.out.b0
      clear hb3 hbr
      by_cases hz : code = 0
      · subst hz
        rw [if_neg (by simp)] at hq
        have c2 : Calls Tryd.prog 88 #[.pointer (some ⟨w.heap.size + 1 + 1 + 1, 0, none⟩), .int .i64 k] wr.drew fun x w' => x = .returned (.agg #[.int .i64 fk, .int .i64 fnum, .string ⟨ft.toArray⟩, .bool fb]) ∧ Rd (w.heap.size + 1 + 1 + 1) v wr.drew w' a' :=
          c1.mono fun x w' h => by
            rcases h with ⟨_, h1, h2⟩ | ⟨h, _⟩
            · exact ⟨h1, h2⟩
            · exact absurd rfl h
        clear c1
        go_wp2
        have HQ2 := Lib.hid hq
        clear hq HQ
        obtain ⟨i0, hi, hz0, hz1, hz2⟩ := info_parts info_field
        have hsz := HI.out.size
        have hat := HI.out.at_
        refine wp_calm ?_
        go_region_law (first
          | (refine step_append_lies _ rfl (.tmp 21) (.tmp 25) 63 rfl (w.heap.size + 4) 92 i0 _ 4 40 Tryd.underlying63 hi hz0 hz1 hz2 rfl (by decide) lv fs.length (fs.flatMap Fld.cells) (by simp [Act.eval]) ((hD1.owns (by omega) HI.out.own).alloc _) ⟨w1.heap.size, 0, none⟩ 1 1 (Fld.cells ⟨fk, fnum, ft, fb⟩) (by simp [Act.eval]) rfl
              (fun jj u hu => news_lit w1 ⟨fk, fnum, ft, fb⟩ jj u hu) (fld_cells ⟨fk, fnum, ft, fb⟩) (by decide) (by unfold maxLen; omega) (by omega) (by have h5 := hD1.size; have h6 : wr.drew.heap.size = wr.heap.size := rfl; simp; omega) _ rfl ?_; intro g cap2 w2 hown2 hg2 _ _; have hbe := HI.out.behind hD1 hg2; have hcs := cell_of_row _ _ 0 _ _ _ hbe.2.1; have hfs := frozen_of_row _ _ 0 _ _ hbe.2.1)
          | (go_simp; go_at_call 88; refine c2.mono ?_; rintro e w1 ⟨rfl, hD1⟩; have hw1 : w1.cell? ⟨w.heap.size, 0, none⟩ = some lv := HI.out.boxed hD1; have hw1a : ∀ o, (w1.alloc o).cell? ⟨w.heap.size, 0, none⟩ = some lv := HI.out.boxedA hD1))
        all_goals
          show Exit.inBlock 1 _ Exit.normal _ _
          have HBE := Lib.hid hbe
          have HOW := Lib.hid (owns_snoc hown2)
          clear hbe hcs hfs hown2 hg2 hw1 hw1a hD1
          go_wp2_with fail
          go_roundw
          case rel => exact ⟨j + 1, a', _, fs ++ [⟨fk, fnum, ft, fb⟩], by omega, by go_num, HQ2, HA2, by have := HL.out; show _ = _; simp [this], ReadI.stored (j := j + 1) HBE.out HOW.out (by have := HL.out; simp [this]) (by omega)⟩
          case measure => simp [intOf]; omega
      · rw [if_pos hz] at hq
        have HQ2 := Lib.hid hq
        have c2 : Calls Tryd.prog 88 #[.pointer (some ⟨w.heap.size + 1 + 1 + 1, 0, none⟩), .int .i64 k] wr.drew fun x w' => x = gaveUp (code : Int) ∧ ∃ a2, Rd (w.heap.size + 1 + 1 + 1) v wr.drew w' a2 :=
          c1.mono fun x w' h => by
            rcases h with ⟨h, _⟩ | ⟨_, h1, h2⟩
            · exact absurd h hz
            · exact ⟨h1, h2⟩
        obtain ⟨lo, lcap, hlv⟩ := owns_form HI.out.own
        generalize hfl : fs.length = fl at hlv
        subst hlv
        clear c1 hq HQ hz
        go_wp2
        refine panic_region (by kernel_rfl) rfl rfl rfl rfl (by kernel_rfl) (by kernel_rfl) (by simp) rfl hc0 rfl rfl c2 ?_
        rintro a' w' hfr hdf ⟨a2, hD⟩
        have h4 : a'.tmps.getD 4 undef = .pointer (some ⟨w.heap.size, 0, none⟩) := hfr 4 (by decide)
        have h5 : a'.tmps.getD 5 undef = .pointer (some ⟨w.heap.size + 1, 0, none⟩) := hfr 5 (by decide)
        have h6 : a'.tmps.getD 6 undef = .pointer (some ⟨w.heap.size + 1 + 1, 0, none⟩) := hfr 6 (by decide)
        rw [Array.getD_eq_getD_getElem?] at h4 h5 h6
        have hsz := HI.out.size
        have hsd : wr.drew.heap.size = wr.heap.size := rfl
        have k0 : w'.heap[w.heap.size]? = _ := (hD.block _ (by omega) (by omega)).trans HI.out.b0
        have k1 : w'.heap[w.heap.size + 1]? = _ := (hD.block _ (by omega) (by omega)).trans HI.out.b1
        have k2 : w'.heap[w.heap.size + 1 + 1]? = _ := (hD.block _ (by omega) (by omega)).trans HI.out.b2
        show Leaves Tryd.prog Tryd.f77 a'.tmps (fun e w' => ∃ lv, e = .returned (.tuple #[lv, .int .i64 (R.2.1 : Nat), .int .i64 (R.2.2 : Nat)]) ∧ Below w.heap.size w w' ∧ OwnF w' w.heap.size lv R.1) a'.defers (.panicking _) w'
        rw [hdf]
        refine leaves_cons (f := 87) (args := #[.pointer (some ⟨w.heap.size, 0, none⟩), .pointer (some ⟨w.heap.size + 1, 0, none⟩), .pointer (some ⟨w.heap.size + 1 + 1, 0, none⟩)]) (by simp) (by simp [go_sem]) ?_
        refine (catch_no _ _ _ (code : Int) _ _ _ _ _ (cell_of_row _ _ 0 _ _ _ k0) (cell_of_row _ _ 0 _ _ _ k1) (cell_of_row _ _ 0 _ _ _ k2) (frozen_of_row _ _ 0 _ _ k0) (frozen_of_row _ _ 0 _ _ k1) (frozen_of_row _ _ 0 _ _ k2) (by omega) (by omega) (by omega)).mono ?_
        rintro e u' w'' ⟨rfl, rfl, rfl⟩
        rw [HQ2.out]
        have hc3 := cell_of_row _ _ 0 _ _ _ k0
        have hc4 := cell_of_row _ _ 0 _ _ _ k1
        have hc5 := cell_of_row _ _ 0 _ _ _ k2
        simp [Leaves, settle, results, Tryd.results77, go_sem, h4, h5, h6, hc3, hc4, hc5]
        have low := HI.out.low
        have b0 : Below w.heap.size w w' := ⟨hD.os.trans low.os, hD.tape.trans low.tape, hD.output.trans low.output, by have := hD.size; have := low.size; omega, fun k hk => (hD.block k (by omega) (by omega)).trans (low.block k hk)⟩
        have b3 := ((b0.setCell (p := ⟨w.heap.size, 0, none⟩) (Nat.le_refl _) (.slice none 0 0)).setCell (p := ⟨w.heap.size + 1, 0, none⟩) (Nat.le_succ _) (.int .i64 0)).setCell (p := ⟨w.heap.size + 1 + 1, 0, none⟩) (Nat.le_trans (Nat.le_succ _) (Nat.le_succ _)) (.int .i64 (code : Int))
        exact ⟨b3, World.ownsRow_nil _ _ _ _⟩
    · have hjn : j = n := by omega
      obtain ⟨lo, lcap, hlv⟩ := owns_form HI.out.own
      generalize hfl : fs.length = fl at hlv
      subst hlv
      have hq := HQ.out
      rw [List.drop_eq_nil_of_le (by have := HN.out; omega)] at hq
      have hq2 : R = (fs, a, 0) := hq
      have HRR := Lib.hid hq2
      have hc0 : wr.cell? ⟨w.heap.size, 0, none⟩ = some (.slice lo fl lcap) := cell_of_row _ _ 0 _ _ _ HI.out.b0
      have hc1 : wr.cell? ⟨w.heap.size + 1, 0, none⟩ = some (.int .i64 0) := cell_of_row _ _ 0 _ _ _ HI.out.b1
      have hc2 : wr.cell? ⟨w.heap.size + 1 + 1, 0, none⟩ = some (.int .i64 0) := cell_of_row _ _ 0 _ _ _ HI.out.b2
      have hc3 : wr.cell? ⟨w.heap.size + 1 + 1 + 1, 1, none⟩ = some (.int .i64 (a : Int)) := cell_of_row _ _ 1 _ _ _ HI.out.b3
      have hf0 : wr.frozen? ⟨w.heap.size, 0, none⟩ = false := frozen_of_row _ _ 0 _ _ HI.out.b0
      have hf1 : wr.frozen? ⟨w.heap.size + 1, 0, none⟩ = false := frozen_of_row _ _ 0 _ _ HI.out.b1
      have hf2 : wr.frozen? ⟨w.heap.size + 1 + 1, 0, none⟩ = false := frozen_of_row _ _ 0 _ _ HI.out.b2
      clear hq hq2 HQ HR hjn hfl
      go_wp2
      refine wp_calm ?_
      go_region
      all_goals
        refine calm_n ?_
        go_wp2
      refine leaves_cons (f := 87) (args := #[.pointer (some ⟨w.heap.size, 0, none⟩), .pointer (some ⟨w.heap.size + 1, 0, none⟩), .pointer (some ⟨w.heap.size + 1 + 1, 0, none⟩)]) (by simp) (by simp [go_sem]) ?_
      refine (catch_idle _ _ _ _).mono ?_
      rintro e u' w'' ⟨rfl, rfl, rfl⟩
      rw [HRR.out]
      simp [Leaves, settle, results, Tryd.results77, go_sem, hc0, hc1, hc2]
      have b3 := ((HI.out.low.setCell (p := ⟨w.heap.size, 0, none⟩) (Nat.le_refl _) (.slice lo fl lcap)).setCell (p := ⟨w.heap.size + 1, 0, none⟩) (Nat.le_succ _) (.int .i64 (a : Int))).setCell (p := ⟨w.heap.size + 1 + 1, 0, none⟩) (Nat.le_trans (Nat.le_succ _) (Nat.le_succ _)) (.int .i64 0)
      have o3 := ownsRow_setCell_below (a := ⟨w.heap.size + 1 + 1, 0, none⟩) (ownsRow_setCell_below (a := ⟨w.heap.size + 1, 0, none⟩) (ownsRow_setCell_below (a := ⟨w.heap.size, 0, none⟩) HI.out.own (by show w.heap.size < w.heap.size + 4; omega) (.slice lo fl lcap)) (by show w.heap.size + 1 < w.heap.size + 4; omega) (.int .i64 (a : Int))) (by show w.heap.size + 1 + 1 < w.heap.size + 4; omega) (.int .i64 0)
      exact ⟨⟨b3.os, b3.tape, b3.output, b3.size, b3.block⟩, owns_mono o3 (by omega)⟩

end Go.Proofs.YtgnpjenpehfjbaaDoor
