/- Wire: what open reads; the boxes behind read's sets (by program: wip/tools/gen_wire32.py). -/
import Derived.Test.YtgnpjenpehfjbaaDoorMO
import Derived.Test.YtgnpjenpehfjbaaDoorMK
import Derived.Test.YtgnpjenpehfjbaaDoorMN
set_option linter.unusedSimpArgs false
set_option linter.unusedVariables false
namespace Go.Proofs.YtgnpjenpehfjbaaDoor
open Go.RowKit

def itemK : List Int := [3, 1, 1, 4, 1, 1, 1, 1, 2, 4, 2, 4, 2, 1, 1, 4, 2, 1, 1]
def headK : List Int := [1, 1, 1, 1, 1, 1, 1, 1]
theorem itemP_kinds (xb : Nat) : (itemP xb).map Plc.kind = itemK := rfl
theorem headP_kinds (pb cb : Nat) : (headP pb cb).map Plc.kind = headK := rfl
def itmOf (fs : List Fld) : Itm := ⟨(fs.getD 0 nilF).text, (fs.getD 1 nilF).num, (fs.getD 2 nilF).num, (fs.getD 3 nilF).is_, (fs.getD 4 nilF).num, (fs.getD 5 nilF).num, (fs.getD 6 nilF).num, (fs.getD 7 nilF).num, (fs.getD 8 nilF).num, (fs.getD 9 nilF).is_, (fs.getD 10 nilF).num, ⟨(fs.getD 11 nilF).is_, (fs.getD 12 nilF).num, (fs.getD 13 nilF).num, (fs.getD 14 nilF).num⟩, ⟨(fs.getD 15 nilF).is_, (fs.getD 16 nilF).num, (fs.getD 17 nilF).num, (fs.getD 18 nilF).num⟩⟩
def hdOf (fs : List Fld) (xs : List Itm) : Pkt := ⟨(fs.getD 0 nilF).num, (fs.getD 1 nilF).num, (fs.getD 2 nilF).num, (fs.getD 3 nilF).num, (fs.getD 4 nilF).num, (fs.getD 5 nilF).num, (fs.getD 6 nilF).num, xs⟩
def zeroP : Pkt := ⟨0, 0, 0, 0, 0, 0, 0, []⟩
/-- the items that a body tells, and how far they reach -/
def itemsR (l : List UInt8) (c : Int) : Nat → List Itm → Nat → Option (List Itm × Nat)
  | 0, _, _ => none
  | f + 1, xs, a => if (xs.length : Int) < c then (if (readF (l.drop a) itemK [] 0).2.2 ≠ 0 then none else itemsR l c f (xs ++ [itmOf (readF (l.drop a) itemK [] 0).1]) (a + (readF (l.drop a) itemK [] 0).2.1)) else some (xs, a)
/-- the body's packet, and the error -/
def openP (l : List UInt8) : Pkt × Nat :=
  if (readF l headK [] 0).2.2 ≠ 0 then (zeroP, 20)
  else match itemsR l ((readF l headK [] 0).1.getD 7 nilF).num (l.length + 1) [] (readF l headK [] 0).2.1 with
    | none => (zeroP, 20)
    | some (xs, a) => if a ≠ l.length then (zeroP, 20) else if fitP (hdOf (readF l headK [] 0).1 xs) then (hdOf (readF l headK [] 0).1 xs, 0) else (zeroP, 54)
theorem fbytes_pos (f : Fld) : 1 ≤ (fbytes f).length := by
  unfold fbytes
  split
  · exact (vintF_len 10 _).1
  · split
    · exact (vintF_len 10 _).1
    · split
      · have := (vintF_len 10 f.text.length).1; unfold vint; simp; omega
      · exact (vintF_len 10 _).1
theorem fbytes_sum (gs : List Fld) : gs.length ≤ (gs.flatMap fbytes).length := by
  induction gs with
  | nil => simp
  | cons g r ih => rw [List.flatMap_cons, List.length_append, List.length_cons]; have := fbytes_pos g; omega
/-- what a reading of fields says -/
theorem readF_says {l : List UInt8} {ks : List Int} (h : (readF l ks [] 0).2.2 = 0) : (readF l ks [] 0).1.length = ks.length ∧ (readF l ks [] 0).2.1 ≤ l.length ∧ ks.length ≤ (readF l ks [] 0).2.1 ∧ ∀ g ∈ (readF l ks [] 0).1, g.text.length ≤ l.length ∧ I64 g.num := by
  obtain ⟨⟨fs, b, e⟩, hR⟩ : ∃ R, readF l ks [] 0 = R := ⟨_, rfl⟩
  rw [hR] at h
  simp only at h
  subst h
  obtain ⟨gs, h1, h2, h3, h4, h5⟩ := read_form l ks [] 0 fs b (Nat.zero_le _) hR
  rw [List.nil_append] at h1
  subst h1
  have hl := readF_len l ks [] 0 (by rw [hR])
  rw [hR] at hl
  simp only [List.length_nil, Nat.zero_add] at hl
  rw [hR]
  refine ⟨hl, h2, ?_, fun g hg => ⟨(h5 g hg).2.2.2, (h5 g hg).2.1, (h5 g hg).2.2.1⟩⟩
  have h6 := fbytes_sum fs
  rw [← h4, List.drop_zero, List.length_take] at h6
  show ks.length ≤ b
  omega
theorem sets_row (b : Nat) (t : TypeId) : ∀ (l : List (Plc × Fld)) (o : Nat) (cs : Array Value) (w : World), (∀ (i : Nat) (pf : Plc × Fld), l[i]? = some pf → pf.1.b = b ∧ pf.1.o = o + i) → w.heap[b]? = some (.cells cs t (0, 0)) → (setsW w l).heap[b]? = some (.cells (splice cs o (l.map fun pf => pf.1.cellOf pf.2)) t (0, 0))
  | [], _, _, _, _, h => h
  | (p, f) :: r, o, cs, w, hl, h => by
    obtain ⟨h1, h2⟩ := hl 0 (p, f) rfl
    simp only [Nat.add_zero] at h1 h2
    show (setsW (w.setCell ⟨p.b, p.o, none⟩ (p.cellOf f)) r).heap[b]? = _
    rw [h1, h2]
    refine sets_row b t r (o + 1) _ _ (fun i pf hi => ?_) (set_block w b o cs t _ h)
    have := hl (i + 1) pf hi
    exact ⟨this.1, by omega⟩
theorem sets_other (b : Nat) : ∀ (l : List (Plc × Fld)) (w : World), (∀ pf ∈ l, pf.1.b ≠ b) → (setsW w l).heap[b]? = w.heap[b]?
  | [], _, _ => rfl
  | (p, f) :: r, w, hl => by
    show (setsW (w.setCell ⟨p.b, p.o, none⟩ (p.cellOf f)) r).heap[b]? = _
    rw [sets_other b r _ (fun pf hp => hl pf (List.mem_cons_of_mem _ hp))]
    exact set_other _ _ _ _ _ (fun e => hl (p, f) List.mem_cons_self e.symm)
theorem sets_below : ∀ (l : List (Plc × Fld)) (w w' : World), Below w.heap.size w w' → (∀ pf ∈ l, ∃ (cs : Array Value) (t : TypeId), w.heap[pf.1.b]? = some (.cells cs t (0, 0))) → Below w.heap.size (setsW w l) (setsW w' l)
  | [], _, _, hb, _ => hb
  | (p, f) :: r, w, w', hb, hl => by
    obtain ⟨cs, t, hc⟩ := hl (p, f) List.mem_cons_self
    have h1 := below_set (o := p.o) (v := p.cellOf f) hb hc
    have hz : (w.setCell ⟨p.b, p.o, none⟩ (p.cellOf f)).heap.size = w.heap.size := by simp [World.setCell]
    have := sets_below r (w.setCell ⟨p.b, p.o, none⟩ (p.cellOf f)) (w'.setCell ⟨p.b, p.o, none⟩ (p.cellOf f)) (by rw [hz]; exact h1) (fun pf hp => by
      obtain ⟨cs', t', hc'⟩ := hl pf (List.mem_cons_of_mem _ hp)
      by_cases e : pf.1.b = p.b
      · rw [e]; rw [e] at hc'; exact ⟨_, t', set_block w p.b p.o cs' t' _ hc'⟩
      · exact ⟨cs', t', (set_other _ _ _ _ _ e).trans hc'⟩)
    rw [hz] at this
    exact this
theorem sets_item (xb : Nat) (fs : List Fld) (w : World) (hf : fs.length = 19) (h : w.heap[xb]? = some (.cells #[.string ⟨#[]⟩, .int .i64 0, .int .i64 0, .bool false, .int .i64 0, .int .i64 0, .int .i64 0, .int .i64 0, .int .i64 0, .bool false, .int .i64 0, .bool false, .int .i64 0, .int .i64 0, .int .i64 0, .bool false, .int .i64 0, .int .i64 0, .int .i64 0] 38 (0, 0))) : (setsW w ((itemP xb).zip fs)).heap[xb]? = some (.cells (itmOf fs).cells.toArray 38 (0, 0)) := by
  match fs, hf with
  | [f0, f1, f2, f3, f4, f5, f6, f7, f8, f9, f10, f11, f12, f13, f14, f15, f16, f17, f18], _ =>
    refine (sets_row xb 38 _ 0 _ w (fun i pf hi => ?_) h).trans ?_
    · have hlt : i < 19 := (List.getElem?_eq_some_iff.1 hi).1
      rcases (show i = 0 ∨ i = 1 ∨ i = 2 ∨ i = 3 ∨ i = 4 ∨ i = 5 ∨ i = 6 ∨ i = 7 ∨ i = 8 ∨ i = 9 ∨ i = 10 ∨ i = 11 ∨ i = 12 ∨ i = 13 ∨ i = 14 ∨ i = 15 ∨ i = 16 ∨ i = 17 ∨ i = 18 by omega) with rfl | rfl | rfl | rfl | rfl | rfl | rfl | rfl | rfl | rfl | rfl | rfl | rfl | rfl | rfl | rfl | rfl | rfl | rfl <;> (cases hi; exact ⟨rfl, rfl⟩)
    · kernel_rfl
theorem sets_head (pb cb : Nat) (fs : List Fld) (w : World) (hne : pb ≠ cb) (hf : fs.length = 8) (h : w.heap[pb]? = some (.cells #[.int .i64 0, .int .i64 0, .int .i64 0, .int .i64 0, .int .i64 0, .int .i64 0, .int .i64 0, .slice none 0 0] 24 (0, 0))) (hc : w.heap[cb]? = some (.cells #[.int .i64 0] 3 (0, 0))) :
    (setsW w ((headP pb cb).zip fs)).heap[pb]? = some (.cells ((hdOf fs []).cells (.slice none 0 0)).toArray 24 (0, 0)) ∧ (setsW w ((headP pb cb).zip fs)).heap[cb]? = some (.cells #[.int .i64 (fs.getD 7 nilF).num] 3 (0, 0)) := by
  match fs, hf with
  | [f0, f1, f2, f3, f4, f5, f6, f7], _ =>
    have e : (headP pb cb).zip [f0, f1, f2, f3, f4, f5, f6, f7] = ([⟨1, 1, pb, 0⟩, ⟨1, 1, pb, 1⟩, ⟨1, 1, pb, 2⟩, ⟨1, 0, pb, 3⟩, ⟨1, 0, pb, 4⟩, ⟨1, 0, pb, 5⟩, ⟨1, 0, pb, 6⟩] : List Plc).zip [f0, f1, f2, f3, f4, f5, f6] ++ [((⟨1, 1, cb, 0⟩ : Plc), f7)] := rfl
    rw [e, setsW_snoc]
    have h1 := sets_row pb 24 ((([⟨1, 1, pb, 0⟩, ⟨1, 1, pb, 1⟩, ⟨1, 1, pb, 2⟩, ⟨1, 0, pb, 3⟩, ⟨1, 0, pb, 4⟩, ⟨1, 0, pb, 5⟩, ⟨1, 0, pb, 6⟩] : List Plc)).zip [f0, f1, f2, f3, f4, f5, f6]) 0 _ w (fun i pf hi => by
      have hlt : i < 7 := (List.getElem?_eq_some_iff.1 hi).1
      rcases (show i = 0 ∨ i = 1 ∨ i = 2 ∨ i = 3 ∨ i = 4 ∨ i = 5 ∨ i = 6 by omega) with rfl | rfl | rfl | rfl | rfl | rfl | rfl <;> (cases hi; exact ⟨rfl, rfl⟩)) h
    have h2 := (sets_other cb ((([⟨1, 1, pb, 0⟩, ⟨1, 1, pb, 1⟩, ⟨1, 1, pb, 2⟩, ⟨1, 0, pb, 3⟩, ⟨1, 0, pb, 4⟩, ⟨1, 0, pb, 5⟩, ⟨1, 0, pb, 6⟩] : List Plc)).zip [f0, f1, f2, f3, f4, f5, f6]) w (fun pf hp => by
      simp only [List.zip_cons_cons, List.zip_nil_right, List.mem_cons, List.not_mem_nil, or_false] at hp
      rcases hp with rfl | rfl | rfl | rfl | rfl | rfl | rfl <;> exact hne)).trans hc
    exact ⟨(set_other _ _ _ _ _ hne).trans h1, set_block _ cb 0 _ _ _ h2⟩

end Go.Proofs.YtgnpjenpehfjbaaDoor

