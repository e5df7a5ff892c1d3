/- Salvage: the program's. -/
import Derived.Test.YtmekpmboghmfpaaDoorSealSalv2
import Derived.Deep.QuietTactic
import Derived.BigQuiet
namespace Go.Proofs.YtmekpmboghmfpaaDoor
open Go.RowKit

attribute [local go_sem] Oper.semAt_some

/-- rows of cells stay as they are -/
def KeepsCells (W W' : World) : Prop := ∀ (k : Nat) (c : Array Value) (e : TypeId) (fr : Nat × Nat), W.heap[k]? = some (.cells c e fr) → W'.heap[k]? = some (.cells c e fr)
theorem KeepsCells.of_below {W W' : World} (h : Below W.heap.size W W') : KeepsCells W W' := fun _ _ _ _ hk => (h.block _ (Array.getElem?_eq_some_iff.1 hk).1).trans hk
theorem KeepsCells.put {W : World} {l : Nat} {o : Obj} (h : W.heap[l]? = some o) (hc : o.isCells = false) (o' : Obj) : KeepsCells W (W.putObj l o') := fun k c e fr hk => by
  have hne : k ≠ l := by
    rintro rfl
    rw [h] at hk; cases hk; cases hc
  exact (World.putObj_heap_other hne).trans hk
theorem owns_cells {base : Nat} {W W' : World} {e : TypeId} {v : Value} {n : Nat} {xs : List Value} (h2 : W.ownsRow base e 1 v n xs) (hb : KeepsCells W W') : W'.ownsRow base e 1 v n xs := by
  refine ⟨h2.1, ?_⟩
  rcases h2.2 with h | ⟨g, cap, cur, hv, hbg, hgg, r⟩
  · exact .inl h
  · exact .inr ⟨g, cap, cur, hv, hbg, hb _ _ _ _ hgg, r⟩

def SalvI (w0 : World) (v : Value) (l : List UInt8) (pre : List (Nat × Value)) (W : World) : Prop :=
  Below w0.heap.size w0 W ∧ w0.heap.size + 3 ≤ W.heap.size ∧ W.heap[w0.heap.size + 2]? = some (.cells #[v] 22 (0, 0)) ∧ pre.length ≤ l.length ∧
  (∀ x, x ∈ pre → Own W (w0.heap.size + 3) x.2 (bodyAt l x.1)) ∧
  ∃ lv pv, W.heap[w0.heap.size]? = some (.cells #[lv] 33 (0, 0)) ∧ W.heap[w0.heap.size + 1]? = some (.cells #[pv] 44 (0, 0)) ∧
    OwnL W (w0.heap.size + 3) lv (pre.map (·.2)) ∧ OwnP W (w0.heap.size + 3) pv (pre.map fun x => .int .i64 (x.1 : Int))

theorem SalvI.keeps {w0 : World} {v : Value} {l : List UInt8} {pre : List (Nat × Value)} {W W' : World} (h : SalvI w0 v l pre W) (hk : KeepsCells W W') (hb : Below w0.heap.size W W') : SalvI w0 v l pre W' := by
  obtain ⟨h1, h2, h3, h4, h5, lv, pv, h6, h7, h8, h9⟩ := h
  exact ⟨h1.trans hb, Nat.le_trans h2 hb.size, hk _ _ _ _ h3, h4, fun x hx => owns_cells (h5 x hx) hk, lv, pv, hk _ _ _ _ h6, hk _ _ _ _ h7, owns_cells h8 hk, owns_cells h9 hk⟩

theorem SalvI.inv {w0 : World} {v : Value} {l : List UInt8} {pre : List (Nat × Value)} {W : World} (h : SalvI w0 v l pre W) (hb : Bts w0 w0.heap.size v l) (ht : TabOK w0) : InvS (w0.heap.size + 2) (w0.heap.size + 3) v l W := by
  obtain ⟨h1, h2, h3, _⟩ := h
  exact ⟨by rw [cell_of_row W _ 0 _ _ _ h3]; rfl, hb.below h1 (by omega), ht.below h1 ht.lt, h2⟩

theorem SalvI.more {w0 : World} {v : Value} {l : List UInt8} {pre : List (Nat × Value)} {W W' : World} {x : Nat × Value} (h : SalvI w0 v l pre W) (hx : RS (w0.heap.size + 3) l pre x W)
    (hF : FrL (w0.heap.size + 3) w0.heap.size (w0.heap.size + 1) W W') {lv' pv' : Value} (hl : OwnL W' (w0.heap.size + 3) lv' (pre.map (·.2) ++ [x.2])) (hp : OwnP W' (w0.heap.size + 3) pv' ((pre.map fun x => Value.int .i64 (x.1 : Int)) ++ [.int .i64 (x.1 : Int)]))
    (hL : W'.heap[w0.heap.size]? = some (.cells #[lv'] 33 (0, 0))) (hP : W'.heap[w0.heap.size + 1]? = some (.cells #[pv'] 44 (0, 0))) : SalvI w0 v l (pre ++ [x]) W' := by
  obtain ⟨h1, h2, h3, h4, h5, lv, pv, h6, h7, _, _⟩ := h
  have hlow : ∀ k, k < w0.heap.size → W'.heap[k]? = W.heap[k]? := fun k hk => hF.block k (by omega) (by omega) (by omega) (fun _ _ _ => by omega) (fun _ _ _ => by omega)
  have hbytes : ∀ (g : Nat) (c : Array Value) (fr : Nat × Nat), W.heap[g]? = some (.cells c 5 fr) → W'.heap[g]? = some (.cells c 5 fr) := fun g c fr hg => by
    rw [hF.block g (Array.getElem?_eq_some_iff.1 hg).1 ?_ ?_ (fun c2 f2 e => by rw [hg] at e; cases e) (fun c2 f2 e => by rw [hg] at e; cases e)]
    · exact hg
    · rintro rfl; rw [hg] at h6; cases h6
    · rintro rfl; rw [hg] at h7; cases h7
  have hown : ∀ (u : Value) (m : List UInt8), Own W (w0.heap.size + 3) u m → Own W' (w0.heap.size + 3) u m := fun u m hu => by
    refine ⟨hu.1, ?_⟩
    rcases hu.2 with h | ⟨g, cap, cur, hv, hbg, hgg, r⟩
    · exact .inl h
    · exact .inr ⟨g, cap, cur, hv, hbg, hbytes _ _ _ hgg, r⟩
  refine ⟨h1.trans ⟨hF.os, hF.tape, hF.output, hF.size, hlow⟩, Nat.le_trans h2 hF.size, ?_, by have := hx.2.1; simp; omega, ?_, lv', pv', hL, hP, ?_, ?_⟩
  · rw [hF.block _ (by omega) (by omega) (by omega) (fun _ _ _ => by omega) (fun _ _ _ => by omega)]; exact h3
  · intro y hy
    rcases List.mem_append.1 hy with hy | hy
    · exact hown _ _ (h5 y hy)
    · obtain rfl := List.mem_singleton.1 hy
      exact hown _ _ hx.1
  · rw [List.map_append]; exact hl
  · rw [List.map_append]; exact hp

theorem whole_calls (v : Value) (w : World) (hv : ∀ cs, v ≠ .agg cs) : Calls Tryd.prog 32 #[v] w fun e w' => e = .returned (.func (.func 49) #[] #[.pointer (some ⟨w.heap.size, 0, none⟩)]) ∧ w.alloc (.cells #[v] 22) = w' := by
  go_enter Tryd.func32, Tryd.ntmps32
  go_wp2
  go_ret
  exact ⟨rfl, by trivial⟩

set_option maxRecDepth 100000 in
set_option maxHeartbeats 1000000 in
theorem seal_Salvage (v : Value) (l : List UInt8) (w : World) (hb : Bts w w.heap.size v l) (ht : TabOK w) (hsm : l.length ≤ 1099511627776) :
    Calls Tryd.prog 21 #[v] w fun e w' => ∃ lv pv, ∃ xs : List (Nat × Value), e = .returned (.tuple #[lv, pv]) ∧ Below w.heap.size w w' ∧ xs.map (·.1) = places l ∧
      (∀ x, x ∈ xs → Own w' w.heap.size x.2 (bodyAt l x.1)) ∧ OwnL w' w.heap.size lv (xs.map (·.2)) ∧ OwnP w' w.heap.size pv (xs.map fun x => .int .i64 (x.1 : Int)) := by
  obtain ⟨ao, cap, hv, _⟩ := id hb
  subst hv
  refine (callsIn_wide (n := 5)).1 ?_
  refine callsIn_of_wp_marks Tryd.func21 rfl trivial ?_ rfl
  simp only [Tryd.ntmps21, List.size_toArray, List.length_cons, List.length_nil, Nat.reduceAdd, Nat.reduceSub, Array.replicate_succ, Array.replicate_zero, List.push_toArray, List.append_toArray, List.nil_append, List.cons_append]
  gi_wp2
  refine ⟨trivial, ?_⟩
  refine (callsIn_wide.2 (whole_calls _ _ (by intro cs h; cases h))).mono ?_
  rintro e w' ⟨rfl, rfl⟩
  gi_wp2
  refine wpIn_range (F := Fence.wide) (n := 5) rfl (by omega) (gf := 49) (lb := #[.pointer (some ⟨w.heap.size + 2, 0, none⟩)]) rfl trivial (enters_of Tryd.func49 (by kernel_rfl) rfl)
    (whole1_iter (w.heap.size + 2) (w.heap.size + 3) (.slice ao l.length cap) l 4) (fun x => rfl) ?hRput
    (SalvI w (.slice ao l.length cap) l) (fun _ _ _ => False) ?hI ?hIp (fun _ _ _ _ _ _ h => h.elim) ?hInv ?h0
    (fun x => actL (.slice ao l.length cap) (.slice ao l.length cap) (.func (.func 49) #[] #[.pointer (some ⟨w.heap.size + 1 + 1, 0, none⟩)]) w.heap.size (w.heap.size + 1) (.int .i64 (x.1 : Int)) x.2 undef undef undef undef undef undef undef undef) ?assign ?body ?done ?stop
  case hRput =>
    rintro pre x W l0 o o' ⟨h1, h2⟩ hl0 hc
    exact ⟨owns_cells h1 (KeepsCells.put hl0 hc _), h2⟩
  case hI => exact fun s A B h hb => h.keeps (KeepsCells.of_below hb) (hb.mono h.1.size)
  case hIp =>
    intro s A l0 o o' h hl ho hc
    refine h.keeps (KeepsCells.put ho hc _) ((Below.refl _ A).grown (grownBy_putObj' A l0 o') h.1.size (fun k e => by cases e; simp at hl; omega))
  case hInv => exact fun s W h => h.inv hb ht
  case h0 =>
    refine ⟨(((Below.refl _ w).alloc (Nat.le_refl _) _).alloc (by simp) _).alloc (by simp; omega) _, by simp, ?_, Nat.zero_le _, (fun x hx => by cases hx), .slice none 0 0, .slice none 0 0, ?_, ?_, World.ownsRow_nil _ _ _ _, World.ownsRow_nil _ _ _ _⟩
    · have := heap_alloc_new ((w.alloc (.cells #[.slice none 0 0] 33)).alloc (.cells #[.slice none 0 0] 44)) (.cells #[.slice ao l.length cap] 22)
      simpa using this
    · rw [Below.heap_alloc _ _ _ (by simp; omega), Below.heap_alloc _ _ _ (by simp)]; exact heap_alloc_new w _
    · rw [Below.heap_alloc _ _ _ (by simp)]
      have := heap_alloc_new (w.alloc (.cells #[.slice none 0 0] 33)) (.cells #[.slice none 0 0] 44)
      simpa using this
  case assign =>
    intro yl x W K hK
    simp only [encS]
    gi_wp2
    exact hK
  case body =>
    intro yl pre x W hI hR
    simp only [actL]
    gi_wp2
    obtain ⟨h1, h2, h3, h4, h5, lv, pv, hL, hP, hl, hp⟩ := id hI
    have hxv : ∃ ao len cap, x.2 = .slice ao len cap := by
      rcases hR.1.2 with ⟨h, _⟩ | ⟨g, cap, cur, h, _⟩
      · exact ⟨_, _, _, h⟩
      · exact ⟨_, _, _, h⟩
    have hk : pre.length < 1099511627776 := by have := hR.2.1; omega
    obtain ⟨xo, xn, xc, hxv⟩ := hxv
    obtain ⟨i1, hi1, hz10, hz11, hz12⟩ := info_parts info_bytes
    obtain ⟨i2, hi2, hz20, hz21, hz22⟩ := info_parts info_int
    refine wpIn_region_inv (by kernel_rfl) (by kernel_rfl) (fun d a W' => ∃ t12 t13 t14 t15 t16 t17 t18 t19, a = actL (.slice ao l.length cap) (.slice ao l.length cap) (.func (.func 49) #[] #[.pointer (some ⟨w.heap.size + 2, 0, none⟩)]) w.heap.size (w.heap.size + 1) (.int .i64 (x.1 : Int)) x.2 t12 t13 t14 t15 t16 t17 t18 t19 ∧
      SInv (w.heap.size + 3) w.heap.size (w.heap.size + 1) W lv pv (pre.map (·.2)) (pre.map fun x => Value.int .i64 (x.1 : Int)) (.int .i64 (x.1 : Int)) x.2 t12 t13 t14 t15 t16 t17 t18 t19 d W')
      ?start ?step ?fin
    case start =>
      exact ⟨_, _, _, _, _, _, _, _, rfl, SInv.start _ _ _ W lv pv _ _ _ _ _ (fun j => rfl) h2 hl hp hL hP⟩
    case fin =>
      rintro d a W' ⟨t12, t13, t14, t15, t16, t17, t18, t19, rfl, hS⟩ hall
      have hF := hS.fr
      refine ⟨⟨hF.size, fun k o hk ho => ?_⟩, hI.more hR hF (hS.s3 (hall 3 (by decide))) (hS.s7 (hall 7 (by decide))) (hS.s8 (hall 8 (by decide))) (hS.s9 (hall 9 (by decide)))⟩
      rw [hF.block k (Array.getElem?_eq_some_iff.1 hk).1 ?_ ?_ (fun c fr e => by rw [hk] at e; cases e; cases ho) (fun c fr e => by rw [hk] at e; cases e; cases ho)]
      · exact hk
      · rintro rfl; rw [hL] at hk; cases hk; cases ho
      · rintro rfl; rw [hP] at hk; cases hk; cases ho
    case step =>
      rintro d d' i o a W' hord ⟨t12, t13, t14, t15, t16, t17, t18, t19, rfl, hS⟩ ho hdf hdi hdn hpre
      have hi : i < 10 := (Array.getElem?_eq_some_iff.1 ho).1
      have ord3 : d 3 = true → d 0 = true ∧ d 2 = true := fun h => ⟨hord 3 _ rfl h ⟨0, .data⟩ (by simp) rfl, hord 3 _ rfl h ⟨2, .data⟩ (by simp) rfl⟩
      have ord7 : d 7 = true → d 4 = true ∧ d 6 = true ∧ d 3 = true := fun h => ⟨hord 7 _ rfl h ⟨4, .data⟩ (by simp) rfl, hord 7 _ rfl h ⟨6, .data⟩ (by simp) rfl, hord 7 _ rfl h ⟨3, .chain⟩ (by simp) rfl⟩
      have ord8 : d 8 = true → d 3 = true ∧ d 7 = true := fun h => ⟨hord 8 _ rfl h ⟨3, .data⟩ (by simp) rfl, hord 8 _ rfl h ⟨7, .chain⟩ (by simp) rfl⟩
      have ord9 : d 9 = true → d 7 = true ∧ d 8 = true := fun h => ⟨hord 9 _ rfl h ⟨7, .data⟩ (by simp) rfl, hord 9 _ rfl h ⟨8, .chain⟩ (by simp) rfl⟩
      have fb : ∀ b : Bool, ¬ b = true → b = false := by intro b; cases b <;> simp
      have hcases : i = 0 ∨ i = 1 ∨ i = 2 ∨ i = 3 ∨ i = 4 ∨ i = 5 ∨ i = 6 ∨ i = 7 ∨ i = 8 ∨ i = 9 := by omega
      rcases hcases with rfl | rfl | rfl | rfl | rfl | rfl | rfl | rfl | rfl | rfl
      · refine wpOpIn_step rfl (fun K hK => ?_)
        rw [if_pos (by rfl)]
        have h8 : d 8 = false := fb _ fun h => by rw [(ord3 (ord8 h).1).1] at hdf; cases hdf
        exact wpIn_op (by intro c h; cases h) (run6_0 _ _ _ _ _ _ _ _ _ _ _ _ _ _ _ _ _ _ _ (hS.s8' h8)) (fun _ => trivial) (hK _ _ ⟨_, _, _, _, _, _, _, _, rfl, hS.op0 hdn hdi⟩)
      · refine wpOpIn_step rfl (fun K hK => ?_)
        rw [if_pos (by rfl)]
        exact wpIn_op (by intro c h; cases h) (run6_1 _ _ _ _ _ _ _ _ _ _ _ _ _ _ _ _ _ _) (fun _ => trivial) (hK _ _ ⟨_, _, _, _, _, _, _, _, rfl, hS.op1 hdn hdi⟩)
      · refine wpOpIn_step rfl (fun K hK => ?_)
        rw [if_pos (by rfl)]
        have h1' : t13 = .slice xo xn xc := (hS.s1 (by have := hpre ⟨1, .data⟩; cases ho; exact this (by simp) rfl)).trans hxv
        subst h1'
        refine wpIn_op (by intro c h; cases h) (run6_2 _ _ _ _ _ _ _ _ _ _ _ _ _ _ _ _ _ _ _ _) (fun _ => trivial) (hK _ _ ⟨_, _, _, _, _, _, _, _, rfl, (hS.below ((Below.refl _ _).alloc (Nat.le_refl _) _)).op2 hdn hdi ⟨_, rfl, ?_⟩⟩)
        rw [hxv]; exact World.cell?_alloc_at _ _ _ _ rfl
      · refine wpOpIn_step rfl (fun K hK => ?_)
        rw [if_pos (by rfl)]
        have p0 : d 0 = true := by have := hpre ⟨0, .data⟩; cases ho; exact this (by simp) rfl
        have p2 : d 2 = true := by have := hpre ⟨2, .data⟩; cases ho; exact this (by simp) rfl
        have h8 : d 8 = false := fb _ fun h => by rw [(ord8 h).1] at hdf; cases hdf
        obtain ⟨g, ht14, hg⟩ := hS.s2 p2
        have ht12 := hS.s0 p0
        obtain ⟨v', w', hrun, hown, hgr⟩ := op_append 33 22 i1 (.slice none 0 0) 24 Tryd.underlying33 hi1 hz10 hz11 hz12 rfl 12 14
          (actL (.slice ao l.length cap) (.slice ao l.length cap) (.func (.func 49) #[] #[.pointer (some ⟨w.heap.size + 2, 0, none⟩)]) w.heap.size (w.heap.size + 1) (.int .i64 (x.1 : Int)) x.2 t12 t13 t14 t15 t16 t17 t18 t19) W' (w.heap.size + 3) lv x.2 _ g ht12 ht14 (hS.s3' hdf) (hg hdf) (by rw [hxv]; rfl) (by simp [maxLen]; omega) (by simp; omega) hS.hbase
        exact wpIn_op (by intro c h; cases h) (hrun _ _ _) (fun _ => trivial) (hK _ _ ⟨_, _, _, _, _, _, _, _, rfl, hS.op3 hdn hdi hdf h8 hgr hown⟩)
      · refine wpOpIn_step rfl (fun K hK => ?_)
        rw [if_pos (by rfl)]
        have h9 : d 9 = false := fb _ fun h => by rw [(ord7 (ord9 h).1).1] at hdf; cases hdf
        exact wpIn_op (by intro c h; cases h) (run6_4 _ _ _ _ _ _ _ _ _ _ _ _ _ _ _ _ _ _ _ (hS.s9' h9)) (fun _ => trivial) (hK _ _ ⟨_, _, _, _, _, _, _, _, rfl, hS.op4 hdn hdi⟩)
      · refine wpOpIn_step rfl (fun K hK => ?_)
        rw [if_pos (by rfl)]
        exact wpIn_op (by intro c h; cases h) (run6_5 _ _ _ _ _ _ _ _ _ _ _ _ _ _ _ _ _ _) (fun _ => trivial) (hK _ _ ⟨_, _, _, _, _, _, _, _, rfl, hS.op5 hdn hdi⟩)
      · refine wpOpIn_step rfl (fun K hK => ?_)
        rw [if_pos (by rfl)]
        have h1' : t17 = .int .i64 (x.1 : Int) := hS.s5 (by have := hpre ⟨5, .data⟩; cases ho; exact this (by simp) rfl)
        subst h1'
        exact wpIn_op (by intro c h; cases h) (run6_6 _ _ _ _ _ _ _ _ _ _ _ _ _ _ _ _ _ _) (fun _ => trivial) (hK _ _ ⟨_, _, _, _, _, _, _, _, rfl, (hS.below ((Below.refl _ _).alloc (Nat.le_refl _) _)).op6 hdn hdi ⟨_, rfl, heap_alloc_new _ _⟩⟩)
      · refine wpOpIn_step rfl (fun K hK => ?_)
        rw [if_pos (by rfl)]
        have p4 : d 4 = true := by have := hpre ⟨4, .data⟩; cases ho; exact this (by simp) rfl
        have p6 : d 6 = true := by have := hpre ⟨6, .data⟩; cases ho; exact this (by simp) rfl
        have p3 : d 3 = true := by have := hpre ⟨3, .chain⟩; cases ho; exact this (by simp) rfl
        have h9 : d 9 = false := fb _ fun h => by rw [(ord9 h).1] at hdf; cases hdf
        obtain ⟨g, ht18, hg⟩ := hS.s6 p6
        have ht16 := hS.s4 p4
        obtain ⟨v', w', hrun, hown, hgr⟩ := op_append 44 3 i2 (.int .i64 0) 8 Tryd.underlying44 hi2 hz20 hz21 hz22 rfl 16 18
          (actL (.slice ao l.length cap) (.slice ao l.length cap) (.func (.func 49) #[] #[.pointer (some ⟨w.heap.size + 2, 0, none⟩)]) w.heap.size (w.heap.size + 1) (.int .i64 (x.1 : Int)) x.2 t12 t13 t14 t15 t16 t17 t18 t19) W' (w.heap.size + 3) pv (.int .i64 (x.1 : Int)) _ g ht16 ht18 (hS.s7' hdf) (by rw [cell_of_row W' g 0 _ _ _ (hg hdf)]; rfl) rfl (by simp [maxLen]; omega) (by simp; omega) hS.hbase
        exact wpIn_op (by intro c h; cases h) (hrun _ _ _) (fun _ => trivial) (hK _ _ ⟨_, _, _, _, _, _, _, _, rfl, hS.op7 hdn hdi hdf h9 p3 hgr hown⟩)
      · refine wpOpIn_step rfl (fun K hK => ?_)
        rw [if_pos (by rfl)]
        have p3 : d 3 = true := by have := hpre ⟨3, .data⟩; cases ho; exact this (by simp) rfl
        have p7 : d 7 = true := by have := hpre ⟨7, .chain⟩; cases ho; exact this (by simp) rfl
        obtain ⟨so, sn, sc, hs15⟩ : ∃ so sn sc, t15 = .slice so sn sc := by
          rcases (hS.s3 p3).2 with ⟨h, _⟩ | ⟨g, cap, cur, h, _⟩
          · exact ⟨_, _, _, h⟩
          · exact ⟨_, _, _, h⟩
        subst hs15
        exact wpIn_op_skip (by intro c h; cases h) (run6_8 _ _ _ _ _ _ _ _ _ _ _ _ _ _ _ _ _ _ _ _ _ (hS.s8' hdf)) (fun _ => trivial) (hK _ _ ⟨_, _, _, _, _, _, _, _, rfl, hS.op8 (by omega) hdn hdi hdf p3 p7⟩)
      · refine wpOpIn_step rfl (fun K hK => ?_)
        rw [if_pos (by rfl)]
        have p7 : d 7 = true := by have := hpre ⟨7, .data⟩; cases ho; exact this (by simp) rfl
        have p8 : d 8 = true := by have := hpre ⟨8, .chain⟩; cases ho; exact this (by simp) rfl
        obtain ⟨so, sn, sc, hs19⟩ : ∃ so sn sc, t19 = .slice so sn sc := by
          rcases (hS.s7 p7).2 with ⟨h, _⟩ | ⟨g, cap, cur, h, _⟩
          · exact ⟨_, _, _, h⟩
          · exact ⟨_, _, _, h⟩
        subst hs19
        exact wpIn_op_skip (by intro c h; cases h) (run6_9 _ _ _ _ _ _ _ _ _ _ _ _ _ _ _ _ _ _ _ _ _ (hS.s9' hdf)) (fun _ => trivial) (hK _ _ ⟨_, _, _, _, _, _, _, _, rfl, hS.op9 (by omega) hdn hdi hdf (ord8 p8).1 p7 p8⟩)
  case done =>
    intro D xs W hS hI hK hD
    obtain ⟨h1, h2, h3, h4, h5, lv, pv, hL, hP, hl, hp⟩ := id hI
    have hcL : W.cell? ⟨w.heap.size, 0, none⟩ = some lv := by rw [cell_of_row W _ 0 _ _ _ hL]; rfl
    have hcP : W.cell? ⟨w.heap.size + 1, 0, none⟩ = some pv := by rw [cell_of_row W _ 0 _ _ _ hP]; rfl
    gi_wp2
    refine wpIn_wide.2 ?_
    go_quiet (fail)
    gi_wp2
    have hK2 : (W.drewN nq).heap[D]? = some (.deferred (some [])) := hK
    have hDn : w.heap.size + 3 ≤ D := by simp at hD; omega
    refine ⟨by simp, .inl ⟨_, _, rfl, run_takeDeferred hK2, ?_⟩⟩
    have hkc : KeepsCells W ((W.drewN nq).putObj D (.deferred none)) := KeepsCells.put (W := W.drewN nq) hK2 rfl _
    have hbl : Below w.heap.size W ((W.drewN nq).putObj D (.deferred none)) := (bdN _ W nq).grown (grownBy_putObj' _ D _) (by have := h1.size; exact this) (fun k e => by cases e; omega)
    have hkk := hI.keeps hkc hbl
    obtain ⟨k1, k2, k3, k4, k5, lv', pv', kL, kP, kl, kp⟩ := hkk
    have el : lv' = lv := by
      have := hkc _ _ _ _ hL
      rw [kL] at this; simpa using this
    have ep : pv' = pv := by
      have := hkc _ _ _ _ hP
      rw [kP] at this; simpa using this
    subst el ep
    have lower : ∀ {e : TypeId} {v : Value} {n : Nat} {ys : List Value} {X : World}, X.ownsRow (w.heap.size + 3) e 1 v n ys → X.ownsRow w.heap.size e 1 v n ys := by
      rintro e v n ys X ⟨a1, a2⟩
      refine ⟨a1, ?_⟩
      rcases a2 with a2 | ⟨g, cap', cur, hv', hg, rest⟩
      · exact .inl a2
      · exact .inr ⟨g, cap', cur, hv', by omega, rest⟩
    exact ⟨_, results_tmp2 rfl _ _ _, lv', pv', xs, rfl, k1, hS, fun x hx => (k5 x hx).mono (by omega), lower kl, lower kp⟩
  case stop => exact fun D c pre W _ h => h.elim

end Go.Proofs.YtmekpmboghmfpaaDoor
