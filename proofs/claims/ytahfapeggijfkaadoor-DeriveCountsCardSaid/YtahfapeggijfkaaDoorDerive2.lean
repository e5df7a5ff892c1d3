/- Contracts: ways, Input, Text on both sides (by program: wip/tools/gen_derive2.py). -/
import Derived.Test.YtahfapeggijfkaaDoorDerive1
import Derived.Test.YtahfapeggijfkaaDoorFracT
import Derived.Test.YtahfapeggijfkaaDoorFlow2
import Derived.MapKept
import Derived.Laws.EntriesVeiled
namespace Go.Proofs.YtahfapeggijfkaaDoor
open Go.RowKit

/-! A map whose entries are known one by one. -/
theorem run_put {w : World} {b : Nat} {es : Array MapEntry} {clock : Nat} (hb : w.heap[b]? = some (.map es clock)) (k : Int) (v : Value) (hn : Instr.findNow (.int .i64) (.int .i64 k) es.toList 0 = some none) :
    (Instr.mapUpdate 57 (.map (some b)) (.int .i64 k) v).run Tryd.prog w = .ok () { w with heap := w.heap.setIfInBounds b (.map (es.push { key := .int .i64 k, val := v, born := clock }) (clock + 1)) } := by
  simp only [Instr.mapUpdate, Sem.run_bind, run_underlying Tryd.underlying57, Result.andThen, MapKept.run_getObj_map hb, MapKept.run_checkKey Tryd.underlying3 (show MapKept.IsKey (.int .i64) (.int .i64 k) from rfl), MapKept.run_findKey Tryd.underlying3 hn, MapKept.run_setObj_map _ hb]
theorem run_got {w : World} {b : Nat} {es : Array MapEntry} {clock : Nat} (hb : w.heap[b]? = some (.map es clock)) (k : Int) (i : Nat) (v : Value) (hn : Instr.findNow (.int .i64) (.int .i64 k) es.toList 0 = some (some (i, v))) :
    (Instr.lookup 57 (.map (some b)) (.int .i64 k) true).run Tryd.prog w = .ok (.tuple #[v, .bool true]) w := by
  simp [Instr.lookup, Sem.run_bind, run_underlying Tryd.underlying57, Result.andThen, MapKept.run_getObj_map hb, MapKept.run_checkKey Tryd.underlying3 (show MapKept.IsKey (.int .i64) (.int .i64 k) from rfl), MapKept.run_findKey Tryd.underlying3 hn]
theorem zero_way (w : World) : (zeroValue 55).run Tryd.prog w = .ok (.agg #[.nilFunc, .nilFunc]) w := by kernel_rfl
theorem run_not {w : World} {b : Nat} {es : Array MapEntry} {clock : Nat} (hb : w.heap[b]? = some (.map es clock)) (k : Int) (hn : Instr.findNow (.int .i64) (.int .i64 k) es.toList 0 = some none) :
    (Instr.lookup 57 (.map (some b)) (.int .i64 k) true).run Tryd.prog w = .ok (.tuple #[.agg #[.nilFunc, .nilFunc], .bool false]) w := by
  simp [Instr.lookup, Sem.run_bind, run_underlying Tryd.underlying57, Result.andThen, MapKept.run_getObj_map hb, MapKept.run_checkKey Tryd.underlying3 (show MapKept.IsKey (.int .i64) (.int .i64 k) from rfl), MapKept.run_findKey Tryd.underlying3 hn, zero_way]
theorem wpList_insert_raw {w : World} {ops : Array Oper} {rest : List Oper} {o : Oper} {a : Act} {Q : Exit → Act → World → Prop}
    (hg : o.guard = none) (m x v : Operand) (hop : o.op = Op.insert 57 m x v) (b : Nat) (es : Array MapEntry) (clock : Nat) (k : Int) (val : Value)
    (hm : a.eval m = .map (some b)) (hx : a.eval x = .int .i64 k) (hv : a.eval v = val) (hb : w.heap[b]? = some (.map es clock)) (hn : Instr.findNow (.int .i64) (.int .i64 k) es.toList 0 = some none)
    (hK : ∀ w', w'.heap[b]? = some (.map (es.push { key := .int .i64 k, val := val, born := clock }) (clock + 1)) → w.grownBy w' (some b) → wpList Tryd.prog ops Q rest (a.put o.dst undef) w') :
    wpList Tryd.prog ops Q (o :: rest) a w := by
  refine wpList_plain hg fun K' hK' => ?_
  unfold Oper.wp
  simp [execOp, hop, hm, hx, hv, run_put hb k val hn, Result.andThen]
  refine hK' _ _ (hK _ (MapKept.heap_set hb).1 ⟨rfl, rfl, rfl, by simp, fun i _ hi => (MapKept.heap_set hb).2 i (fun e => hi (by rw [e]))⟩)

theorem meaning_any (word : ByteArray) (w : World) : Calls Tryd.prog 44 #[.string word] w fun e w' => e = .returned (.func (.func 50) #[] #[.pointer (some ⟨w.heap.size, 0, none⟩)]) ∧ w.alloc (.cells #[.string word] 9) = w' := by
  go_enter Tryd.func44, Tryd.ntmps44
  go_wp2
  go_ret
  exact ⟨rfl, rfl⟩
abbrev meanW : ByteArray := ⟨#[109, 101, 97, 110]⟩
abbrev secW : ByteArray := ⟨#[115, 101, 99, 111, 110, 100]⟩
/-- the four kinds' ways -/
def way1 (p : Nat) : Value := .agg #[.func (.func 43) #[] #[], .func (.func 50) #[] #[.pointer (some ⟨p, 0, none⟩)]]
def way2 : Value := .agg #[.func (.func 45) #[] #[], .func (.func 46) #[] #[]]
def way3 (p : Nat) : Value := .agg #[.func (.func 47) #[] #[], .func (.func 50) #[] #[.pointer (some ⟨p, 0, none⟩)]]
def way4 : Value := .agg #[.func (.func 43) #[] #[], .func (.func 48) #[] #[]]
def wayE (p q : Nat) : Array MapEntry := #[{ key := .int .i64 1, val := way1 p, born := 0 }, { key := .int .i64 2, val := way2, born := 1 }, { key := .int .i64 3, val := way3 q, born := 2 }, { key := .int .i64 4, val := way4, born := 3 }]
/-- the ways' map lies in b -/
def WaysAt (w : World) (b p q : Nat) : Prop := w.heap[b]? = some (.map (wayE p q) 4) ∧ w.heap[p]? = some (.cells #[.string meanW] 9 (0, 0)) ∧ w.heap[q]? = some (.cells #[.string secW] 9 (0, 0))

set_option maxRecDepth 100000 in
set_option maxHeartbeats 1000000 in
theorem ways_any (w : World) : Calls Tryd.prog 28 #[] w fun e w' => ∃ b p q, e = .returned (.map (some b)) ∧ WaysAt w' b p q ∧ Below w.heap.size w w' := by
  have k0 : (w.alloc (.map #[] 0)).heap[w.heap.size]? = some (.map #[] 0) := heap_alloc_new _ _
  have L0 := Lib.hid (bel_alloc (B := w.heap.size) (o := .map #[] 0) (Below.refl w.heap.size w) (Nat.le_refl _))
  have z0 : (w.alloc (.map #[] 0)).heap.size = w.heap.size + 1 := by simp
  have Z0 := Lib.hid z0
  clear z0
  have K0 := Lib.hid k0
  clear k0
  have hmm := @run_makeMap Tryd.prog
  go_enter Tryd.func28, Tryd.ntmps28
  go_wp2_with (fail)
  refine (meaning_any meanW _).mono ?_
  rintro e w1 ⟨rfl, hw1⟩
  have K1 : Hid (w1.heap[w.heap.size]? = some (.map #[] 0)) := by rw [← hw1]; exact (Below.heap_alloc _ _ _ (by simp)).trans K0.out
  have P1 : Hid (w1.heap[w.heap.size + 1]? = some (.cells #[.string meanW] 9 (0, 0))) := by rw [← hw1]; have := heap_alloc_new (w.alloc (.map #[] 0)) (.cells #[.string meanW] 9); rw [Z0.out] at this; exact this
  have L1 : Hid (Below w.heap.size w w1) := by rw [← hw1]; exact L0.out.alloc L0.out.size _
  have Z1 : Hid (w1.heap.size = w.heap.size + 1 + 1) := by rw [← hw1]; show _ = _; simp
  clear hw1
  simp only [Z0.out]
  go_wp2_with (refine wpList_insert_raw rfl _ _ _ rfl w.heap.size #[] 0 1 (way1 (w.heap.size + 1)) rfl rfl rfl K1.out rfl ?_)
  intro w2 hk2 hg2
  have K2 := Lib.hid hk2
  have P2 := Lib.hid ((hg2.block _ (by have := Z1.out; omega) (by simp)).trans P1.out)
  have L2 := Lib.hid (L1.out.grown hg2 L1.out.size (fun k e => by cases e; exact Nat.le_refl _))
  have Z2 : Hid (w.heap.size + 1 + 1 ≤ w2.heap.size) := by have := hg2.size; have := Z1.out; show _ ≤ _; omega
  clear hk2 hg2
  go_wp2_with (refine wpList_insert_raw rfl _ _ _ rfl w.heap.size _ 1 2 way2 rfl rfl rfl K2.out rfl ?_)
  intro w3 hk3 hg3
  have K3 := Lib.hid hk3
  have P3 := Lib.hid ((hg3.block _ (by have := Z2.out; omega) (by simp)).trans P2.out)
  have L3 := Lib.hid (L2.out.grown hg3 L2.out.size (fun k e => by cases e; exact Nat.le_refl _))
  have Z3 : Hid (w.heap.size + 1 + 1 ≤ w3.heap.size) := by have := hg3.size; have := Z2.out; show _ ≤ _; omega
  clear hk3 hg3
  go_wp2_with (fail)
  refine (meaning_any secW _).mono ?_
  rintro e w4 ⟨rfl, hw4⟩
  have K4 := Lib.hid ((show w4.heap[w.heap.size]? = _ by rw [← hw4]; exact Below.heap_alloc _ _ _ (by have := Z3.out; omega)).trans K3.out)
  have P4 := Lib.hid ((show w4.heap[w.heap.size + 1]? = _ by rw [← hw4]; exact Below.heap_alloc _ _ _ (by have := Z3.out; omega)).trans P3.out)
  have Q4 : Hid (w4.heap[w3.heap.size]? = some (.cells #[.string secW] 9 (0, 0))) := by rw [← hw4]; exact heap_alloc_new _ _
  have L4 : Hid (Below w.heap.size w w4) := by rw [← hw4]; exact L3.out.alloc L3.out.size _
  have Z4 : Hid (w4.heap.size = w3.heap.size + 1) := by rw [← hw4]; show _ = _; simp
  clear hw4
  go_wp2_with (refine wpList_insert_raw rfl _ _ _ rfl w.heap.size _ 2 3 (way3 w3.heap.size) rfl rfl rfl K4.out rfl ?_)
  intro w5 hk5 hg5
  have K5 := Lib.hid hk5
  have P5 := Lib.hid ((hg5.block _ (by have := Z4.out; have := Z3.out; omega) (by simp)).trans P4.out)
  have Q5 := Lib.hid ((hg5.block _ (by have := Z4.out; omega) (by simp; have := Z3.out; omega)).trans Q4.out)
  have L5 := Lib.hid (L4.out.grown hg5 L4.out.size (fun k e => by cases e; exact Nat.le_refl _))
  have Z5 : Hid (w3.heap.size + 1 ≤ w5.heap.size) := by have := hg5.size; have := Z4.out; show _ ≤ _; omega
  clear hk5 hg5
  go_wp2_with (refine wpList_insert_raw rfl _ _ _ rfl w.heap.size _ 3 4 way4 rfl rfl rfl K5.out rfl ?_)
  intro w6 hk6 hg6
  have P6 := Lib.hid ((hg6.block _ (by have := Z5.out; have := Z3.out; omega) (by simp)).trans P5.out)
  have Q6 := Lib.hid ((hg6.block _ (by have := Z5.out; omega) (by simp; have := Z3.out; omega)).trans Q5.out)
  have L6 := Lib.hid (L5.out.grown hg6 L5.out.size (fun k e => by cases e; exact Nat.le_refl _))
  have K6 := Lib.hid hk6
  clear hk6 hg6
  go_wp2
  go_ret
  exact ⟨_, _, _, rfl, ⟨K6.out, P6.out, Q6.out⟩, L6.out⟩
theorem find1 (p q : Nat) : Instr.findNow (.int .i64) (.int .i64 1) (wayE p q).toList 0 = some (some (0, way1 p)) := rfl
theorem find2 (p q : Nat) : Instr.findNow (.int .i64) (.int .i64 2) (wayE p q).toList 0 = some (some (1, way2)) := rfl
theorem find3 (p q : Nat) : Instr.findNow (.int .i64) (.int .i64 3) (wayE p q).toList 0 = some (some (2, way3 q)) := rfl
theorem find4 (p q : Nat) : Instr.findNow (.int .i64) (.int .i64 4) (wayE p q).toList 0 = some (some (3, way4)) := rfl
theorem find0 (p q : Nat) (k : Int) (h1 : k ≠ 1) (h2 : k ≠ 2) (h3 : k ≠ 3) (h4 : k ≠ 4) : Instr.findNow (.int .i64) (.int .i64 k) (wayE p q).toList 0 = some none := by
  have b1 : (k == 1) = false := by rw [beq_eq_false_iff_ne]; exact h1
  have b2 : (k == 2) = false := by rw [beq_eq_false_iff_ne]; exact h2
  have b3 : (k == 3) = false := by rw [beq_eq_false_iff_ne]; exact h3
  have b4 : (k == 4) = false := by rw [beq_eq_false_iff_ne]; exact h4
  simp [wayE, Instr.findNow, Instr.sameNow, b1, b2, b3, b4]

/-- Input -/
def inputF (kind x s : Int) : Int × Int := if kind < 1 ∨ 4 < kind then (0, 46) else if rsclB kind s then (if kind = 2 then unitF x s else if kind = 3 then squareF x s else timesF x s) else (0, 47)

set_option maxRecDepth 100000 in
set_option maxHeartbeats 1000000 in
theorem input_any (kind x s : Int) (w : World) : Calls Tryd.prog 12 #[.int .i64 kind, .int .i64 x, .int .i64 s] w fun e w' => e = .returned (numV (inputF kind x s)) ∧ Below w.heap.size w w' := by
  have c1 : ∀ W, _ := fun W => scaled_any s W
  have cases4 : kind = 1 ∨ kind = 2 ∨ kind = 3 ∨ kind = 4 ∨ (kind < 1 ∨ 4 < kind) := by omega
  rcases cases4 with rfl | rfl | rfl | rfl | h
  · cases h1 : sclB s
    · have hF : inputF 1 x s = (0, 47) := by unfold inputF rsclB; rw [if_neg (by omega), h1]; rfl
      rw [hF]
      rw [h1] at c1
      clear hF h1
      go_enter Tryd.func12, Tryd.ntmps12
      go_wp2_with (fail)
      refine (ways_any _).mono ?_
      rintro e w1 ⟨b, p, q, rfl, hW, hB⟩
      have hlk := run_got hW.1 1 _ _ (find1 p q)
      obtain ⟨HM, HP, HQ⟩ := hW
      have HPP := Lib.hid HP
      have HQQ := Lib.hid HQ
      have L := Lib.hid hB
      clear HM HP HQ hB
      simp only [way1] at hlk
      go_wp2_with (fail)
      refine (c1 _).mono ?_
      rintro e w2 ⟨rfl, rfl⟩
      go_wp2
      go_ret2
      exact ⟨rfl, bel_alloc L.out L.out.size⟩
    · have hF : inputF 1 x s = timesF x s := by unfold inputF rsclB; rw [if_neg (by omega), h1]; rfl
      rw [hF]
      rw [h1] at c1
      obtain ⟨s1, s2⟩ := sclB_of h1
      have c2 : ∀ W, _ := fun W => times_any x s W s1 s2
      generalize timesF x s = T at *
      unfold numV at *
      clear hF h1
      go_enter Tryd.func12, Tryd.ntmps12
      go_wp2_with (fail)
      refine (ways_any _).mono ?_
      rintro e w1 ⟨b, p, q, rfl, hW, hB⟩
      have hlk := run_got hW.1 1 _ _ (find1 p q)
      obtain ⟨HM, HP, HQ⟩ := hW
      have HPP := Lib.hid HP
      have HQQ := Lib.hid HQ
      have L := Lib.hid hB
      clear HM HP HQ hB
      simp only [way1] at hlk
      go_wp2_with (fail)
      refine (c1 _).mono ?_
      rintro e w2 ⟨rfl, rfl⟩
      go_wp2_with (fail)
      refine (c2 _).mono ?_
      rintro e w2 ⟨rfl, rfl⟩
      go_wp2
      go_ret2
      exact ⟨rfl, bel_alloc L.out L.out.size⟩
  · cases h1 : sclB s
    · have hF : inputF 2 x s = (0, 47) := by unfold inputF rsclB; rw [if_neg (by omega), h1]; rfl
      rw [hF]
      rw [h1] at c1
      clear hF h1
      go_enter Tryd.func12, Tryd.ntmps12
      go_wp2_with (fail)
      refine (ways_any _).mono ?_
      rintro e w1 ⟨b, p, q, rfl, hW, hB⟩
      have hlk := run_got hW.1 2 _ _ (find2 p q)
      obtain ⟨HM, HP, HQ⟩ := hW
      have HPP := Lib.hid HP
      have HQQ := Lib.hid HQ
      have L := Lib.hid hB
      clear HM HP HQ hB
      simp only [way2] at hlk
      go_wp2_with (fail)
      refine (c1 _).mono ?_
      rintro e w2 ⟨rfl, rfl⟩
      go_wp2
      go_ret2
      exact ⟨rfl, bel_alloc L.out L.out.size⟩
    · have hF : inputF 2 x s = unitF x s := by unfold inputF rsclB; rw [if_neg (by omega), h1]; rfl
      rw [hF]
      rw [h1] at c1
      obtain ⟨s1, s2⟩ := sclB_of h1
      have c2 : ∀ W, _ := fun W => unit_any x s W s1 s2
      generalize unitF x s = T at *
      unfold numV at *
      clear hF h1
      go_enter Tryd.func12, Tryd.ntmps12
      go_wp2_with (fail)
      refine (ways_any _).mono ?_
      rintro e w1 ⟨b, p, q, rfl, hW, hB⟩
      have hlk := run_got hW.1 2 _ _ (find2 p q)
      obtain ⟨HM, HP, HQ⟩ := hW
      have HPP := Lib.hid HP
      have HQQ := Lib.hid HQ
      have L := Lib.hid hB
      clear HM HP HQ hB
      simp only [way2] at hlk
      go_wp2_with (fail)
      refine (c1 _).mono ?_
      rintro e w2 ⟨rfl, rfl⟩
      go_wp2_with (fail)
      refine (c2 _).mono ?_
      rintro e w2 ⟨rfl, rfl⟩
      go_wp2
      go_ret2
      exact ⟨rfl, bel_alloc L.out L.out.size⟩
  · cases h1 : sclB s
    · have hF : inputF 3 x s = (0, 47) := by unfold inputF rsclB; rw [if_neg (by omega), h1]; rfl
      rw [hF]
      rw [h1] at c1
      clear hF h1
      go_enter Tryd.func12, Tryd.ntmps12
      go_wp2_with (fail)
      refine (ways_any _).mono ?_
      rintro e w1 ⟨b, p, q, rfl, hW, hB⟩
      have hlk := run_got hW.1 3 _ _ (find3 p q)
      obtain ⟨HM, HP, HQ⟩ := hW
      have HPP := Lib.hid HP
      have HQQ := Lib.hid HQ
      have L := Lib.hid hB
      clear HM HP HQ hB
      simp only [way3] at hlk
      go_wp2_with (fail)
      refine (c1 _).mono ?_
      rintro e w2 ⟨rfl, rfl⟩
      go_wp2
      go_ret2
      exact ⟨rfl, bel_alloc L.out L.out.size⟩
    · have hF : inputF 3 x s = squareF x s := by unfold inputF rsclB; rw [if_neg (by omega), h1]; rfl
      rw [hF]
      rw [h1] at c1
      obtain ⟨s1, s2⟩ := sclB_of h1
      have c2 : ∀ W, _ := fun W => square_any x s W s1 s2
      generalize squareF x s = T at *
      unfold numV at *
      clear hF h1
      go_enter Tryd.func12, Tryd.ntmps12
      go_wp2_with (fail)
      refine (ways_any _).mono ?_
      rintro e w1 ⟨b, p, q, rfl, hW, hB⟩
      have hlk := run_got hW.1 3 _ _ (find3 p q)
      obtain ⟨HM, HP, HQ⟩ := hW
      have HPP := Lib.hid HP
      have HQQ := Lib.hid HQ
      have L := Lib.hid hB
      clear HM HP HQ hB
      simp only [way3] at hlk
      go_wp2_with (fail)
      refine (c1 _).mono ?_
      rintro e w2 ⟨rfl, rfl⟩
      go_wp2_with (fail)
      refine (c2 _).mono ?_
      rintro e w2 ⟨rfl, rfl⟩
      go_wp2
      go_ret2
      exact ⟨rfl, bel_alloc L.out L.out.size⟩
  · cases h1 : sclB s
    · have hF : inputF 4 x s = (0, 47) := by unfold inputF rsclB; rw [if_neg (by omega), h1]; rfl
      rw [hF]
      rw [h1] at c1
      clear hF h1
      go_enter Tryd.func12, Tryd.ntmps12
      go_wp2_with (fail)
      refine (ways_any _).mono ?_
      rintro e w1 ⟨b, p, q, rfl, hW, hB⟩
      have hlk := run_got hW.1 4 _ _ (find4 p q)
      obtain ⟨HM, HP, HQ⟩ := hW
      have HPP := Lib.hid HP
      have HQQ := Lib.hid HQ
      have L := Lib.hid hB
      clear HM HP HQ hB
      simp only [way4] at hlk
      go_wp2_with (fail)
      refine (c1 _).mono ?_
      rintro e w2 ⟨rfl, rfl⟩
      go_wp2
      go_ret2
      exact ⟨rfl, bel_alloc L.out L.out.size⟩
    · rw [h1] at c1
      obtain ⟨s1, s2⟩ := sclB_of h1
      by_cases h5 : s = 1
      · subst h5
        have hF : inputF 4 x 1 = timesF x 1 := by unfold inputF rsclB; rw [if_neg (by omega), h1]; rfl
        rw [hF]
        have c2 : ∀ W, _ := fun W => times_any x 1 W s1 s2
        generalize timesF x 1 = T at *
        unfold numV at *
        clear hF h1
        go_enter Tryd.func12, Tryd.ntmps12
        go_wp2_with (fail)
        refine (ways_any _).mono ?_
        rintro e w1 ⟨b, p, q, rfl, hW, hB⟩
        have hlk := run_got hW.1 4 _ _ (find4 p q)
        obtain ⟨HM, HP, HQ⟩ := hW
        have HPP := Lib.hid HP
        have HQQ := Lib.hid HQ
        have L := Lib.hid hB
        clear HM HP HQ hB
        simp only [way4] at hlk
        go_wp2_with (fail)
        refine (c1 _).mono ?_
        rintro e w2 ⟨rfl, rfl⟩
        go_wp2_with (fail)
        refine (c2 _).mono ?_
        rintro e w2 ⟨rfl, rfl⟩
        go_wp2
        go_ret2
        exact ⟨rfl, bel_alloc L.out L.out.size⟩
      · have h6 : (s != 1) = true := by rw [bne_iff_ne]; exact h5
        have h7 : (s == 1) = false := by rw [beq_eq_false_iff_ne]; exact h5
        have hF : inputF 4 x s = (0, 47) := by unfold inputF rsclB; rw [if_neg (by omega), h1, h7]; rfl
        rw [hF]
        clear hF h1 h5 h7
        go_enter Tryd.func12, Tryd.ntmps12
        go_wp2_with (fail)
        refine (ways_any _).mono ?_
        rintro e w1 ⟨b, p, q, rfl, hW, hB⟩
        have hlk := run_got hW.1 4 _ _ (find4 p q)
        obtain ⟨HM, HP, HQ⟩ := hW
        have HPP := Lib.hid HP
        have HQQ := Lib.hid HQ
        have L := Lib.hid hB
        clear HM HP HQ hB
        simp only [way4] at hlk
        go_wp2_with (fail)
        refine (c1 _).mono ?_
        rintro e w2 ⟨rfl, rfl⟩
        go_wp2
        go_ret2
        exact ⟨rfl, bel_alloc L.out L.out.size⟩
  · have hF : inputF kind x s = (0, 46) := by unfold inputF; rw [if_pos h]
    rw [hF]
    have e1 : kind ≠ 1 := by omega
    have e2 : kind ≠ 2 := by omega
    have e3 : kind ≠ 3 := by omega
    have e4 : kind ≠ 4 := by omega
    have HE := Lib.hid (And.intro e1 (And.intro e2 (And.intro e3 e4)))
    clear hF h e1 e2 e3 e4
    go_enter Tryd.func12, Tryd.ntmps12
    go_wp2_with (fail)
    refine (ways_any _).mono ?_
    rintro e w1 ⟨b, p, q, rfl, hW, hB⟩
    have hlk := run_not hW.1 kind (find0 p q kind HE.out.1 HE.out.2.1 HE.out.2.2.1 HE.out.2.2.2)
    obtain ⟨HM, HP, HQ⟩ := hW
    have HPP := Lib.hid HP
    have HQQ := Lib.hid HQ
    have L := Lib.hid hB
    clear HM HP HQ hB
    go_wp2
    go_ret2
    exact ⟨rfl, bel_alloc L.out L.out.size⟩

end Go.Proofs.YtahfapeggijfkaaDoor
