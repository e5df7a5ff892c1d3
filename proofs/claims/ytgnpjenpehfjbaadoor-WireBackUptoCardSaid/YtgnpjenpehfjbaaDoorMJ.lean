/- Wire: the document's ext (by program: wip/tools/gen_wire24.py).
Wire: an item's fields (by program: wip/tools/gen_wire22.py).
Wire: Encode (by program: wip/tools/gen_wire22.py). -/
import Derived.Test.YtgnpjenpehfjbaaDoorMH
import Derived.Test.YtgnpjenpehfjbaaDoorMB
import Derived.Test.YtgnpjenpehfjbaaDoorMC
import Derived.Test.YtgnpjenpehfjbaaDoorMI
set_option linter.unusedSimpArgs false
set_option linter.unusedVariables false
namespace Go.Proofs.YtgnpjenpehfjbaaDoor
open Go.RowKit

/-- what holds while a region runs that hands bytes from call to call: each call's answer is the region's own -/
def ChainJ (B : Nat) (w0 : World) (steps : List (Nat × List UInt8)) (last lastc : Nat) (d : Nat → Bool) (vs : Nat → Value) (W : World) : Prop :=
  Below w0.heap.size w0 W ∧ (∀ k l, steps.lookup k = some l → d k = true → Own W B (vs k) l ∧ d 0 = true) ∧ (d last = true → d lastc = true ∧ vs last = vs lastc)
theorem ChainJ.start {w0 : World} {B : Nat} {steps : List (Nat × List UInt8)} {last lastc : Nat} (vs : Nat → Value) : ChainJ B w0 steps last lastc (fun _ => false) vs w0.drew :=
  ⟨(Below.refl _ _).drew, (fun k l _ h => by cases h), (fun h => by cases h)⟩
theorem ChainJ.own {B : Nat} {w0 : World} {steps : List (Nat × List UInt8)} {last lastc : Nat} {d : Nat → Bool} {vs : Nat → Value} {W : World} (h : ChainJ B w0 steps last lastc d vs W) (k : Nat) (l : List UInt8) (hm : steps.lookup k = some l) (hd : d k = true) : Own W B (vs k) l ∧ d 0 = true := h.2.1 k l hm hd
theorem upd0 {d : Nat → Bool} {i j : Nat} (h : d j = true) : updC d i j = true := by unfold updC; split <;> simp [h]
theorem ChainJ.yield {B : Nat} {w0 : World} {steps : List (Nat × List UInt8)} {last lastc : Nat} {d : Nat → Bool} {vs : Nat → Value} {W : World} {i : Nat} {v : Value} (h : ChainJ B w0 steps last lastc d vs W) (hi : (steps.lookup i).isNone = true) (hl : last ≠ i) (hc : lastc ≠ i) : ChainJ B w0 steps last lastc (updC d i) (updW vs i v) W := by
  refine ⟨h.1, fun k l hs hd => ?_, fun hd => ?_⟩
  · have hne : k ≠ i := by rintro rfl; rw [hs] at hi; cases hi
    unfold updC at hd
    rw [if_neg hne] at hd
    unfold updW
    rw [if_neg hne]
    exact ⟨(h.2.1 k l hs hd).1, upd0 (h.2.1 k l hs hd).2⟩
  · unfold updC at hd
    rw [if_neg hl] at hd
    unfold updW
    rw [if_neg hl, if_neg hc]
    exact ⟨upd0 (h.2.2 hd).1, (h.2.2 hd).2⟩
theorem ChainJ.call {B : Nat} {w0 : World} {steps : List (Nat × List UInt8)} {last lastc : Nat} {d : Nat → Bool} {vs : Nat → Value} {W W' : World} {v : Value} (h : ChainJ B w0 steps last lastc d vs W) (i : Nat) (l : List UInt8) (hm : steps.lookup i = some l) (hl : last ≠ i) (hb : Below W.heap.size W W') (ho : Own W' B v l) (h0 : d 0 = true) (hdi : d i = false) : ChainJ B w0 steps last lastc (updC d i) (updW vs i v) W' := by
  refine ⟨h.1.trans (hb.mono h.1.size), fun k l' hs hd => ?_, fun hd => ?_⟩
  · by_cases e : k = i
    · subst e
      rw [hm] at hs
      cases hs
      unfold updW
      rw [if_pos rfl]
      exact ⟨ho, upd0 h0⟩
    · unfold updC at hd
      rw [if_neg e] at hd
      unfold updW
      rw [if_neg e]
      exact ⟨(h.2.1 k l' hs hd).1.below hb, upd0 h0⟩
  · unfold updC at hd
    rw [if_neg hl] at hd
    obtain ⟨h1, h2⟩ := h.2.2 hd
    have hne : lastc ≠ i := by rintro rfl; rw [hdi] at h1; cases h1
    unfold updW
    rw [if_neg hl, if_neg hne]
    exact ⟨upd0 h1, h2⟩
theorem ChainJ.last {B : Nat} {w0 : World} {steps : List (Nat × List UInt8)} {last lastc : Nat} {d : Nat → Bool} {vs : Nat → Value} {W : World} (h : ChainJ B w0 steps last lastc d vs W) (hi : (steps.lookup last).isNone = true) (hc : lastc ≠ last) (hd : d lastc = true) : ChainJ B w0 steps last lastc (updC d last) (updW vs last (vs lastc)) W := by
  refine ⟨h.1, fun k l hs hd => ?_, fun _ => ⟨upd0 hd, ?_⟩⟩
  · have hne : k ≠ last := by rintro rfl; rw [hs] at hi; cases hi
    unfold updC at hd
    rw [if_neg hne] at hd
    unfold updW
    rw [if_neg hne]
    exact ⟨(h.2.1 k l hs hd).1, upd0 (h.2.1 k l hs hd).2⟩
  · unfold updW
    rw [if_pos rfl, if_neg hc]
theorem ChainJ.nolast {B : Nat} {w0 : World} {steps : List (Nat × List UInt8)} {last lastc : Nat} {d : Nat → Bool} {vs : Nat → Value} {W : World} (h : ChainJ B w0 steps last lastc d vs W) (l : List UInt8) (hm : steps.lookup lastc = some l) (h0 : d 0 = false) : d last = false := by
  cases hl : d last with
  | false => rfl
  | true =>
    have := (h.2.1 lastc l hm (h.2.2 hl).1).2
    rw [h0] at this
    cases this

/-- a number as 64 bits -/
def numW (x : Int) : Nat := (x % 18446744073709551616).toNat
theorem numW_lt (x : Int) : numW x < 18446744073709551616 := by unfold numW; omega
theorem numW_wrap (x : Int) : IntKind.u64.wrap x = (numW x : Int) := by rw [IntKind.wrap_u64]; unfold numW; omega
theorem numW_mod (x : Int) : x % 18446744073709551616 = (numW x : Int) := by unfold numW; omega
theorem numW_nn {x : Int} (h : 0 ≤ x) (h1 : x < 18446744073709551616) : numW x = x.toNat := by unfold numW; omega
def extR (e : Xt) : List UInt8 := vint (flagN e.has) ++ (vint (zig e.val) ++ (vint (numW e.org) ++ vint (numW e.age)))
theorem num_len (x : Int) : (vint (numW x)).length ≤ 10 := (vint_len _ (numW_lt x)).2
theorem zig_len {y : Int} (h0 : -9223372036854775808 ≤ y) (h1 : y < 9223372036854775808) : (vint (zig y)).length ≤ 10 := (vint_len _ (zig_lt y h0 h1)).2
theorem flag_len (b : Bool) : (vint (flagN b)).length ≤ 10 := by cases b <;> decide

set_option maxRecDepth 100000 in
set_option maxHeartbeats 4000000 in
theorem xext_any (v : Value) (l : List UInt8) (has : Bool) (val org age : Int) (w : World) (h0 : -9223372036854775808 ≤ val) (h1 : val < 9223372036854775808) (hb : Bts w w.heap.size v l) (hl : l.length ≤ 999999000) :
    Calls Tryd.prog 68 #[v, .agg #[.bool has, .int .i64 val, .int .i64 org, .int .i64 age]] w fun x w' => ∃ v', x = .returned v' ∧ Own w' w.heap.size v' (l ++ extR ⟨has, val, org, age⟩) ∧ Below w.heap.size w w' := by
  have H01 : Hid (-9223372036854775808 ≤ val ∧ val < 9223372036854775808) := ⟨h0, h1⟩
  have HL := Lib.hid hl
  have HBV := Lib.hid hb
  obtain ⟨g0, kb⟩ := new_block w (.cells #[.bool has, .int .i64 val, .int .i64 org, .int .i64 age] 36)
  have LB := Lib.hid g0
  have KB := Lib.hid kb
  have HLN : Hid ((vint (flagN has)).length ≤ 10 ∧ (vint (zig val)).length ≤ 10 ∧ (vint (numW org)).length ≤ 10) := ⟨flag_len _, zig_len h0 h1, num_len _⟩
  clear h0 h1 hl hb g0 kb
  go_enter Tryd.func68, Tryd.ntmps68
  go_upto_region 1 with (fail)
  obtain ⟨W1, hW1⟩ : ∃ W, W = w.alloc (.cells #[.bool has, .int .i64 val, .int .i64 org, .int .i64 age] 36) := ⟨_, rfl⟩
  rw [← hW1] at LB KB ⊢
  obtain ⟨eb, heb⟩ : ∃ b, b = w.heap.size := ⟨_, rfl⟩
  rw [← heb] at KB
  simp only [← heb]
  have HBW : Hid (eb ≤ W1.heap.size) := by show _ ≤ _; rw [heb]; exact LB.out.size
  have HEB := Lib.hid heb
  clear hW1 heb
  refine wpIn_wide (n := 5).1 (wpIn_flowM2 (F0 := Fence.wide) (n0 := 5) (fun _ => trivial) (fun h => by cases h) (by kernel_rfl) (by kernel_rfl) 8 8 (by kernel_rfl) (fun j => ([0, 1, 2, 3, 4, 5, 6, 7] : List Nat).getD j 0) (fun j => ([5, 6, 7, 8, 9, 10, 11, 0] : List Nat).getD j 0) (by kernel_rfl) (by kernel_rfl) (by kernel_rfl) (by kernel_rfl) (by kernel_rfl) (by kernel_rfl) (by kernel_rfl) (fun j zv => ([(fun zv => zv = v), (fun zv => zv = (.pointer (some ⟨eb, 0, none⟩))), (fun zv => zv = (.bool has)), (fun _ => True), (fun zv => zv = (.pointer (some ⟨eb, 1, none⟩))), (fun zv => zv = (.int .i64 val)), (fun _ => True), (fun _ => True)] : List (Value → Prop)).getD j (fun _ => True) zv) (fun d vs W => ChainJ eb W1 [(3, (l ++ vint (flagN has))), (6, ((l ++ vint (flagN has)) ++ vint (zig val)))] 7 6 d vs W) ?h0p ?stepp ?finp)
  case h0p => exact fun vs => ChainJ.start vs
  case stepp =>
    intro i o a W d vs hi ho hdi hJ hf hr hF hz
    replace hi : i < 8 := hi
    rcases (show i = 0 ∨ i = 1 ∨ i = 2 ∨ i = 3 ∨ i = 4 ∨ i = 5 ∨ i = 6 ∨ i = 7 by omega) with rfl | rfl | rfl | rfl | rfl | rfl | rfl | rfl
    · replace ho := op_at ho (by rfl)
      subst ho
      have f0 : a.tmps.getD 0 undef = v := hz 7 (by decide) (show d 7 = false from hJ.nolast _ (by rfl) hdi)
      exact .inl ⟨(fun k b h => by cases h), .inl ⟨0, by decide, rfl, v, W, (by simp [go_sem, Act.eval, f0]), rfl, hJ.yield (by rfl) (by decide) (by decide)⟩⟩
    · replace ho := op_at ho (by rfl)
      subst ho
      have f3 : a.tmps.getD 3 undef = (.pointer (some ⟨eb, 0, none⟩)) := hf 3 (by kernel_rfl)
      exact .inl ⟨(fun k b h => by cases h), .inl ⟨1, by decide, rfl, (.pointer (some ⟨eb, 0, none⟩)), W, (by simp [go_sem, Act.eval, f3]), rfl, hJ.yield (by rfl) (by decide) (by decide)⟩⟩
    · replace ho := op_at ho (by rfl)
      subst ho
      have d1 : a.tmps.getD 6 undef = (.pointer (some ⟨eb, 0, none⟩)) := by have h1 := hF 1 (by decide) (hr 1 (by kernel_rfl)); exact h1.2.trans h1.1
      have c0 := cell_of_row _ _ 0 _ _ _ (stays KB.out hJ.1)
      exact .inl ⟨(fun k b h => by cases h), .inl ⟨2, by decide, rfl, (.bool has), W, (by simp [go_sem, Act.eval, d1, c0]), rfl, hJ.yield (by rfl) (by decide) (by decide)⟩⟩
    · replace ho := op_at ho (by rfl)
      subst ho
      have hbt := HBV.out.below (LB.out.trans (hJ.1.mono LB.out.size)) (LB.out.trans (hJ.1.mono LB.out.size)).size
      have d0b : d 0 = true := hr 0 (by kernel_rfl)
      have q0 : a.tmps.getD 5 undef = v := by have h1 := hF 0 (by decide) (hr 0 (by kernel_rfl)); exact h1.2.trans h1.1
      have q1 : a.tmps.getD 7 undef = (.bool has) := by have h1 := hF 2 (by decide) (hr 2 (by kernel_rfl)); exact h1.2.trans h1.1
      refine .inl ⟨(fun k b h => by cases h), .inr (.inr ⟨3, by decide, rfl, 66, #[v, (.bool has)], W, (by simp [go_sem, Act.eval, q0, q1]), ?_⟩)⟩
      refine (callsIn_wide.2 (ref_Flag _ _ _ W hbt (by (try simp only [List.length_append]); have := HL.out; have := HLN.out; omega))).mono ?_
      rintro e W' ⟨u, rfl, hO, hBe⟩
      exact ⟨u, rfl, trivial, hJ.call 3 _ (by rfl) (by decide) hBe (hO.mono (Nat.le_trans HBW.out hJ.1.size)) d0b hdi⟩
    · replace ho := op_at ho (by rfl)
      subst ho
      have f3 : a.tmps.getD 3 undef = (.pointer (some ⟨eb, 0, none⟩)) := hf 3 (by kernel_rfl)
      exact .inl ⟨(fun k b h => by cases h), .inl ⟨4, by decide, rfl, (.pointer (some ⟨eb, 1, none⟩)), W, (by simp [go_sem, Act.eval, f3]), rfl, hJ.yield (by rfl) (by decide) (by decide)⟩⟩
    · replace ho := op_at ho (by rfl)
      subst ho
      have d4 : a.tmps.getD 9 undef = (.pointer (some ⟨eb, 1, none⟩)) := by have h1 := hF 4 (by decide) (hr 4 (by kernel_rfl)); exact h1.2.trans h1.1
      have c1 := cell_of_row _ _ 1 _ _ _ (stays KB.out hJ.1)
      exact .inl ⟨(fun k b h => by cases h), .inl ⟨5, by decide, rfl, (.int .i64 val), W, (by simp [go_sem, Act.eval, d4, c1]), rfl, hJ.yield (by rfl) (by decide) (by decide)⟩⟩
    · replace ho := op_at ho (by rfl)
      subst ho
      have hbt := (hJ.own 3 _ (by rfl) (hr 3 (by kernel_rfl))).1.bts
      have d0b : d 0 = true := (hJ.own 3 _ (by rfl) (hr 3 (by kernel_rfl))).2
      have q0 : a.tmps.getD 8 undef = vs 3 := (hF 3 (by decide) (hr 3 (by kernel_rfl))).2
      have q1 : a.tmps.getD 10 undef = (.int .i64 val) := by have h1 := hF 5 (by decide) (hr 5 (by kernel_rfl)); exact h1.2.trans h1.1
      refine .inl ⟨(fun k b h => by cases h), .inr (.inr ⟨6, by decide, rfl, 67, #[(vs 3), (.int .i64 val)], W, (by simp [go_sem, Act.eval, q0, q1]), ?_⟩)⟩
      refine (callsIn_wide.2 (ref_Signed _ _ _ W H01.out.1 H01.out.2 hbt (by (try simp only [List.length_append]); have := HL.out; have := HLN.out; omega))).mono ?_
      rintro e W' ⟨u, rfl, hO, hBe⟩
      exact ⟨u, rfl, trivial, hJ.call 6 _ (by rfl) (by decide) hBe (hO.mono (Nat.le_trans HBW.out hJ.1.size)) d0b hdi⟩
    · replace ho := op_at ho (by rfl)
      subst ho
      have q0 : a.tmps.getD 11 undef = vs 6 := (hF 6 (by decide) (hr 6 (by kernel_rfl))).2
      exact .inl ⟨(fun k b h => by cases h), .inl ⟨7, by decide, rfl, vs 6, W, (by simp [go_sem, Act.eval, q0]), trivial, hJ.last (by rfl) (by decide) (hr 6 (by kernel_rfl))⟩⟩
  case finp =>
    intro d vs Wp hall hJ hF
    have h0 : vs 0 = v := hF 0 (by decide)
    have h1 : vs 1 = (.pointer (some ⟨eb, 0, none⟩)) := hF 1 (by decide)
    have h2 : vs 2 = (.bool has) := hF 2 (by decide)
    have h3 : (fun _ => True) (vs 3) := hF 3 (by decide)
    have h4 : vs 4 = (.pointer (some ⟨eb, 1, none⟩)) := hF 4 (by decide)
    have h5 : vs 5 = (.int .i64 val) := hF 5 (by decide)
    have h6 : (fun _ => True) (vs 6) := hF 6 (by decide)
    have h7 : (fun _ => True) (vs 7) := hF 7 (by decide)
    clear hF
    have hans := (hJ.2.2 (hall 7 (by decide))).2
    have hown := (hJ.own 6 _ (by rfl) (hall 6 (by decide))).1
    have hLB := hJ.1
    clear hJ hall h3 h6 h7
    show (_ : Exit → Act → World → Prop) Exit.normal (puts _ vs 8 _) Wp
    simp only [puts, h0, h1, h2, h4, h5, List.getD_cons_zero, List.getD_cons_succ]
    clear h0 h1 h2 h4 h5
    simp only [hans]
    generalize vs 6 = u1 at *
    clear hans
    have OW1 := Lib.hid hown
    have LB1 := Lib.hid hLB
    have KB1 := Lib.hid (stays KB.out hLB)
    clear hown hLB
    go_simp
    go_upto_region 2 with (fail)
    refine wpIn_wide (n := 5).1 (wpIn_flowM2 (F0 := Fence.wide) (n0 := 5) (fun _ => trivial) (fun h => by cases h) (by kernel_rfl) (by kernel_rfl) 10 10 (by kernel_rfl) (fun j => ([0, 1, 2, 3, 4, 5, 6, 7, 8, 9] : List Nat).getD j 0) (fun j => ([12, 13, 14, 15, 16, 17, 18, 19, 20, 4] : List Nat).getD j 0) (by kernel_rfl) (by kernel_rfl) (by kernel_rfl) (by kernel_rfl) (by kernel_rfl) (by kernel_rfl) (by kernel_rfl) (fun j zv => ([(fun zv => zv = u1), (fun zv => zv = (.pointer (some ⟨eb, 2, none⟩))), (fun zv => zv = (.int .i64 org)), (fun zv => zv = (.int .u64 (numW org : Int))), (fun _ => True), (fun zv => zv = (.pointer (some ⟨eb, 3, none⟩))), (fun zv => zv = (.int .i64 age)), (fun zv => zv = (.int .u64 (numW age : Int))), (fun _ => True), (fun _ => True)] : List (Value → Prop)).getD j (fun _ => True) zv) (fun d vs W => ChainJ eb Wp [(4, (((l ++ vint (flagN has)) ++ vint (zig val)) ++ vint (numW org))), (8, ((((l ++ vint (flagN has)) ++ vint (zig val)) ++ vint (numW org)) ++ vint (numW age)))] 9 8 d vs W) ?h0q ?stepq ?finq)
    case h0q => exact fun vs => ChainJ.start vs
    case stepq =>
      intro i o a W d vs hi ho hdi hJ hf hr hF hz
      replace hi : i < 10 := hi
      rcases (show i = 0 ∨ i = 1 ∨ i = 2 ∨ i = 3 ∨ i = 4 ∨ i = 5 ∨ i = 6 ∨ i = 7 ∨ i = 8 ∨ i = 9 by omega) with rfl | rfl | rfl | rfl | rfl | rfl | rfl | rfl | rfl | rfl
      · replace ho := op_at ho (by rfl)
        subst ho
        have f0 : a.tmps.getD 0 undef = u1 := hf 0 (by kernel_rfl)
        exact .inl ⟨(fun k b h => by cases h), .inl ⟨0, by decide, rfl, u1, W, (by simp [go_sem, Act.eval, f0]), rfl, hJ.yield (by rfl) (by decide) (by decide)⟩⟩
      · replace ho := op_at ho (by rfl)
        subst ho
        have f3 : a.tmps.getD 3 undef = (.pointer (some ⟨eb, 0, none⟩)) := hf 3 (by kernel_rfl)
        exact .inl ⟨(fun k b h => by cases h), .inl ⟨1, by decide, rfl, (.pointer (some ⟨eb, 2, none⟩)), W, (by simp [go_sem, Act.eval, f3]), rfl, hJ.yield (by rfl) (by decide) (by decide)⟩⟩
      · replace ho := op_at ho (by rfl)
        subst ho
        have d1 : a.tmps.getD 13 undef = (.pointer (some ⟨eb, 2, none⟩)) := by have h1 := hF 1 (by decide) (hr 1 (by kernel_rfl)); exact h1.2.trans h1.1
        have c2 := cell_of_row _ _ 2 _ _ _ (stays KB1.out hJ.1)
        exact .inl ⟨(fun k b h => by cases h), .inl ⟨2, by decide, rfl, (.int .i64 org), W, (by simp [go_sem, Act.eval, d1, c2]), rfl, hJ.yield (by rfl) (by decide) (by decide)⟩⟩
      · replace ho := op_at ho (by rfl)
        subst ho
        have d2 : a.tmps.getD 14 undef = (.int .i64 org) := by have h1 := hF 2 (by decide) (hr 2 (by kernel_rfl)); exact h1.2.trans h1.1
        exact .inl ⟨(fun k b h => by cases h), .inl ⟨3, by decide, rfl, (.int .u64 (numW org : Int)), W, (by simp [go_sem, Act.eval, d2, numW_wrap, numW_mod]), rfl, hJ.yield (by rfl) (by decide) (by decide)⟩⟩
      · replace ho := op_at ho (by rfl)
        subst ho
        have hbt := (OW1.out.below hJ.1).bts
        have d0b : d 0 = true := hr 0 (by kernel_rfl)
        have q0 : a.tmps.getD 12 undef = u1 := by have h1 := hF 0 (by decide) (hr 0 (by kernel_rfl)); exact h1.2.trans h1.1
        have q1 : a.tmps.getD 15 undef = (.int .u64 (numW org : Int)) := by have h1 := hF 3 (by decide) (hr 3 (by kernel_rfl)); exact h1.2.trans h1.1
        refine .inl ⟨(fun k b h => by cases h), .inr (.inr ⟨4, by decide, rfl, 38, #[u1, (.int .u64 (numW org : Int))], W, (by simp [go_sem, Act.eval, q0, q1]), ?_⟩)⟩
        refine (callsIn_wide.2 (ref_Number _ _ _ W (numW_lt _) hbt (by (try simp only [List.length_append]); have := HL.out; have := HLN.out; omega))).mono ?_
        rintro e W' ⟨u, rfl, hO, hBe⟩
        exact ⟨u, rfl, trivial, hJ.call 4 _ (by rfl) (by decide) hBe (hO.mono (Nat.le_trans (Nat.le_trans HBW.out LB1.out.size) hJ.1.size)) d0b hdi⟩
      · replace ho := op_at ho (by rfl)
        subst ho
        have f3 : a.tmps.getD 3 undef = (.pointer (some ⟨eb, 0, none⟩)) := hf 3 (by kernel_rfl)
        exact .inl ⟨(fun k b h => by cases h), .inl ⟨5, by decide, rfl, (.pointer (some ⟨eb, 3, none⟩)), W, (by simp [go_sem, Act.eval, f3]), rfl, hJ.yield (by rfl) (by decide) (by decide)⟩⟩
      · replace ho := op_at ho (by rfl)
        subst ho
        have d5 : a.tmps.getD 17 undef = (.pointer (some ⟨eb, 3, none⟩)) := by have h1 := hF 5 (by decide) (hr 5 (by kernel_rfl)); exact h1.2.trans h1.1
        have c3 := cell_of_row _ _ 3 _ _ _ (stays KB1.out hJ.1)
        exact .inl ⟨(fun k b h => by cases h), .inl ⟨6, by decide, rfl, (.int .i64 age), W, (by simp [go_sem, Act.eval, d5, c3]), rfl, hJ.yield (by rfl) (by decide) (by decide)⟩⟩
      · replace ho := op_at ho (by rfl)
        subst ho
        have d6 : a.tmps.getD 18 undef = (.int .i64 age) := by have h1 := hF 6 (by decide) (hr 6 (by kernel_rfl)); exact h1.2.trans h1.1
        exact .inl ⟨(fun k b h => by cases h), .inl ⟨7, by decide, rfl, (.int .u64 (numW age : Int)), W, (by simp [go_sem, Act.eval, d6, numW_wrap, numW_mod]), rfl, hJ.yield (by rfl) (by decide) (by decide)⟩⟩
      · replace ho := op_at ho (by rfl)
        subst ho
        have hbt := (hJ.own 4 _ (by rfl) (hr 4 (by kernel_rfl))).1.bts
        have d0b : d 0 = true := (hJ.own 4 _ (by rfl) (hr 4 (by kernel_rfl))).2
        have q0 : a.tmps.getD 16 undef = vs 4 := (hF 4 (by decide) (hr 4 (by kernel_rfl))).2
        have q1 : a.tmps.getD 19 undef = (.int .u64 (numW age : Int)) := by have h1 := hF 7 (by decide) (hr 7 (by kernel_rfl)); exact h1.2.trans h1.1
        refine .inl ⟨(fun k b h => by cases h), .inr (.inr ⟨8, by decide, rfl, 38, #[(vs 4), (.int .u64 (numW age : Int))], W, (by simp [go_sem, Act.eval, q0, q1]), ?_⟩)⟩
        refine (callsIn_wide.2 (ref_Number _ _ _ W (numW_lt _) hbt (by (try simp only [List.length_append]); have := HL.out; have := HLN.out; omega))).mono ?_
        rintro e W' ⟨u, rfl, hO, hBe⟩
        exact ⟨u, rfl, trivial, hJ.call 8 _ (by rfl) (by decide) hBe (hO.mono (Nat.le_trans (Nat.le_trans HBW.out LB1.out.size) hJ.1.size)) d0b hdi⟩
      · replace ho := op_at ho (by rfl)
        subst ho
        have q0 : a.tmps.getD 20 undef = vs 8 := (hF 8 (by decide) (hr 8 (by kernel_rfl))).2
        exact .inl ⟨(fun k b h => by cases h), .inl ⟨9, by decide, rfl, vs 8, W, (by simp [go_sem, Act.eval, q0]), trivial, hJ.last (by rfl) (by decide) (hr 8 (by kernel_rfl))⟩⟩
    case finq =>
      intro d vs Wq hall hJ hF
      have h0 : vs 0 = u1 := hF 0 (by decide)
      have h1 : vs 1 = (.pointer (some ⟨eb, 2, none⟩)) := hF 1 (by decide)
      have h2 : vs 2 = (.int .i64 org) := hF 2 (by decide)
      have h3 : vs 3 = (.int .u64 (numW org : Int)) := hF 3 (by decide)
      have h4 : (fun _ => True) (vs 4) := hF 4 (by decide)
      have h5 : vs 5 = (.pointer (some ⟨eb, 3, none⟩)) := hF 5 (by decide)
      have h6 : vs 6 = (.int .i64 age) := hF 6 (by decide)
      have h7 : vs 7 = (.int .u64 (numW age : Int)) := hF 7 (by decide)
      have h8 : (fun _ => True) (vs 8) := hF 8 (by decide)
      have h9 : (fun _ => True) (vs 9) := hF 9 (by decide)
      clear hF
      have hans := (hJ.2.2 (hall 9 (by decide))).2
      have hown := (hJ.own 8 _ (by rfl) (hall 8 (by decide))).1
      have hLB := hJ.1
      clear hJ hall h4 h8 h9
      show (_ : Exit → Act → World → Prop) Exit.normal (puts _ vs 10 _) Wq
      simp only [puts, h0, h1, h2, h3, h5, h6, h7, List.getD_cons_zero, List.getD_cons_succ]
      clear h0 h1 h2 h3 h5 h6 h7
      simp only [hans]
      generalize vs 8 = u2 at *
      clear hans
      have LB2 := LB1.out.trans (hLB.mono LB1.out.size)
      have LBA := LB.out.trans (LB2.mono LB.out.size)
      clear hLB
      go_simp
      go_wp2
      go_ret
      refine ⟨_, rfl, ?_, LBA⟩
      rw [HEB.out] at hown
      simpa [extR, List.append_assoc] using hown

end Go.Proofs.YtgnpjenpehfjbaaDoor

namespace Go.Proofs.YtgnpjenpehfjbaaDoor
open Go.RowKit

theorem item_calls (xb : Nat) (w : World) : Calls Tryd.prog 35 #[.pointer (some ⟨xb, 0, none⟩)] w fun e w' => e = .returned (.func (.func 61) #[] #[.pointer (some ⟨w.heap.size, 0, none⟩)]) ∧ w.alloc (.cells #[.pointer (some ⟨xb, 0, none⟩)] 71) = w' := by
  go_enter Tryd.func35, Tryd.ntmps35
  go_wp2
  go_ret
  exact ⟨rfl, by trivial⟩
theorem item_gets (x : Itm) (xb : Nat) (W : World) (h : W.heap[xb]? = some (.cells x.cells.toArray 38 (0, 0))) (k : Nat) (hk : k < (itemP xb).length) :
    Calls Tryd.prog 57 #[((itemP xb).getD k nilP).val] W fun e w' => e = .returned ((itemF x).getD k nilF).val ∧ Below W.heap.size W w' := by
  have hl := (Array.getElem?_eq_some_iff.1 h).1
  have hk19 : k < 19 := hk
  rcases (show k = 0 ∨ k = 1 ∨ k = 2 ∨ k = 3 ∨ k = 4 ∨ k = 5 ∨ k = 6 ∨ k = 7 ∨ k = 8 ∨ k = 9 ∨ k = 10 ∨ k = 11 ∨ k = 12 ∨ k = 13 ∨ k = 14 ∨ k = 15 ∨ k = 16 ∨ k = 17 ∨ k = 18 by omega) with rfl | rfl | rfl | rfl | rfl | rfl | rfl | rfl | rfl | rfl | rfl | rfl | rfl | rfl | rfl | rfl | rfl | rfl | rfl
  · exact get_2 3 x.name xb 0 W hl (cell_of_row _ _ 0 _ _ _ h)
  · exact get_0 1 x.epoch xb 1 W hl (cell_of_row _ _ 1 _ _ _ h)
  · exact get_1 1 x.maker xb 2 W hl (cell_of_row _ _ 2 _ _ _ h)
  · exact get_3 4 x.alive xb 3 W hl (cell_of_row _ _ 3 _ _ _ h)
  · exact get_1 1 x.kind xb 4 W hl (cell_of_row _ _ 4 _ _ _ h)
  · exact get_0 1 x.scale xb 5 W hl (cell_of_row _ _ 5 _ _ _ h)
  · exact get_0 1 x.ver xb 6 W hl (cell_of_row _ _ 6 _ _ _ h)
  · exact get_1 1 x.writer xb 7 W hl (cell_of_row _ _ 7 _ _ _ h)
  · exact get_0 2 x.flow xb 8 W hl (cell_of_row _ _ 8 _ _ _ h)
  · exact get_3 4 x.hasRest xb 9 W hl (cell_of_row _ _ 9 _ _ _ h)
  · exact get_0 2 x.rest xb 10 W hl (cell_of_row _ _ 10 _ _ _ h)
  · exact get_3 4 x.mn.has xb 11 W hl (cell_of_row _ _ 11 _ _ _ h)
  · exact get_0 2 x.mn.val xb 12 W hl (cell_of_row _ _ 12 _ _ _ h)
  · exact get_1 1 x.mn.org xb 13 W hl (cell_of_row _ _ 13 _ _ _ h)
  · exact get_0 1 x.mn.age xb 14 W hl (cell_of_row _ _ 14 _ _ _ h)
  · exact get_3 4 x.mx.has xb 15 W hl (cell_of_row _ _ 15 _ _ _ h)
  · exact get_0 2 x.mx.val xb 16 W hl (cell_of_row _ _ 16 _ _ _ h)
  · exact get_1 1 x.mx.org xb 17 W hl (cell_of_row _ _ 17 _ _ _ h)
  · exact get_0 1 x.mx.age xb 18 W hl (cell_of_row _ _ 18 _ _ _ h)
theorem item_fields (x : Itm) (xb q : Nat) (w : World) (h : w.heap[xb]? = some (.cells x.cells.toArray 38 (0, 0))) (hq : InvI q xb w) :
    Calls Tryd.prog 33 #[.func (.func 61) #[] #[.pointer (some ⟨q, 0, none⟩)]] w fun e w' => ∃ v, e = .returned v ∧ OwnF w' w.heap.size v (itemF x) ∧ Below w.heap.size w w' :=
  fields_any _ _ (itemP xb) (itemF x) (InvI q xb) _ (enters_of Tryd.func61 (by kernel_rfl) rfl) (fun m => item_iter q xb m) w rfl (by show 19 ≤ 1000; omega)
    (fun W hb => stays hq hb) (fun W k hb hk => item_gets x xb W (stays h hb) k hk)

def itemB (x : Itm) : List UInt8 := (itemF x).flatMap fbytes
theorem flowB_iff {x : Int} : flowB x = true ↔ -2147483647 ≤ x ∧ x ≤ 2147483647 := by unfold flowB; exact inB_iff
theorem extB_bounds {e : Xt} (h : extB e = true) : (-2147483647 ≤ e.val ∧ e.val ≤ 2147483647) ∧ (0 ≤ e.org ∧ e.org < 16) ∧ 0 ≤ e.age ∧ e.age ≤ 63 := by
  unfold extB at h
  cases hh : e.has
  · rw [hh] at h; simp at h; omega
  · rw [hh] at h
    simp only [if_true, Bool.and_eq_true, flowB_iff, nodeB_iff, inB_iff] at h
    omega
theorem zeroB_bounds {e : Xt} (h : e.zeroB = true) : (-2147483647 ≤ e.val ∧ e.val ≤ 2147483647) ∧ (0 ≤ e.org ∧ e.org < 16) ∧ 0 ≤ e.age ∧ e.age ≤ 63 := by
  have := Xt.zero_iff.1 h
  subst this
  simp [zeroX]
theorem regZ_bounds {x : Itm} (h : x.regZ = true) : (0 ≤ x.ver ∧ x.ver ≤ 1099511627776) ∧ (0 ≤ x.writer ∧ x.writer < 16) ∧ -2147483647 ≤ x.flow ∧ x.flow ≤ 2147483647 := by
  unfold Itm.regZ at h
  simp only [Bool.and_eq_true, beq_iff_eq] at h
  omega
theorem regB_bounds {x : Itm} (h : x.regB = true) : (0 ≤ x.ver ∧ x.ver ≤ 1099511627776) ∧ (0 ≤ x.writer ∧ x.writer < 16) ∧ -2147483647 ≤ x.flow ∧ x.flow ≤ 2147483647 := by
  unfold Itm.regB at h
  rw [Bool.or_eq_true] at h
  rcases h with h | h
  · exact regZ_bounds h
  · simp only [Bool.and_eq_true, flowB_iff, nodeB_iff, inB_iff] at h
    omega
structure ItmOk (x : Itm) : Prop where
  name : x.name.length ≤ 16
  epoch : 0 ≤ x.epoch ∧ x.epoch ≤ 1099511627776
  maker : 0 ≤ x.maker ∧ x.maker < 16
  kind : 0 ≤ x.kind ∧ x.kind ≤ 4
  scale : 0 ≤ x.scale ∧ x.scale ≤ 1048576
  reg : (0 ≤ x.ver ∧ x.ver ≤ 1099511627776) ∧ (0 ≤ x.writer ∧ x.writer < 16) ∧ -2147483647 ≤ x.flow ∧ x.flow ≤ 2147483647
  rest : -2147483647 ≤ x.rest ∧ x.rest ≤ 2147483647
  mn : (-2147483647 ≤ x.mn.val ∧ x.mn.val ≤ 2147483647) ∧ (0 ≤ x.mn.org ∧ x.mn.org < 16) ∧ 0 ≤ x.mn.age ∧ x.mn.age ≤ 63
  mx : (-2147483647 ≤ x.mx.val ∧ x.mx.val ≤ 2147483647) ∧ (0 ≤ x.mx.org ∧ x.mx.org < 16) ∧ 0 ≤ x.mx.age ∧ x.mx.age ≤ 63
theorem fitI_ok {x : Itm} (h : fitI x = true) : ItmOk x := by
  unfold fitI preB nameB at h
  simp only [Bool.and_eq_true, decide_eq_true_eq, nodeB_iff, inB_iff] at h
  obtain ⟨⟨hn, he, hm, hk1, hk2, hs⟩, hr⟩ := h
  have key : ((0 ≤ x.ver ∧ x.ver ≤ 1099511627776) ∧ (0 ≤ x.writer ∧ x.writer < 16) ∧ -2147483647 ≤ x.flow ∧ x.flow ≤ 2147483647) ∧ (-2147483647 ≤ x.rest ∧ x.rest ≤ 2147483647) ∧ ((-2147483647 ≤ x.mn.val ∧ x.mn.val ≤ 2147483647) ∧ (0 ≤ x.mn.org ∧ x.mn.org < 16) ∧ 0 ≤ x.mn.age ∧ x.mn.age ≤ 63) ∧ ((-2147483647 ≤ x.mx.val ∧ x.mx.val ≤ 2147483647) ∧ (0 ≤ x.mx.org ∧ x.mx.org < 16) ∧ 0 ≤ x.mx.age ∧ x.mx.age ≤ 63) := by
    unfold restB at hr
    split at hr
    · cases hr
    · split at hr
      · split at hr
        · simp only [Bool.and_eq_true, beq_iff_eq] at hr
          obtain ⟨⟨⟨⟨h1, -⟩, h3⟩, h4⟩, h5⟩ := hr
          exact ⟨regZ_bounds h1, by omega, extB_bounds h4, extB_bounds h5⟩
        · simp only [Bool.and_eq_true, flowB_iff] at hr
          obtain ⟨⟨⟨⟨h1, h2⟩, -⟩, h4⟩, h5⟩ := hr
          exact ⟨regB_bounds h1, h2, zeroB_bounds h4, zeroB_bounds h5⟩
      · simp only [Bool.and_eq_true, beq_iff_eq] at hr
        obtain ⟨⟨⟨⟨h1, -⟩, h3⟩, h4⟩, h5⟩ := hr
        exact ⟨regZ_bounds h1, by omega, zeroB_bounds h4, zeroB_bounds h5⟩
  exact ⟨by omega, by omega, by omega, by omega, by omega, key.1, key.2.1, key.2.2.1, key.2.2.2⟩
theorem sF_right {y : Int} : rightB (nF 2 y) = true := by simp [rightB, nF]
theorem bF_right {b : Bool} : rightB ⟨4, 0, [], b⟩ = true := by simp [rightB]
theorem bF_ok {b : Bool} : FldOk ⟨4, 0, [], b⟩ := ⟨by simp, by simp, by simp⟩
theorem tF_right {t : List UInt8} : rightB ⟨3, 0, t, false⟩ = true := by simp [rightB]
theorem sF_len {y : Int} (h0 : -9223372036854775808 ≤ y) (h1 : y < 9223372036854775808) : (fbytes (nF 2 y)).length ≤ 10 := by
  have := (vint_len (zig y) (zig_lt y h0 h1)).2
  simpa [fbytes, nF] using this
theorem bF_len {b : Bool} : (fbytes ⟨4, 0, [], b⟩).length ≤ 10 := by cases b <;> decide
theorem tF_len {t : List UInt8} (h : t.length ≤ 16) : (fbytes ⟨3, 0, t, false⟩).length ≤ 26 := by
  have := (vint_len t.length (by omega)).2
  simp [fbytes]; omega
theorem itemF_ok {x : Itm} (h : ItmOk x) : (∀ f ∈ itemF x, rightB f = true) ∧ ∀ f ∈ itemF x, FldOk f := by
  obtain ⟨h1, h2, h3, h4, h5, h6, h7, h8, h9⟩ := h
  constructor
  · intro f hf
    simp only [itemF, List.mem_cons, List.not_mem_nil, or_false] at hf
    rcases hf with rfl | rfl | rfl | rfl | rfl | rfl | rfl | rfl | rfl | rfl | rfl | rfl | rfl | rfl | rfl | rfl | rfl | rfl | rfl <;> first | exact bF_right | exact sF_right | exact tF_right | exact nF_right (by omega)
  · intro f hf
    simp only [itemF, List.mem_cons, List.not_mem_nil, or_false] at hf
    rcases hf with rfl | rfl | rfl | rfl | rfl | rfl | rfl | rfl | rfl | rfl | rfl | rfl | rfl | rfl | rfl | rfl | rfl | rfl | rfl <;> first | exact bF_ok | exact nF_ok (by omega) (by omega) | exact ⟨by simp, by simp, by simp; omega⟩
theorem flat_le (l : List Fld) (c : Nat) (h : ∀ f ∈ l, (fbytes f).length ≤ c) : (l.flatMap fbytes).length ≤ c * l.length := by
  induction l with
  | nil => simp
  | cons f r ih =>
    have h1 := h f List.mem_cons_self
    have h2 := ih fun g hg => h g (List.mem_cons_of_mem _ hg)
    rw [List.flatMap_cons, List.length_append, List.length_cons, Nat.mul_add]
    omega
theorem itemB_len {x : Itm} (h : ItmOk x) : (itemB x).length ≤ 500 := by
  obtain ⟨h1, h2, h3, h4, h5, h6, h7, h8, h9⟩ := h
  have key : ∀ f ∈ itemF x, (fbytes f).length ≤ 26 := by
    intro f hf
    simp only [itemF, List.mem_cons, List.not_mem_nil, or_false] at hf
    rcases hf with rfl | rfl | rfl | rfl | rfl | rfl | rfl | rfl | rfl | rfl | rfl | rfl | rfl | rfl | rfl | rfl | rfl | rfl | rfl <;> first | exact tF_len h1 | exact Nat.le_trans bF_len (by omega) | exact Nat.le_trans (sF_len (by omega) (by omega)) (by omega) | exact Nat.le_trans (nF_len (by omega) (by omega)) (by omega)
  have := flat_le (itemF x) 26 key
  have e : (itemF x).length = 19 := rfl
  rw [e] at this
  unfold itemB
  omega
theorem itemB_bytes {x : Itm} (h : ItmOk x) : fieldsB (itemF x) = itemB x := by
  unfold fieldsB
  rw [if_pos (List.all_eq_true.2 (itemF_ok h).1)]
  rfl
theorem fit_items {p : Pkt} (h : fitP p = true) : ∀ k, k < p.items.length → ItmOk (p.items.getD k nilI) := by
  intro k hk
  unfold fitP tailP at h
  simp only [Bool.and_eq_true] at h
  have h8 := h.2.2
  by_cases hkd : p.kind = 3 ∨ p.kind = 4
  · rw [if_pos hkd, Bool.and_eq_true] at h8
    have h9 := h8.1
    unfold itemsB at h9
    have := List.all_eq_true.1 h9 k (List.mem_range.2 hk)
    unfold goodAt at this
    rw [Bool.and_eq_true] at this
    exact fitI_ok this.1
  · rw [if_neg hkd] at h8
    have : p.items.length = 0 := by simpa using h8
    omega
def partB (p : Pkt) (k : Nat) : List UInt8 := (headF p).flatMap fbytes ++ (p.items.take k).flatMap itemB
theorem partB_zero (p : Pkt) : partB p 0 = (headF p).flatMap fbytes := by simp [partB]
theorem partB_succ (p : Pkt) (k : Nat) (h : k < p.items.length) : partB p (k + 1) = partB p k ++ itemB (p.items.getD k nilI) := by
  have e : p.items.take (k + 1) = p.items.take k ++ [p.items.getD k nilI] := by
    rw [List.take_add_one, getD_some h]; rfl
  unfold partB
  rw [e, List.flatMap_append, List.append_assoc]
  simp
theorem partB_all (p : Pkt) : partB p p.items.length = bodyB p := by
  unfold partB bodyB
  rw [List.take_length]
  rfl
theorem partB_len {p : Pkt} (h : fitP p = true) : ∀ k, k ≤ p.items.length → (partB p k).length ≤ 80 + 500 * k := by
  intro k
  induction k with
  | zero => intro _; rw [partB_zero]; have := headF_len h; omega
  | succ k ih =>
    intro hk
    have h1 := ih (by omega)
    have h2 := itemB_len (fit_items h k (by omega))
    rw [partB_succ p k (by omega), List.length_append]
    omega

end Go.Proofs.YtgnpjenpehfjbaaDoor

namespace Go.Proofs.YtgnpjenpehfjbaaDoor
open Go.RowKit

set_option maxRecDepth 100000 in
set_option maxHeartbeats 8000000 in
theorem encode_any (p : Pkt) (v : Value) (w : World) (hv : Ims w w.heap.size v p.items) (hnl : ∀ x ∈ p.items, x.name.length ≤ 9223372036854775807) (ht : TabOK w) : Calls Tryd.prog 13 #[.agg (p.cells v).toArray] w fun e w' => ∃ u, e = .returned u ∧ Own w' w.heap.size u (encB p) ∧ Below w.heap.size w w' := by
  obtain ⟨ao, cap, rfl, hcap, hmx⟩ := hv.slice
  have HV := Lib.hid hv
  obtain ⟨n, hn⟩ : ∃ n, n = p.items.length := ⟨_, rfl⟩
  have hmx' : n ≤ 9223372036854775807 := by rw [hn]; unfold maxLen at hmx; exact hmx
  rw [← hn] at HV ⊢
  have HN := Lib.hid hn
  have HT := Lib.hid ht
  obtain ⟨kind, hk1⟩ : ∃ x, x = p.kind := ⟨_, rfl⟩
  obtain ⟨frm, hk2⟩ : ∃ x, x = p.frm := ⟨_, rfl⟩
  obtain ⟨to, hk3⟩ : ∃ x, x = p.to := ⟨_, rfl⟩
  obtain ⟨boot, hk4⟩ : ∃ x, x = p.boot := ⟨_, rfl⟩
  obtain ⟨life, hk5⟩ : ∃ x, x = p.life := ⟨_, rfl⟩
  obtain ⟨echo, hk6⟩ : ∃ x, x = p.echo := ⟨_, rfl⟩
  obtain ⟨elife, hk7⟩ : ∃ x, x = p.elife := ⟨_, rfl⟩
  have hpc : (p.cells (.slice ao n cap)).toArray = #[.int .i64 kind, .int .i64 frm, .int .i64 to, .int .i64 boot, .int .i64 life, .int .i64 echo, .int .i64 elife, .slice ao n cap] := by rw [hk1, hk2, hk3, hk4, hk5, hk6, hk7]
  obtain ⟨g0, kb⟩ := new_block w (.cells #[.int .i64 kind, .int .i64 frm, .int .i64 to, .int .i64 boot, .int .i64 life, .int .i64 echo, .int .i64 elife, .slice ao n cap] 24)
  have hfit := fit_any p (.slice ao n cap) (w.alloc (.cells #[.int .i64 kind, .int .i64 frm, .int .i64 to, .int .i64 boot, .int .i64 life, .int .i64 echo, .int .i64 elife, .slice ao n cap] 24)) (HV.out.below g0 g0.size) hnl
  rw [hpc] at hfit ⊢
  have HPC := Lib.hid hpc
  have LB := Lib.hid g0
  have KB := Lib.hid kb
  clear g0 kb ht hpc hv hnl hn hmx hcap hk1 hk2 hk3 hk4 hk5 hk6 hk7
  have a0 := cell_of_row _ _ 0 _ _ _ KB.out
  cases hf : fitP p with
  | false =>
    rw [hf] at hfit
    have HE : Hid (encB p = []) := by show _ = _; unfold encB; rw [hf]; rfl
    have HF := Lib.hid hfit
    clear hfit hf a0
    go_enter Tryd.func13, Tryd.ntmps13
    go_wp2_with (fail)
    with_reducible refine HF.out.mono ?_
    rintro e w1 ⟨rfl, hB⟩
    have L1 := LB.out.trans (hB.mono LB.out.size)
    clear HF hB
    go_wp2
    go_ret
    exact ⟨.slice none 0 0, rfl, by rw [HE.out]; exact Own.nil _ _, L1⟩
  | true =>
    rw [hf] at hfit
    have HE : Hid (encB p = frameOf (bodyB p)) := by show _ = _; unfold encB; rw [hf]; rfl
    have HF := Lib.hid hfit
    have HFT := Lib.hid hf
    have hn8 := (fit_bounds hf).2.2.2.2.2.2.2
    rw [← HN.out] at hn8
    have HN8 := Lib.hid hn8
    clear hfit hf a0 hn8
    go_enter Tryd.func13, Tryd.ntmps13
    go_wp2_with (fail)
    with_reducible refine HF.out.mono ?_
    rintro e w1 ⟨rfl, hB⟩
    have L1 := Lib.hid (LB.out.trans (hB.mono LB.out.size))
    have KB1 := Lib.hid (stays KB.out hB)
    clear HF hB
    have c7 := cell_of_row _ _ 7 _ _ _ KB1.out
    obtain ⟨g2, k2⟩ := new_block w1 (.cells #[.int .i64 (n : Int)] 3)
    have L2 := Lib.hid (L1.out.trans (g2.mono L1.out.size))
    have KB2 := Lib.hid (stays KB1.out g2)
    have KC2 := Lib.hid k2
    clear g2 k2
    have hcon := Lib.hid (head_any w.heap.size w1.heap.size (w1.alloc (.cells #[.int .i64 (n : Int)] 3)))
    go_wp2_with (fail)
    with_reducible refine hcon.out.mono ?_
    rintro e w2 ⟨⟨q, g, rfl, hi⟩, hB⟩
    have L3 := Lib.hid (L2.out.trans (hB.mono L2.out.size))
    have hcon2 := Lib.hid (head_fields p (.slice ao n cap) w.heap.size w1.heap.size q g w2 (by rw [HPC.out]; exact stays KB2.out hB) (by rw [← HN.out]; exact stays KC2.out hB) hi)
    have KB3 := Lib.hid (stays KB2.out hB)
    clear hcon hi hB c7
    go_wp2_with (fail)
    with_reducible refine hcon2.out.mono ?_
    rintro e w3 ⟨vf, rfl, ho, hB⟩
    have L4 := Lib.hid (L3.out.trans (hB.mono L3.out.size))
    have KB4 := Lib.hid (stays KB3.out hB)
    have hcon3 := Lib.hid (code_Fields vf (headF p) w3 ho.flds (headF_ok HFT.out).2 (by have := headF_len HFT.out; omega) (by simp [headF]))
    obtain ⟨ao2, cap2, rfl⟩ := owns_form ho
    clear hcon2 ho hB
    go_wp2_with (fail)
    with_reducible refine hcon3.out.mono ?_
    rintro e w4 ⟨vb, rfl, ho, hB⟩
    rw [headF_bytes HFT.out, ← partB_zero] at ho
    have L5 := Lib.hid (L4.out.trans (hB.mono L4.out.size))
    have KB5 := Lib.hid (stays KB4.out hB)
    have HO0 := Lib.hid (ho.mono L4.out.size)
    obtain ⟨ab, capb, hvb, -⟩ := ho.bts
    obtain ⟨nb, hnb⟩ : ∃ n, n = (partB p 0).length := ⟨_, rfl⟩
    rw [← hnb] at hvb
    subst hvb
    have HNB := Lib.hid hnb
    clear hnb hcon3 ho hB
    have c7 := cell_of_row _ _ 7 _ _ _ KB5.out
    go_wp2_with (fail)
    clear c7
    go_loopw [4, 21] (fun b i wr => ∃ (k nb : Nat) (ab : Option Addr) (capb : Nat), k ≤ n ∧ i = .int .i64 (k : Int) ∧ b = .slice ab nb capb ∧ Hid (nb = (partB p k).length) ∧ Hid (Own wr w.heap.size b (partB p k)) ∧ Hid (Below w.heap.size w wr) ∧ Hid (wr.heap[w.heap.size]? = some (.cells #[.int .i64 kind, .int .i64 frm, .int .i64 to, .int .i64 boot, .int .i64 life, .int .i64 echo, .int .i64 elife, .slice ao n cap] 24 ))) (fun _ i _ => n - (intOf i).toNat)
    case atStart => exact ⟨0, nb, ab, capb, Nat.zero_le _, rfl, rfl, HNB, HO0, L5, KB5⟩
    case round =>
      obtain ⟨k, nb, ab, capb, hk, rfl, rfl, HNB, HO, LW, KW⟩ := hrel
      have c7 := cell_of_row _ _ 7 _ _ _ KW.out
      by_cases hlt : k < n
      · have hkx : k < p.items.length := by have := HN.out; omega
        obtain ⟨ib, off, hao, hib, hcc⟩ := (HV.out.below LW.out (Nat.le_refl _)).at k hkx
        subst hao
        obtain ⟨x, hx⟩ : ∃ x, x = p.items.getD k nilI := ⟨_, rfl⟩
        have hrk := hcc k x (by rw [hx]; exact getD_some hkx)
        have HX := Lib.hid hx
        have HXO : Hid (ItmOk x) := by show ItmOk x; rw [hx]; exact fit_items HFT.out k hkx
        have hki : 0 ≤ (k : Int) ∧ (k : Int) < (n : Int) := by omega
        obtain ⟨g1, kx⟩ := new_block wr (.cells x.cells.toArray 38)
        have L6 := Lib.hid (LW.out.trans (g1.mono LW.out.size))
        have KX := Lib.hid kx
        have KW6 := Lib.hid (stays KW.out g1)
        have HO6 := Lib.hid (HO.out.below g1)
        have hc1 := Lib.hid (item_calls wr.heap.size (wr.alloc (.cells x.cells.toArray 38)))
        clear hx hcc hkx g1 kx
        go_upto_region 8 with (fail)
        refine wp_region_lit ?_
        refine wpList_run (v := .pointer (some ⟨w.heap.size, 7, none⟩)) (w' := wr) rfl (by simp [go_sem, Act.eval]) ?_
        refine wpList_run (v := .slice (some ⟨ib, off, none⟩) n cap) (w' := wr) rfl (by simp [go_sem, Act.eval, c7]) ?_
        refine wpList_run (v := .int .i64 (k : Int)) (w' := wr) rfl (by simp [go_sem, Act.eval]) ?_
        refine wpList_run (v := .pointer (some ⟨ib, off + k * 19, none⟩)) (w' := wr) rfl (by simp [go_sem, Act.eval, hki]) ?_
        refine wpList_run (w' := wr) rfl (exec_load_mid 38 _ rfl ib (off + k * 19) x.cells (.struct (Tryd.prog.fieldsOf 38)) (by kernel_rfl) hrk (by kernel_rfl) rfl (by kernel_rfl)) ?_
        refine wpList_run (v := .pointer (some ⟨wr.heap.size, 0, none⟩)) (w' := wr.alloc (.cells #[.string ⟨#[]⟩, .int .i64 0, .int .i64 0, .bool false, .int .i64 0, .int .i64 0, .int .i64 0, .int .i64 0, .int .i64 0, .bool false, .int .i64 0, .bool false, .int .i64 0, .int .i64 0, .int .i64 0, .bool false, .int .i64 0, .int .i64 0, .int .i64 0] 38)) rfl (by kernel_rfl) ?_
        refine wpList_store_new rfl rfl 38 _ _ rfl wr #[.string ⟨#[]⟩, .int .i64 0, .int .i64 0, .bool false, .int .i64 0, .int .i64 0, .int .i64 0, .int .i64 0, .int .i64 0, .bool false, .int .i64 0, .bool false, .int .i64 0, .int .i64 0, .int .i64 0, .bool false, .int .i64 0, .int .i64 0, .int .i64 0] x.cells.toArray (by kernel_rfl) (by kernel_rfl) (by kernel_rfl) rfl (by simp [Value.oneCell']) ?_
        refine wpList_nil ?_
        obtain ⟨W6, hW6⟩ : ∃ W, W = wr.alloc (.cells x.cells.toArray 38) := ⟨_, rfl⟩
        rw [← hW6] at L6 KX KW6 HO6 hc1 ⊢
        obtain ⟨xb, hxb⟩ : ∃ b, b = wr.heap.size := ⟨_, rfl⟩
        rw [← hxb] at KX hc1
        simp only [← hxb]
        clear hrk c7 hW6 hxb
        go_simp
        go_wp2_with (fail)
        with_reducible refine hc1.out.mono ?_
        rintro e w7 ⟨rfl, rfl⟩
        obtain ⟨g7, kq⟩ := new_block W6 (.cells #[.pointer (some ⟨xb, 0, none⟩)] 71)
        have L7 := Lib.hid (L6.out.trans (g7.mono L6.out.size))
        have HO7 := Lib.hid (HO6.out.below g7)
        have KW7 := Lib.hid (stays KW6.out g7)
        have hc2 := Lib.hid (item_fields x xb W6.heap.size _ (stays KX.out g7) kq)
        clear hc1 g7 kq KX
        go_wp2_with (fail)
        with_reducible refine hc2.out.mono ?_
        rintro e w8 ⟨vf, rfl, ho, hB⟩
        have L8 := Lib.hid (L7.out.trans (hB.mono L7.out.size))
        have HO8 := Lib.hid (HO7.out.below hB)
        have KW8 := Lib.hid (stays KW7.out hB)
        have hc3 := Lib.hid (code_Fields vf (itemF x) w8 ho.flds (itemF_ok HXO.out).2 (by have := itemB_len HXO.out; unfold itemB at this; omega) (by simp [itemF]))
        obtain ⟨ao3, cap3, rfl⟩ := owns_form ho
        clear hc2 ho hB
        go_wp2_with (fail)
        with_reducible refine hc3.out.mono ?_
        rintro e w9 ⟨ve, rfl, ho, hB⟩
        rw [itemB_bytes HXO.out] at ho
        have L9 := Lib.hid (L8.out.trans (hB.mono L8.out.size))
        have HO9 := HO8.out.below hB
        have KW9 := Lib.hid (stays KW8.out hB)
        have hlen : (partB p k).length + (itemB x).length ≤ 140737488355328 := by
          have h1 := partB_len HFT.out k (by have := HN.out; omega)
          have h2 := itemB_len HXO.out
          have := HN8.out
          omega
        have HBE := ho.bts
        clear hc3 ho hB
        have HLEN := Lib.hid hlen
        have HBEH := Lib.hid HBE
        have HO9H := Lib.hid HO9
        clear hlen HBE HO9
        go_wp2_with (at_builtin; (refine wpList_append_bts rfl _ _ rfl w.heap.size _ (partB p k) rfl HO9H.out _ (itemB x) _ rfl HBEH.out HLEN.out L9.out.size ?_))
        intro v2 w10 hown2 hg2 _
        have hB2 : Below w.heap.size w w10 := L9.out.grown hg2 L9.out.size (fun j hj => (HO9H.out.lt j hj).1)
        have KW10 : Hid (w10.heap[w.heap.size]? = some (.cells #[.int .i64 kind, .int .i64 frm, .int .i64 to, .int .i64 boot, .int .i64 life, .int .i64 echo, .int .i64 elife, .slice (some ⟨ib, off, none⟩) n cap] 24)) := (hg2.block _ (Array.getElem?_eq_some_iff.1 KW9.out).1 (fun e => by
          have h1 := HO9H.out.lt _ e.symm
          have h2 := Lib.ownsRow_kind HO9H.out _ e.symm
          obtain ⟨c, fz, hc⟩ := h2
          rw [KW9.out] at hc
          cases hc)).trans KW9.out
        have hps : partB p (k + 1) = partB p k ++ itemB x := by rw [HX.out]; exact partB_succ p k (by have := HN.out; omega)
        rw [← hps] at hown2
        have HO10 := Lib.hid hown2
        have HB10 := Lib.hid hB2
        obtain ⟨a5, cap5, hv5, -⟩ := hown2.bts
        obtain ⟨n5, hn5⟩ : ∃ n, n = (partB p (k + 1)).length := ⟨_, rfl⟩
        rw [← hn5] at hv5
        subst hv5
        have HN5 := Lib.hid hn5
        clear hown2 hg2 hB2 hps hn5 HO9H KW9
        go_wp2_with (fail)
        go_roundw
        case rel => exact ⟨k + 1, n5, a5, cap5, by omega, by go_num, rfl, HN5, HO10, HB10, KW10⟩
        case measure => simp [intOf] <;> omega
      · have hkn : ¬ ((k : Int) < (n : Int)) := by omega
        have hke : k = p.items.length := by have := HN.out; omega
        have hcon4 := Lib.hid (seal_Seal (.slice ab nb capb) (partB p k) wr wr.heap.size HO.out.bts (HT.out.below LW.out (by have := HT.out.lt; omega)) (Nat.le_refl _) (by have h1 := partB_len HFT.out k (by omega); have := HN8.out; omega))
        have HKE := Lib.hid hke
        clear hlt hke
        go_wp2_with (fail)
        with_reducible refine hcon4.out.mono ?_
        rintro e w5 ⟨vs, rfl, ho, hB⟩
        have L6 := LW.out.trans (hB.mono LW.out.size)
        rw [HKE.out, partB_all, ← HE.out] at ho
        have HO2 := Lib.hid (ho.mono LW.out.size)
        clear hcon4 ho hB c7
        go_wp2
        go_ret
        exact ⟨vs, rfl, HO2.out, L6⟩

end Go.Proofs.YtgnpjenpehfjbaaDoor

