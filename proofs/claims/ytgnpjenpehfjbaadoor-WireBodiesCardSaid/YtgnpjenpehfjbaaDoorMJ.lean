/- Wire: the document's ext (by program: wip/tools/gen_wire24.py).
Wire: an item's fields (by program: wip/tools/gen_wire22.py).
Wire: Encode (by program: wip/tools/gen_wire22.py). -/
import Derived.Test.YtgnpjenpehfjbaaDoorMH
import Derived.Test.YtgnpjenpehfjbaaDoorMB
import Derived.Test.YtgnpjenpehfjbaaDoorMC
import Derived.Test.YtgnpjenpehfjbaaDoorMI
set_option linter.unusedSimpArgs false
set_option linter.unusedVariables false
namespace Go.Proofs.YtgnpjenpehfjbaaDoor
open Go.RowKit

/-- what holds while a region runs that hands bytes from call to call: each call's answer is the region's own -/
def ChainJ (B : Nat) (w0 : World) (steps : List (Nat × List UInt8)) (last lastc : Nat) (d : Nat → Bool) (vs : Nat → Value) (W : World) : Prop :=
  Below w0.heap.size w0 W ∧ (∀ k l, steps.lookup k = some l → d k = true → Own W B (vs k) l ∧ d 0 = true) ∧ (d last = true → d lastc = true ∧ vs last = vs lastc)
theorem ChainJ.start {w0 : World} {B : Nat} {steps : List (Nat × List UInt8)} {last lastc : Nat} (vs : Nat → Value) : ChainJ B w0 steps last lastc (fun _ => false) vs w0.drew :=
  ⟨(Below.refl _ _).drew, (fun k l _ h => by cases h), (fun h => by cases h)⟩
theorem ChainJ.own {B : Nat} {w0 : World} {steps : List (Nat × List UInt8)} {last lastc : Nat} {d : Nat → Bool} {vs : Nat → Value} {W : World} (h : ChainJ B w0 steps last lastc d vs W) (k : Nat) (l : List UInt8) (hm : steps.lookup k = some l) (hd : d k = true) : Own W B (vs k) l ∧ d 0 = true := h.2.1 k l hm hd
theorem upd0 {d : Nat → Bool} {i j : Nat} (h : d j = true) : updC d i j = true := by unfold updC; split <;> simp [h]
theorem ChainJ.yield {B : Nat} {w0 : World} {steps : List (Nat × List UInt8)} {last lastc : Nat} {d : Nat → Bool} {vs : Nat → Value} {W : World} {i : Nat} {v : Value} (h : ChainJ B w0 steps last lastc d vs W) (hi : (steps.lookup i).isNone = true) (hl : last ≠ i) (hc : lastc ≠ i) : ChainJ B w0 steps last lastc (updC d i) (updW vs i v) W := by
  refine ⟨h.1, fun k l hs hd => ?_, fun hd => ?_⟩
  · have hne : k ≠ i := by rintro rfl; rw [hs] at hi; cases hi
    unfold updC at hd
    rw [if_neg hne] at hd
    unfold updW
    rw [if_neg hne]
    exact ⟨(h.2.1 k l hs hd).1, upd0 (h.2.1 k l hs hd).2⟩
  · unfold updC at hd
    rw [if_neg hl] at hd
    unfold updW
    rw [if_neg hl, if_neg hc]
    exact ⟨upd0 (h.2.2 hd).1, (h.2.2 hd).2⟩
theorem ChainJ.call {B : Nat} {w0 : World} {steps : List (Nat × List UInt8)} {last lastc : Nat} {d : Nat → Bool} {vs : Nat → Value} {W W' : World} {v : Value} (h : ChainJ B w0 steps last lastc d vs W) (i : Nat) (l : List UInt8) (hm : steps.lookup i = some l) (hl : last ≠ i) (hb : Below W.heap.size W W') (ho : Own W' B v l) (h0 : d 0 = true) (hdi : d i = false) : ChainJ B w0 steps last lastc (updC d i) (updW vs i v) W' := by
  refine ⟨h.1.trans (hb.mono h.1.size), fun k l' hs hd => ?_, fun hd => ?_⟩
  · by_cases e : k = i
    · subst e
      rw [hm] at hs
      cases hs
      unfold updW
      rw [if_pos rfl]
      exact ⟨ho, upd0 h0⟩
    · unfold updC at hd
      rw [if_neg e] at hd
      unfold updW
      rw [if_neg e]
      exact ⟨(h.2.1 k l' hs hd).1.below hb, upd0 h0⟩
  · unfold updC at hd
    rw [if_neg hl] at hd
    obtain ⟨h1, h2⟩ := h.2.2 hd
    have hne : lastc ≠ i := by rintro rfl; rw [hdi] at h1; cases h1
    unfold updW
    rw [if_neg hl, if_neg hne]
    exact ⟨upd0 h1, h2⟩
theorem ChainJ.last {B : Nat} {w0 : World} {steps : List (Nat × List UInt8)} {last lastc : Nat} {d : Nat → Bool} {vs : Nat → Value} {W : World} (h : ChainJ B w0 steps last lastc d vs W) (hi : (steps.lookup last).isNone = true) (hc : lastc ≠ last) (hd : d lastc = true) : ChainJ B w0 steps last lastc (updC d last) (updW vs last (vs lastc)) W := by
  refine ⟨h.1, fun k l hs hd => ?_, fun _ => ⟨upd0 hd, ?_⟩⟩
  · have hne : k ≠ last := by rintro rfl; rw [hs] at hi; cases hi
    unfold updC at hd
    rw [if_neg hne] at hd
    unfold updW
    rw [if_neg hne]
    exact ⟨(h.2.1 k l hs hd).1, upd0 (h.2.1 k l hs hd).2⟩
  · unfold updW
    rw [if_pos rfl, if_neg hc]
theorem ChainJ.nolast {B : Nat} {w0 : World} {steps : List (Nat × List UInt8)} {last lastc : Nat} {d : Nat → Bool} {vs : Nat → Value} {W : World} (h : ChainJ B w0 steps last lastc d vs W) (l : List UInt8) (hm : steps.lookup lastc = some l) (h0 : d 0 = false) : d last = false := by
  cases hl : d last with
  | false => rfl
  | true =>
    have := (h.2.1 lastc l hm (h.2.2 hl).1).2
    rw [h0] at this
    cases this

/-- a number as 64 bits -/
def numW (x : Int) : Nat := (x % 18446744073709551616).toNat
theorem numW_lt (x : Int) : numW x < 18446744073709551616 := by unfold numW; omega
theorem numW_wrap (x : Int) : IntKind.u64.wrap x = (numW x : Int) := by rw [IntKind.wrap_u64]; unfold numW; omega
theorem numW_mod (x : Int) : x % 18446744073709551616 = (numW x : Int) := by unfold numW; omega
theorem numW_nn {x : Int} (h : 0 ≤ x) (h1 : x < 18446744073709551616) : numW x = x.toNat := by unfold numW; omega
def extR (e : Xt) : List UInt8 := vint (flagN e.has) ++ (vint (zig e.val) ++ (vint (numW e.org) ++ vint (numW e.age)))
theorem num_len (x : Int) : (vint (numW x)).length ≤ 10 := (vint_len _ (numW_lt x)).2
theorem zig_len {y : Int} (h0 : -9223372036854775808 ≤ y) (h1 : y < 9223372036854775808) : (vint (zig y)).length ≤ 10 := (vint_len _ (zig_lt y h0 h1)).2
theorem flag_len (b : Bool) : (vint (flagN b)).length ≤ 10 := by cases b <;> decide

set_option maxRecDepth 100000 in
set_option maxHeartbeats 4000000 in
theorem xext_any (v : Value) (l : List UInt8) (has : Bool) (val org age : Int) (w : World) (h0 : -9223372036854775808 ≤ val) (h1 : val < 9223372036854775808) (hb : Bts w w.heap.size v l) (hl : l.length ≤ 999999000) :
    Calls Tryd.prog 68 #[v, .agg #[.bool has, .int .i64 val, .int .i64 org, .int .i64 age]] w fun x w' => ∃ v', x = .returned v' ∧ Own w' w.heap.size v' (l ++ extR ⟨has, val, org, age⟩) ∧ Below w.heap.size w w' := by
  have H01 : Hid (-9223372036854775808 ≤ val ∧ val < 9223372036854775808) := ⟨h0, h1⟩
  have HL := Lib.hid hl
  have HBV := Lib.hid hb
  obtain ⟨g0, kb⟩ := new_block w (.cells #[.bool has, .int .i64 val, .int .i64 org, .int .i64 age] 36)
  have LB := Lib.hid g0
  have KB := Lib.hid kb
  have HLN : Hid ((vint (flagN has)).length ≤ 10 ∧ (vint (zig val)).length ≤ 10 ∧ (vint (numW org)).length ≤ 10) := ⟨flag_len _, zig_len h0 h1, num_len _⟩
  clear h0 h1 hl hb g0 kb
  go_enter Tryd.func68, Tryd.ntmps68
  go_upto_region 1 with (fail)
  obtain ⟨W1, hW1⟩ : ∃ W, W = w.alloc (.cells #[.bool has, .int .i64 val, .int .i64 org, .int .i64 age] 36) := ⟨_, rfl⟩
  rw [← hW1] at LB KB ⊢
  obtain ⟨eb, heb⟩ : ∃ b, b = w.heap.size := ⟨_, rfl⟩
  rw [← heb] at KB
  simp only [← heb]
  have HBW : Hid (eb ≤ W1.heap.size) := by show _ ≤ _; rw [heb]; exact LB.out.size
  have HEB := Lib.hid heb
  clear hW1 heb
  refine wpIn_wide (n := 5).1 (wpIn_flowM2 (F0 := Fence.wide) (n0 := 5) (fun _ => trivial) (fun h => by cases h) (by kernel_rfl) (by kernel_rfl) 8 8 (by kernel_rfl) (fun j => ([0, 1, 2, 3, 4, 5, 6, 7] : List Nat).getD j 0) (fun j => ([5, 6, 7, 8, 9, 10, 11, 0] : List Nat).getD j 0) (by kernel_rfl) (by kernel_rfl) (by kernel_rfl) (by kernel_rfl) (by kernel_rfl) (by kernel_rfl) (by kernel_rfl) (fun j zv => ([(fun zv => zv = v), (fun zv => zv = (.pointer (some ⟨eb, 0, none⟩))), (fun zv => zv = (.bool has)), (fun _ => True), (fun zv => zv = (.pointer (some ⟨eb, 1, none⟩))), (fun zv => zv = (.int .i64 val)), (fun _ => True), (fun _ => True)] : List (Value → Prop)).getD j (fun _ => True) zv) (fun d vs W => ChainJ eb W1 [(3, (l ++ vint (flagN has))), (6, ((l ++ vint (flagN has)) ++ vint (zig val)))] 7 6 d vs W) ?h0p ?stepp ?finp)
  case h0p => exact fun vs => ChainJ.start vs
  case stepp =>
    intro i o a W d vs hi ho hdi hJ hf hr hF hz
    replace hi : i < 8 := hi
    rcases (show i = 0 ∨ i = 1 ∨ i = 2 ∨ i = 3 ∨ i = 4 ∨ i = 5 ∨ i = 6 ∨ i = 7 by omega) with rfl | rfl | rfl | rfl | rfl | rfl | rfl | rfl
    · replace ho := op_at ho (by rfl)
      subst ho
      have f0 : a.tmps.getD 0 undef = v := hz 7 (by decide) (show d 7 = false from hJ.nolast _ (by rfl) hdi)
      exact .inl ⟨(fun k b h => by cases h), .inl ⟨0, by decide, rfl, v, W, (by simp [go_sem, Act.eval, f0]), rfl, hJ.yield (by rfl) (by decide) (by decide)⟩⟩
    · replace ho := op_at ho (by rfl)
      subst ho
      have f3 : a.tmps.getD 3 undef = (.pointer (some ⟨eb, 0, none⟩)) := hf 3 (by kernel_rfl)
      exact .inl ⟨(fun k b h => by cases h), .inl ⟨1, by decide, rfl, (.pointer (some ⟨eb, 0, none⟩)), W, (by simp [go_sem, Act.eval, f3]), rfl, hJ.yield (by rfl) (by decide) (by decide)⟩⟩
    · replace ho := op_at ho (by rfl)
      subst ho
      have d1 : a.tmps.getD 6 undef = (.pointer (some ⟨eb, 0, none⟩)) := by have h1 := hF 1 (by decide) (hr 1 (by kernel_rfl)); exact h1.2.trans h1.1
      have c0 := cell_of_row _ _ 0 _ _ _ (stays KB.out hJ.1)
      exact .inl ⟨(fun k b h => by cases h), .inl ⟨2, by decide, rfl, (.bool has), W, (by simp [go_sem, Act.eval, d1, c0]), rfl, hJ.yield (by rfl) (by decide) (by decide)⟩⟩
    · replace ho := op_at ho (by rfl)
      subst ho
      have hbt := HBV.out.below (LB.out.trans (hJ.1.mono LB.out.size)) (LB.out.trans (hJ.1.mono LB.out.size)).size
      have d0b : d 0 = true := hr 0 (by kernel_rfl)
      have q0 : a.tmps.getD 5 undef = v := by have h1 := hF 0 (by decide) (hr 0 (by kernel_rfl)); exact h1.2.trans h1.1
      have q1 : a.tmps.getD 7 undef = (.bool has) := by have h1 := hF 2 (by decide) (hr 2 (by kernel_rfl)); exact h1.2.trans h1.1
      refine .inl ⟨(fun k b h => by cases h), .inr (.inr ⟨3, by decide, rfl, 66, #[v, (.bool has)], W, (by simp [go_sem, Act.eval, q0, q1]), ?_⟩)⟩
      refine (callsIn_wide.2 (ref_Flag _ _ _ W hbt (by (try simp only [List.length_append]); have := HL.out; have := HLN.out; omega))).mono ?_
      rintro e W' ⟨u, rfl, hO, hBe⟩
      exact ⟨u, rfl, trivial, hJ.call 3 _ (by rfl) (by decide) hBe (hO.mono (Nat.le_trans HBW.out hJ.1.size)) d0b hdi⟩
    · replace ho := op_at ho (by rfl)
      subst ho
      have f3 : a.tmps.getD 3 undef = (.pointer (some ⟨eb, 0, none⟩)) := hf 3 (by kernel_rfl)
      exact .inl ⟨(fun k b h => by cases h), .inl ⟨4, by decide, rfl, (.pointer (some ⟨eb, 1, none⟩)), W, (by simp [go_sem, Act.eval, f3]), rfl, hJ.yield (by rfl) (by decide) (by decide)⟩⟩
    · replace ho := op_at ho (by rfl)
      subst ho
      have d4 : a.tmps.getD 9 undef = (.pointer (some ⟨eb, 1, none⟩)) := by have h1 := hF 4 (by decide) (hr 4 (by kernel_rfl)); exact h1.2.trans h1.1
      have c1 := cell_of_row _ _ 1 _ _ _ (stays KB.out hJ.1)
      exact .inl ⟨(fun k b h => by cases h), .inl ⟨5, by decide, rfl, (.int .i64 val), W, (by simp [go_sem, Act.eval, d4, c1]), rfl, hJ.yield (by rfl) (by decide) (by decide)⟩⟩
    · replace ho := op_at ho (by rfl)
      subst ho
      have hbt := (hJ.own 3 _ (by rfl) (hr 3 (by kernel_rfl))).1.bts
      have d0b : d 0 = true := (hJ.own 3 _ (by rfl) (hr 3 (by kernel_rfl))).2
      have q0 : a.tmps.getD 8 undef = vs 3 := (hF 3 (by decide) (hr 3 (by kernel_rfl))).2
      have q1 : a.tmps.getD 10 undef = (.int .i64 val) := by have h1 := hF 5 (by decide) (hr 5 (by kernel_rfl)); exact h1.2.trans h1.1
      refine .inl ⟨(fun k b h => by cases h), .inr (.inr ⟨6, by decide, rfl, 67, #[(vs 3), (.int .i64 val)], W, (by simp [go_sem, Act.eval, q0, q1]), ?_⟩)⟩
      refine (callsIn_wide.2 (ref_Signed _ _ _ W H01.out.1 H01.out.2 hbt (by (try simp only [List.length_append]); have := HL.out; have := HLN.out; omega))).mono ?_
      rintro e W' ⟨u, rfl, hO, hBe⟩
      exact ⟨u, rfl, trivial, hJ.call 6 _ (by rfl) (by decide) hBe (hO.mono (Nat.le_trans HBW.out hJ.1.size)) d0b hdi⟩
    · replace ho := op_at ho (by rfl)
      subst ho
      have q0 : a.tmps.getD 11 undef = vs 6 := (hF 6 (by decide) (hr 6 (by kernel_rfl))).2
      exact .inl ⟨(fun k b h => by cases h), .inl ⟨7, by decide, rfl, vs 6, W, (by simp [go_sem, Act.eval, q0]), trivial, hJ.last (by rfl) (by decide) (hr 6 (by kernel_rfl))⟩⟩
  case finp =>
    intro d vs Wp hall hJ hF
    have h0 : vs 0 = v := hF 0 (by decide)
    have h1 : vs 1 = (.pointer (some ⟨eb, 0, none⟩)) := hF 1 (by decide)
    have h2 : vs 2 = (.bool has) := hF 2 (by decide)
    have h3 : (fun _ => True) (vs 3) := hF 3 (by decide)
    have h4 : vs 4 = (.pointer (some ⟨eb, 1, none⟩)) := hF 4 (by decide)
    have h5 : vs 5 = (.int .i64 val) := hF 5 (by decide)
    have h6 : (fun _ => True) (vs 6) := hF 6 (by decide)
    have h7 : (fun _ => True) (vs 7) := hF 7 (by decide)
    clear hF
    have hans := (hJ.2.2 (hall 7 (by decide))).2
    have hown := (hJ.own 6 _ (by rfl) (hall 6 (by decide))).1
    have hLB := hJ.1
    clear hJ hall h3 h6 h7
    show (_ : Exit → Act → World → Prop) Exit.normal (puts _ vs 8 _) Wp
    simp only [puts, h0, h1, h2, h4, h5, List.getD_cons_zero, List.getD_cons_succ]
    clear h0 h1 h2 h4 h5
    simp only [hans]
    generalize vs 6 = u1 at *
    clear hans
    have OW1 := Lib.hid hown
    have LB1 := Lib.hid hLB
    have KB1 := Lib.hid (stays KB.out hLB)
    clear hown hLB
    go_simp
    go_upto_region 2 with (fail)
    refine wpIn_wide (n := 5).1 (wpIn_flowM2 (F0 := Fence.wide) (n0 := 5) (fun _ => trivial) (fun h => by cases h) (by kernel_rfl) (by kernel_rfl) 10 10 (by kernel_rfl) (fun j => ([0, 1, 2, 3, 4, 5, 6, 7, 8, 9] : List Nat).getD j 0) (fun j => ([12, 13, 14, 15, 16, 17, 18, 19, 20, 4] : List Nat).getD j 0) (by kernel_rfl) (by kernel_rfl) (by kernel_rfl) (by kernel_rfl) (by kernel_rfl) (by kernel_rfl) (by kernel_rfl) (fun j zv => ([(fun zv => zv = u1), (fun zv => zv = (.pointer (some ⟨eb, 2, none⟩))), (fun zv => zv = (.int .i64 org)), (fun zv => zv = (.int .u64 (numW org : Int))), (fun _ => True), (fun zv => zv = (.pointer (some ⟨eb, 3, none⟩))), (fun zv => zv = (.int .i64 age)), (fun zv => zv = (.int .u64 (numW age : Int))), (fun _ => True), (fun _ => True)] : List (Value → Prop)).getD j (fun _ => True) zv) (fun d vs W => ChainJ eb Wp [(4, (((l ++ vint (flagN has)) ++ vint (zig val)) ++ vint (numW org))), (8, ((((l ++ vint (flagN has)) ++ vint (zig val)) ++ vint (numW org)) ++ vint (numW age)))] 9 8 d vs W) ?h0q ?stepq ?finq)
    case h0q => exact fun vs => ChainJ.start vs
    case stepq =>
      intro i o a W d vs hi ho hdi hJ hf hr hF hz
      replace hi : i < 10 := hi
      rcases (show i = 0 ∨ i = 1 ∨ i = 2 ∨ i = 3 ∨ i = 4 ∨ i = 5 ∨ i = 6 ∨ i = 7 ∨ i = 8 ∨ i = 9 by omega) with rfl | rfl | rfl | rfl | rfl | rfl | rfl | rfl | rfl | rfl
      · replace ho := op_at ho (by rfl)
        subst ho
        have f0 : a.tmps.getD 0 undef = u1 := hf 0 (by kernel_rfl)
        exact .inl ⟨(fun k b h => by cases h), .inl ⟨0, by decide, rfl, u1, W, (by simp [go_sem, Act.eval, f0]), rfl, hJ.yield (by rfl) (by decide) (by decide)⟩⟩
      · replace ho := op_at ho (by rfl)
        subst ho
        have f3 : a.tmps.getD 3 undef = (.pointer (some ⟨eb, 0, none⟩)) := hf 3 (by kernel_rfl)
        exact .inl ⟨(fun k b h => by cases h), .inl ⟨1, by decide, rfl, (.pointer (some ⟨eb, 2, none⟩)), W, (by simp [go_sem, Act.eval, f3]), rfl, hJ.yield (by rfl) (by decide) (by decide)⟩⟩
      · replace ho := op_at ho (by rfl)
        subst ho
        have d1 : a.tmps.getD 13 undef = (.pointer (some ⟨eb, 2, none⟩)) := by have h1 := hF 1 (by decide) (hr 1 (by kernel_rfl)); exact h1.2.trans h1.1
        have c2 := cell_of_row _ _ 2 _ _ _ (stays KB1.out hJ.1)
        exact .inl ⟨(fun k b h => by cases h), .inl ⟨2, by decide, rfl, (.int .i64 org), W, (by simp [go_sem, Act.eval, d1, c2]), rfl, hJ.yield (by rfl) (by decide) (by decide)⟩⟩
      · replace ho := op_at ho (by rfl)
        subst ho
        have d2 : a.tmps.getD 14 undef = (.int .i64 org) := by have h1 := hF 2 (by decide) (hr 2 (by kernel_rfl)); exact h1.2.trans h1.1
        exact .inl ⟨(fun k b h => by cases h), .inl ⟨3, by decide, rfl, (.int .u64 (numW org : Int)), W, (by simp [go_sem, Act.eval, d2, numW_wrap, numW_mod]), rfl, hJ.yield (by rfl) (by decide) (by decide)⟩⟩
      · replace ho := op_at ho (by rfl)
        subst ho
        have hbt := (OW1.out.below hJ.1).bts
        have d0b : d 0 = true := hr 0 (by kernel_rfl)
        have q0 : a.tmps.getD 12 undef = u1 := by have h1 := hF 0 (by decide) (hr 0 (by kernel_rfl)); exact h1.2.trans h1.1
        have q1 : a.tmps.getD 15 undef = (.int .u64 (numW org : Int)) := by have h1 := hF 3 (by decide) (hr 3 (by kernel_rfl)); exact h1.2.trans h1.1
        refine .inl ⟨(fun k b h => by cases h), .inr (.inr ⟨4, by decide, rfl, 38, #[u1, (.int .u64 (numW org : Int))], W, (by simp [go_sem, Act.eval, q0, q1]), ?_⟩)⟩
        refine (callsIn_wide.2 (ref_Number _ _ _ W (numW_lt _) hbt (by (try simp only [List.length_append]); have := HL.out; have := HLN.out; omega))).mono ?_
        rintro e W' ⟨u, rfl, hO, hBe⟩
        exact ⟨u, rfl, trivial, hJ.call 4 _ (by rfl) (by decide) hBe (hO.mono (Nat.le_trans (Nat.le_trans HBW.out LB1.out.size) hJ.1.size)) d0b hdi⟩
      · replace ho := op_at ho (by rfl)
        subst ho
        have f3 : a.tmps.getD 3 undef = (.pointer (some ⟨eb, 0, none⟩)) := hf 3 (by kernel_rfl)
        exact .inl ⟨(fun k b h => by cases h), .inl ⟨5, by decide, rfl, (.pointer (some ⟨eb, 3, none⟩)), W, (by simp [go_sem, Act.eval, f3]), rfl, hJ.yield (by rfl) (by decide) (by decide)⟩⟩
      · replace ho := op_at ho (by rfl)
        subst ho
        have d5 : a.tmps.getD 17 undef = (.pointer (some ⟨eb, 3, none⟩)) := by have h1 := hF 5 (by decide) (hr 5 (by kernel_rfl)); exact h1.2.trans h1.1
        have c3 := cell_of_row _ _ 3 _ _ _ (stays KB1.out hJ.1)
        exact .inl ⟨(fun k b h => by cases h), .inl ⟨6, by decide, rfl, (.int .i64 age), W, (by simp [go_sem, Act.eval, d5, c3]), rfl, hJ.yield (by rfl) (by decide) (by decide)⟩⟩
      · replace ho := op_at ho (by rfl)
        subst ho
        have d6 : a.tmps.getD 18 undef = (.int .i64 age) := by have h1 := hF 6 (by decide) (hr 6 (by kernel_rfl)); exact h1.2.trans h1.1
        exact .inl ⟨(fun k b h => by cases h), .inl ⟨7, by decide, rfl, (.int .u64 (numW age : Int)), W, (by simp [go_sem, Act.eval, d6, numW_wrap, numW_mod]), rfl, hJ.yield (by rfl) (by decide) (by decide)⟩⟩
      · replace ho := op_at ho (by rfl)
        subst ho
        have hbt := (hJ.own 4 _ (by rfl) (hr 4 (by kernel_rfl))).1.bts
        have d0b : d 0 = true := (hJ.own 4 _ (by rfl) (hr 4 (by kernel_rfl))).2
        have q0 : a.tmps.getD 16 undef = vs 4 := (hF 4 (by decide) (hr 4 (by kernel_rfl))).2
        have q1 : a.tmps.getD 19 undef = (.int .u64 (numW age : Int)) := by have h1 := hF 7 (by decide) (hr 7 (by kernel_rfl)); exact h1.2.trans h1.1
        refine .inl ⟨(fun k b h => by cases h), .inr (.inr ⟨8, by decide, rfl, 38, #[(vs 4), (.int .u64 (numW age : Int))], W, (by simp [go_sem, Act.eval, q0, q1]), ?_⟩)⟩
        refine (callsIn_wide.2 (ref_Number _ _ _ W (numW_lt _) hbt (by (try simp only [List.length_append]); have := HL.out; have := HLN.out; omega))).mono ?_
        rintro e W' ⟨u, rfl, hO, hBe⟩
        exact ⟨u, rfl, trivial, hJ.call 8 _ (by rfl) (by decide) hBe (hO.mono (Nat.le_trans (Nat.le_trans HBW.out LB1.out.size) hJ.1.size)) d0b hdi⟩
      · replace ho := op_at ho (by rfl)
        subst ho
        have q0 : a.tmps.getD 20 undef = vs 8 := (hF 8 (by decide) (hr 8 (by kernel_rfl))).2
        exact .inl ⟨(fun k b h => by cases h), .inl ⟨9, by decide, rfl, vs 8, W, (by simp [go_sem, Act.eval, q0]), trivial, hJ.last (by rfl) (by decide) (hr 8 (by kernel_rfl))⟩⟩
    case finq =>
      intro d vs Wq hall hJ hF
      have h0 : vs 0 = u1 := hF 0 (by decide)
      have h1 : vs 1 = (.pointer (some ⟨eb, 2, none⟩)) := hF 1 (by decide)
      have h2 : vs 2 = (.int .i64 org) := hF 2 (by decide)
      have h3 : vs 3 = (.int .u64 (numW org : Int)) := hF 3 (by decide)
      have h4 : (fun _ => True) (vs 4) := hF 4 (by decide)
      have h5 : vs 5 = (.pointer (some ⟨eb, 3, none⟩)) := hF 5 (by decide)
      have h6 : vs 6 = (.int .i64 age) := hF 6 (by decide)
      have h7 : vs 7 = (.int .u64 (numW age : Int)) := hF 7 (by decide)
      have h8 : (fun _ => True) (vs 8) := hF 8 (by decide)
      have h9 : (fun _ => True) (vs 9) := hF 9 (by decide)
      clear hF
      have hans := (hJ.2.2 (hall 9 (by decide))).2
      have hown := (hJ.own 8 _ (by rfl) (hall 8 (by decide))).1
      have hLB := hJ.1
      clear hJ hall h4 h8 h9
      show (_ : Exit → Act → World → Prop) Exit.normal (puts _ vs 10 _) Wq
      simp only [puts, h0, h1, h2, h3, h5, h6, h7, List.getD_cons_zero, List.getD_cons_succ]
      clear h0 h1 h2 h3 h5 h6 h7
      simp only [hans]
      generalize vs 8 = u2 at *
      clear hans
      have LB2 := LB1.out.trans (hLB.mono LB1.out.size)
      have LBA := LB.out.trans (LB2.mono LB.out.size)
      clear hLB
      go_simp
      go_wp2
      go_ret
      refine ⟨_, rfl, ?_, LBA⟩
      rw [HEB.out] at hown
      simpa [extR, List.append_assoc] using hown

end Go.Proofs.YtgnpjenpehfjbaaDoor

namespace Go.Proofs.YtgnpjenpehfjbaaDoor
open Go.RowKit

theorem item_calls (xb : Nat) (w : World) : Calls Tryd.prog 35 #[.pointer (some ⟨xb, 0, none⟩)] w fun e w' => e = .returned (.func (.func 61) #[] #[.pointer (some ⟨w.heap.size, 0, none⟩)]) ∧ w.alloc (.cells #[.pointer (some ⟨xb, 0, none⟩)] 71) = w' := by
  go_enter Tryd.func35, Tryd.ntmps35
  go_wp2
  go_ret
  exact ⟨rfl, by trivial⟩
theorem flowB_iff {x : Int} : flowB x = true ↔ -2147483647 ≤ x ∧ x ≤ 2147483647 := by unfold flowB; exact inB_iff
theorem extB_bounds {e : Xt} (h : extB e = true) : (-2147483647 ≤ e.val ∧ e.val ≤ 2147483647) ∧ (0 ≤ e.org ∧ e.org < 16) ∧ 0 ≤ e.age ∧ e.age ≤ 63 := by
  unfold extB at h
  cases hh : e.has
  · rw [hh] at h; simp at h; omega
  · rw [hh] at h
    simp only [if_true, Bool.and_eq_true, flowB_iff, nodeB_iff, inB_iff] at h
    omega
theorem zeroB_bounds {e : Xt} (h : e.zeroB = true) : (-2147483647 ≤ e.val ∧ e.val ≤ 2147483647) ∧ (0 ≤ e.org ∧ e.org < 16) ∧ 0 ≤ e.age ∧ e.age ≤ 63 := by
  have := Xt.zero_iff.1 h
  subst this
  simp [zeroX]
theorem regZ_bounds {x : Itm} (h : x.regZ = true) : (0 ≤ x.ver ∧ x.ver ≤ 1099511627776) ∧ (0 ≤ x.writer ∧ x.writer < 16) ∧ -2147483647 ≤ x.flow ∧ x.flow ≤ 2147483647 := by
  unfold Itm.regZ at h
  simp only [Bool.and_eq_true, beq_iff_eq] at h
  omega
theorem regB_bounds {x : Itm} (h : x.regB = true) : (0 ≤ x.ver ∧ x.ver ≤ 1099511627776) ∧ (0 ≤ x.writer ∧ x.writer < 16) ∧ -2147483647 ≤ x.flow ∧ x.flow ≤ 2147483647 := by
  unfold Itm.regB at h
  rw [Bool.or_eq_true] at h
  rcases h with h | h
  · exact regZ_bounds h
  · simp only [Bool.and_eq_true, flowB_iff, nodeB_iff, inB_iff] at h
    omega
structure ItmOk (x : Itm) : Prop where
  name : x.name.length ≤ 16
  epoch : 0 ≤ x.epoch ∧ x.epoch ≤ 1099511627776
  maker : 0 ≤ x.maker ∧ x.maker < 16
  kind : 0 ≤ x.kind ∧ x.kind ≤ 4
  scale : 0 ≤ x.scale ∧ x.scale ≤ 1048576
  reg : (0 ≤ x.ver ∧ x.ver ≤ 1099511627776) ∧ (0 ≤ x.writer ∧ x.writer < 16) ∧ -2147483647 ≤ x.flow ∧ x.flow ≤ 2147483647
  rest : -2147483647 ≤ x.rest ∧ x.rest ≤ 2147483647
  mn : (-2147483647 ≤ x.mn.val ∧ x.mn.val ≤ 2147483647) ∧ (0 ≤ x.mn.org ∧ x.mn.org < 16) ∧ 0 ≤ x.mn.age ∧ x.mn.age ≤ 63
  mx : (-2147483647 ≤ x.mx.val ∧ x.mx.val ≤ 2147483647) ∧ (0 ≤ x.mx.org ∧ x.mx.org < 16) ∧ 0 ≤ x.mx.age ∧ x.mx.age ≤ 63
theorem fitI_ok {x : Itm} (h : fitI x = true) : ItmOk x := by
  unfold fitI preB nameB at h
  simp only [Bool.and_eq_true, decide_eq_true_eq, nodeB_iff, inB_iff] at h
  obtain ⟨⟨hn, he, hm, hk1, hk2, hs⟩, hr⟩ := h
  have key : ((0 ≤ x.ver ∧ x.ver ≤ 1099511627776) ∧ (0 ≤ x.writer ∧ x.writer < 16) ∧ -2147483647 ≤ x.flow ∧ x.flow ≤ 2147483647) ∧ (-2147483647 ≤ x.rest ∧ x.rest ≤ 2147483647) ∧ ((-2147483647 ≤ x.mn.val ∧ x.mn.val ≤ 2147483647) ∧ (0 ≤ x.mn.org ∧ x.mn.org < 16) ∧ 0 ≤ x.mn.age ∧ x.mn.age ≤ 63) ∧ ((-2147483647 ≤ x.mx.val ∧ x.mx.val ≤ 2147483647) ∧ (0 ≤ x.mx.org ∧ x.mx.org < 16) ∧ 0 ≤ x.mx.age ∧ x.mx.age ≤ 63) := by
    unfold restB at hr
    split at hr
    · cases hr
    · split at hr
      · split at hr
        · simp only [Bool.and_eq_true, beq_iff_eq] at hr
          obtain ⟨⟨⟨⟨h1, -⟩, h3⟩, h4⟩, h5⟩ := hr
          exact ⟨regZ_bounds h1, by omega, extB_bounds h4, extB_bounds h5⟩
        · simp only [Bool.and_eq_true, flowB_iff] at hr
          obtain ⟨⟨⟨⟨h1, h2⟩, -⟩, h4⟩, h5⟩ := hr
          exact ⟨regB_bounds h1, h2, zeroB_bounds h4, zeroB_bounds h5⟩
      · simp only [Bool.and_eq_true, beq_iff_eq] at hr
        obtain ⟨⟨⟨⟨h1, -⟩, h3⟩, h4⟩, h5⟩ := hr
        exact ⟨regZ_bounds h1, by omega, zeroB_bounds h4, zeroB_bounds h5⟩
  exact ⟨by omega, by omega, by omega, by omega, by omega, key.1, key.2.1, key.2.2.1, key.2.2.2⟩
theorem fit_items {p : Pkt} (h : fitP p = true) : ∀ k, k < p.items.length → ItmOk (p.items.getD k nilI) := by
  intro k hk
  unfold fitP tailP at h
  simp only [Bool.and_eq_true] at h
  have h8 := h.2.2
  by_cases hkd : p.kind = 3 ∨ p.kind = 4
  · rw [if_pos hkd, Bool.and_eq_true] at h8
    have h9 := h8.1
    unfold itemsB at h9
    have := List.all_eq_true.1 h9 k (List.mem_range.2 hk)
    unfold goodAt at this
    rw [Bool.and_eq_true] at this
    exact fitI_ok this.1
  · rw [if_neg hkd] at h8
    have : p.items.length = 0 := by simpa using h8
    omega
end Go.Proofs.YtgnpjenpehfjbaaDoor

namespace Go.Proofs.YtgnpjenpehfjbaaDoor
open Go.RowKit

end Go.Proofs.YtgnpjenpehfjbaaDoor

