/- The law CodeFields, walked (by program: wip/tools/gen_cfields.py). -/
import Derived.Test.YtmekpmboghmfpaaDoorCodeFields
import Derived.Test.YtmekpmboghmfpaaDoorCodeAwake
import Derived.Test.YtmekpmboghmfpaaDoorFlow
namespace Go.Proofs.YtmekpmboghmfpaaDoor
open Go.RowKit

theorem Stays.bts (l : List UInt8) : Stays (fun v W => Bts W W.heap.size v l) := fun _ _ _ h hb => h.below hb hb.size

theorem fbytes_len (f : Fld) (h : FldOk f) : (fbytes f).length ≤ 10 + f.text.length := by
  obtain ⟨h1, h2, h3⟩ := h
  unfold fbytes
  split
  · have := vint_len f.num.toNat (by omega); omega
  · split
    · have := vint_len (zig f.num) (zig_lt _ h1 h2); omega
    · split
      · have := vint_len f.text.length (by omega); simp; omega
      · have := vint_len (flagN f.is_) (by unfold flagN; split <;> omega); omega
theorem fields_len (fs : List Fld) (h : ∀ f ∈ fs, FldOk f) : (fs.flatMap fbytes).length ≤ 10 * fs.length + (fs.map fun f => f.text.length).sum := by
  induction fs with
  | nil => simp
  | cons f r ih =>
    have h1 := fbytes_len f (h f List.mem_cons_self)
    have h2 := ih fun g hg => h g (List.mem_cons_of_mem _ hg)
    simp only [List.flatMap_cons, List.length_append, List.length_cons, List.map_cons, List.sum_cons]
    omega

set_option maxRecDepth 100000 in
set_option maxHeartbeats 4000000 in
theorem law_CodeFields (v : Value) (fs : List Fld) (w : World) (hv : Flds w w.heap.size v fs) (hok : ∀ f ∈ fs, FldOk f) (htot : (fs.flatMap fbytes).length ≤ 1000000000) (hl : fs.length ≤ 1000000000) :
    Calls Tryd.prog 9 #[v] w fun e w' => e = .returned (.bool true) ∧ Below w.heap.size w w' := by
  obtain ⟨ao, cap, rfl, _⟩ := id hv
  have HV := Lib.hid hv
  have HOK := Lib.hid hok
  clear hv hok
  go_enter Tryd.func9, Tryd.ntmps9
  go_wp2
  have hvb : ∀ W, Below w.heap.size w W → Flds W W.heap.size (.slice ao fs.length cap) fs := fun W h => HV.out.below h h.size
  refine wp_flow (by kernel_rfl) (by kernel_rfl) (fun i => if i = 10 then 2 else 3 + i) (by kernel_rfl) (by kernel_rfl) (by kernel_rfl) (fun i v W => ([(fun zv _ => zv = (.slice ao fs.length cap)), (fun zv zw => Bts zw zw.heap.size zv (fieldsB fs)), (fun zv _ => zv = (.string ⟨(fieldsB fs).toArray⟩)), (fun zv _ => zv = (.slice ao fs.length cap)), (fun zv zw => Bts zw zw.heap.size zv (fieldsB fs)), (fun zv _ => zv = (.string ⟨(fieldsB fs).toArray⟩)), (fun zv _ => zv = (.bool true)), (fun zv _ => zv = (.bool true)), (fun zv _ => zv = (.bool true)), (fun zv _ => zv = (.bool true)), (fun zv _ => zv = (.bool true))] : List (Value → World → Prop)).getD i (fun _ _ => True) v W) ?_ ?_ (by kernel_rfl) ?_
  · intro i hi
    replace hi : i < 11 := hi
    rcases (show i = 0 ∨ i = 1 ∨ i = 2 ∨ i = 3 ∨ i = 4 ∨ i = 5 ∨ i = 6 ∨ i = 7 ∨ i = 8 ∨ i = 9 ∨ i = 10 by omega) with rfl | rfl | rfl | rfl | rfl | rfl | rfl | rfl | rfl | rfl | rfl
    · exact Stays.eq _
    · exact Stays.bts _
    · exact Stays.eq _
    · exact Stays.eq _
    · exact Stays.bts _
    · exact Stays.eq _
    · exact Stays.eq _
    · exact Stays.eq _
    · exact Stays.eq _
    · exact Stays.eq _
    · exact Stays.eq _
  · intro i o a W hi ho hB hf hd
    replace hi : i < 11 := hi
    rcases (show i = 0 ∨ i = 1 ∨ i = 2 ∨ i = 3 ∨ i = 4 ∨ i = 5 ∨ i = 6 ∨ i = 7 ∨ i = 8 ∨ i = 9 ∨ i = 10 by omega) with rfl | rfl | rfl | rfl | rfl | rfl | rfl | rfl | rfl | rfl | rfl
    · replace ho := op_at ho (by rfl)
      subst ho
      have f0 : a.tmps.getD 0 undef = (.slice ao fs.length cap) := hf 0 (by kernel_rfl)
      refine ⟨(fun j b h => by cases h), FlowOp.pure _ (by simp [go_sem, Act.eval, f0]) rfl⟩
    · replace ho := op_at ho (by rfl)
      subst ho
      have d0 : a.tmps.getD 3 undef = (.slice ao fs.length cap) := hd 0 (by kernel_rfl)
      refine ⟨(fun j b h => by cases h), FlowOp.call 26 #[(.slice ao fs.length cap)] (by simp [go_sem, Act.eval, d0]) ?_⟩
      refine (code_Fields (.slice ao fs.length cap) fs W (hvb W hB) HOK.out htot hl).mono ?_
      rintro e W' ⟨u, rfl, hO, hBe⟩
      exact ⟨u, rfl, hBe, hO.bts⟩
    · replace ho := op_at ho (by rfl)
      subst ho
      have d1 : (fun zv zw => Bts zw zw.heap.size zv (fieldsB fs)) (a.tmps.getD 4 undef) W := hd 1 (by kernel_rfl)
      obtain ⟨x1, e1⟩ : ∃ x, a.tmps.getD 4 undef = x := ⟨_, rfl⟩
      rw [e1] at d1
      refine ⟨(fun j b h => by cases h), FlowOp.pure _ (by have h := d1.strB; simp [go_sem, Act.eval, h, e1]) rfl⟩
    · replace ho := op_at ho (by rfl)
      subst ho
      have f0 : a.tmps.getD 0 undef = (.slice ao fs.length cap) := hf 0 (by kernel_rfl)
      refine ⟨(fun j b h => by cases h), FlowOp.pure _ (by simp [go_sem, Act.eval, f0]) rfl⟩
    · replace ho := op_at ho (by rfl)
      subst ho
      have d3 : a.tmps.getD 6 undef = (.slice ao fs.length cap) := hd 3 (by kernel_rfl)
      refine ⟨(fun j b h => by cases h), FlowOp.call 27 #[(.slice ao fs.length cap)] (by simp [go_sem, Act.eval, d3]) ?_⟩
      refine (ref_Fields (.slice ao fs.length cap) fs W (hvb W hB) HOK.out htot hl).mono ?_
      rintro e W' ⟨u, rfl, hO, hBe⟩
      exact ⟨u, rfl, hBe, hO.bts⟩
    · replace ho := op_at ho (by rfl)
      subst ho
      have d4 : (fun zv zw => Bts zw zw.heap.size zv (fieldsB fs)) (a.tmps.getD 7 undef) W := hd 4 (by kernel_rfl)
      obtain ⟨x4, e4⟩ : ∃ x, a.tmps.getD 7 undef = x := ⟨_, rfl⟩
      rw [e4] at d4
      refine ⟨(fun j b h => by cases h), FlowOp.pure _ (by have h := d4.strB; simp [go_sem, Act.eval, h, e4]) rfl⟩
    · replace ho := op_at ho (by rfl)
      subst ho
      have d2 : a.tmps.getD 5 undef = (.string ⟨(fieldsB fs).toArray⟩) := hd 2 (by kernel_rfl)
      have d5 : a.tmps.getD 8 undef = (.string ⟨(fieldsB fs).toArray⟩) := hd 5 (by kernel_rfl)
      refine ⟨(fun j b h => by cases h), FlowOp.pure _ (by simp [go_sem, Act.eval, d2, d5]) rfl⟩
    · replace ho := op_at ho (by rfl)
      subst ho
      have d6 : a.tmps.getD 9 undef = (.bool true) := hd 6 (by kernel_rfl)
      refine ⟨(fun j b h => by cases h), FlowOp.pure _ (by simp [go_sem, Act.eval, d6]) rfl⟩
    · replace ho := op_at ho (by rfl)
      subst ho
      have d7 : a.tmps.getD 10 undef = (.bool true) := hd 7 (by kernel_rfl)
      refine ⟨(fun j b h => by cases h; exact d7), FlowOp.call 28 #[] (by simp [go_sem, Act.eval]) ?_⟩
      refine (awake_true W).mono ?_
      rintro e W' ⟨rfl, hBe⟩
      exact ⟨_, rfl, hBe, rfl⟩
    · replace ho := op_at ho (by rfl)
      subst ho
      have d7 : a.tmps.getD 10 undef = (.bool true) := hd 7 (by kernel_rfl)
      have d8 : a.tmps.getD 11 undef = (.bool true) := hd 8 (by kernel_rfl)
      refine ⟨(fun j b h => by cases h), FlowOp.pure _ (by simp [go_sem, Act.eval, d7, d8]) rfl⟩
    · replace ho := op_at ho (by rfl)
      subst ho
      have d9 : a.tmps.getD 12 undef = (.bool true) := hd 9 (by kernel_rfl)
      refine ⟨(fun j b h => by cases h), FlowOp.pure _ (by simp [go_sem, Act.eval, d9]) rfl⟩
  · intro vs4 W4 hB4 hv
    have h0 : vs4 0 = (.slice ao fs.length cap) := hv 0 (show 0 < 11 by decide)
    have h1 : (fun zv zw => Bts zw zw.heap.size zv (fieldsB fs)) (vs4 1) W4 := hv 1 (show 1 < 11 by decide)
    have h2 : vs4 2 = (.string ⟨(fieldsB fs).toArray⟩) := hv 2 (show 2 < 11 by decide)
    have h3 : vs4 3 = (.slice ao fs.length cap) := hv 3 (show 3 < 11 by decide)
    have h4 : (fun zv zw => Bts zw zw.heap.size zv (fieldsB fs)) (vs4 4) W4 := hv 4 (show 4 < 11 by decide)
    have h5 : vs4 5 = (.string ⟨(fieldsB fs).toArray⟩) := hv 5 (show 5 < 11 by decide)
    have h6 : vs4 6 = (.bool true) := hv 6 (show 6 < 11 by decide)
    have h7 : vs4 7 = (.bool true) := hv 7 (show 7 < 11 by decide)
    have h8 : vs4 8 = (.bool true) := hv 8 (show 8 < 11 by decide)
    have h9 : vs4 9 = (.bool true) := hv 9 (show 9 < 11 by decide)
    have h10 : vs4 10 = (.bool true) := hv 10 (show 10 < 11 by decide)
    clear hv
    show (_ : Exit → Act → World → Prop) Exit.normal (puts _ vs4 11 _) W4
    simp only [puts, h0, h2, h3, h5, h6, h7, h8, h9, h10]
    clear h0 h2 h3 h5 h6 h7 h8 h9 h10
    clear hvb
    go_simp
    go_wp2
    go_ret
    exact ⟨rfl, hB4⟩

end Go.Proofs.YtmekpmboghmfpaaDoor
