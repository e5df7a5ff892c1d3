/- The contracts of the library's functions at this seat's program, laid by the kit's shelf in plain words: each one application of a theorem of the kit.
Blanks and hexadecimal digits, both sides (by program: wip/tools/gen_sq2.py).
Scripts, plain: reading a quoted name from the left. -/
import Derived.Shelf.Strings.Builder1
import Derived.Shelf.Small.Strs
import Derived.Shelf.Strings.BuilderF
import Derived.Shelf.Strings.BuilderK
import Derived.Shelf.Strconv.Itoa0
import Derived.Shelf.Strconv.Itoa1
import Derived.Shelf.LaysM
import Derived.Shelf.Strconv.Itoa2
import Derived.Shelf.Strconv.Itoa3
import Derived.Shelf.Strconv.Itoa4
import Derived.Shelf.Strconv.ParseIntEmpty
import Derived.Shelf.Strconv.Clone
import Derived.Shelf.Strconv.SyntaxError
import Derived.Shelf.LaysC
import Derived.Shelf.Strconv.ToError
import Derived.Shelf.Strconv.Lower
import Derived.Shelf.Strconv.ParseUint10
import Derived.Shelf.Strconv.ParseUint10Empty
import Derived.Shelf.Strconv.ParseUint10Any
import Derived.Shelf.Strconv.ParseInt10
import Derived.Shelf.Strconv.RangeError
import Derived.Shelf.Strconv.ToErrorRange
import Derived.Shelf.Strconv.ParseUintEmpty
import Derived.Shelf.Strconv.ParseUint10b64
import Derived.Shelf.Strconv.ParseUint10b32
import Derived.Shelf.Strconv.ParseUint10b16
import Derived.Shelf.Strconv.ParseUint10b8
import Derived.Shelf.Strconv.ParseUint10At
import Derived.Shelf.Strconv.ParseInt10At64
import Derived.Shelf.Strconv.ParseInt10At32
import Derived.Shelf.Strconv.ParseInt10At16
import Derived.Shelf.Strconv.ParseInt10At8
import Derived.Shelf.Strconv.ParseInt10All
import Derived.Shelf.Strconv.ParseIntPublic10
import Derived.Shelf.Strings.Search1
import Derived.Shelf.Strings.Search2
import Derived.Shelf.Strings.Cut
import Derived.Shelf.Strings.Shaped
import Derived.Shelf.Strings.BuilderCap
import Derived.Test.YtaeoghagpeihkaaDoorProg
import Derived.Test.YtaeoghagpeihkaaDoorSB
import Derived.Lib.Bytealg
import Derived.Test.YtaeoghagpeihkaaDoorSA
set_option linter.unusedSimpArgs false
set_option linter.unusedVariables false
namespace Go.Proofs
open Go.Shelf
def Tryd.lays169_ren : Go.Shelf.Ren := ⟨fun | 169 => 31 | n => n, fun | 70 => 67 | 9 => 9 | 0 => 0 | 72 => 69 | 37 => 39 | 127 => 94 | 3 => 3 | 5 => 5 | n => n, fun | n => n⟩
theorem Tryd.lays169 : Go.Proofs.Lays.n169 Tryd.prog Tryd.lays169_ren := {
  mixed := by kernel_rfl
  f169 := Tryd.func31.trans (congrArg some (by kernel_rfl))
  t0 := Tryd.underlying0
  a0 := Tryd.isAgg0
  z0 := Tryd.sizeOf0
  v0 := Tryd.zeroValue0
  t3 := Tryd.underlying3
  a3 := Tryd.isAgg3
  z3 := Tryd.sizeOf3
  v3 := Tryd.zeroValue3
  t9 := Tryd.underlying9
  a9 := Tryd.isAgg9
  z9 := Tryd.sizeOf9
  v9 := Tryd.zeroValue9
  t37 := Tryd.underlying39
  a37 := Tryd.isAgg39
  z37 := Tryd.sizeOf39
  v37 := Tryd.zeroValue39
  t70 := Tryd.underlying67
  a70 := Tryd.isAgg67
  z70 := Tryd.sizeOf67
  v70 := Tryd.zeroValue67
  t72 := Tryd.underlying69
  a72 := Tryd.isAgg69
  z72 := Tryd.sizeOf69
  v72 := Tryd.zeroValue69
  t127 := Tryd.underlying94
  a127 := Tryd.isAgg94
  z127 := Tryd.sizeOf94
  v127 := Tryd.zeroValue94 }
theorem Tryd.Builder_Extra_169 : Builder.Extra Tryd.prog Tryd.lays169_ren := {
  sizeBuilder := by kernel_rfl
  liesBuilder := by kernel_rfl
  t5 := Tryd.underlying5
  a5 := Tryd.isAgg5
  z5 := Tryd.sizeOf5
  v5 := Tryd.zeroValue5
  infoByte := by kernel_rfl
  cellsByte := by kernel_rfl
  sizeByte := by kernel_rfl
  neB5 := by decide }
open Go.RowKit in
def Tryd.lays137_ren : Go.Shelf.Ren := ⟨fun | 137 => 59 | 217 => 67 | 266 => 78 | n => n, fun | 9 => 9 | 5 => 5 | 3 => 3 | n => n, fun | n => n⟩
theorem Tryd.lays137 : Go.Proofs.Lays.n137 Tryd.prog Tryd.lays137_ren := {
  mixed := by kernel_rfl
  f137 := Tryd.func59.trans (congrArg some (by kernel_rfl))
  f217 := Tryd.func67.trans (congrArg some (by kernel_rfl))
  f266 := Tryd.func78.trans (congrArg some (by kernel_rfl))
  t3 := Tryd.underlying3
  a3 := Tryd.isAgg3
  z3 := Tryd.sizeOf3
  v3 := Tryd.zeroValue3
  t5 := Tryd.underlying5
  a5 := Tryd.isAgg5
  z5 := Tryd.sizeOf5
  v5 := Tryd.zeroValue5
  t9 := Tryd.underlying9
  a9 := Tryd.isAgg9
  z9 := Tryd.sizeOf9
  v9 := Tryd.zeroValue9 }
open Go.RowKit in
theorem Tryd.strings_IndexByte (s : ByteArray) (c : Int) (w : World) :
    Calls Tryd.prog 59 #[.string s, .int .u8 c] w fun e w' => e = .returned (.int .i64 (Lib.indexByte s.data.toList c.toNat.toUInt8)) ∧ w' = w := Any.strings_IndexByte Tryd.lays137 s c w
open Go.RowKit in
theorem Tryd.Builder_String_any_k (B b : Nat) (l : List UInt8) (w : World) (h : Lib.IsBuilderF 69 5 B b (Lib.byteCells l) w) (hBw : B ≤ w.heap.size) :
    Calls Tryd.prog 31 #[.pointer (some ⟨b, 0, none⟩)] w fun e w' => e = .returned (.string ⟨l.toArray⟩) ∧ (Lib.IsBuilderF 69 5 B b (Lib.byteCells l) w' ∧ Below B w w' ∧ Lib.OthersKept 5 (some b) w w') := Any.Builder_String_any_k Tryd.lays169 Tryd.Builder_Extra_169 B b l w h hBw
open Go.RowKit Go.Sort Go.Lib in
open Go.RowKit Go.Sort Go.Lib in
def Tryd.laysM171_ren : Go.Shelf.Ren := ⟨fun | 171 => 27 | 243 => 45 | 246 => 46 | 283 => 53 | 284 => 54 | 285 => 55 | 286 => 56 | 129 => 63 | 317 => 62 | 318 => 64 | 319 => 65 | 320 => 66 | 337 => 76 | 338 => 77 | n => n, fun | 3 => 3 | 9 => 9 | 2 => 2 | 4 => 4 | 171 => 99 | 0 => 0 | 53 => 40 | 37 => 39 | 5 => 5 | 173 => 102 | 212 => 111 | 51 => 112 | 20 => 20 | 213 => 113 | 46 => 77 | 232 => 129 | 233 => 130 | n => n, fun | 17 => 0 | 18 => 4 | 19 => 5 | n => n⟩
theorem Tryd.laysM171 : Go.Proofs.LaysM.n171 Tryd.prog Tryd.laysM171_ren := {
  mixed := by kernel_rfl
  f129 := Tryd.func63.trans (congrArg some (by kernel_rfl))
  f171 := Tryd.func27.trans (congrArg some (by kernel_rfl))
  f243 := Tryd.func45.trans (congrArg some (by kernel_rfl))
  f246 := Tryd.func46.trans (congrArg some (by kernel_rfl))
  f283 := Tryd.func53.trans (congrArg some (by kernel_rfl))
  f284 := Tryd.func54.trans (congrArg some (by kernel_rfl))
  f285 := Tryd.func55.trans (congrArg some (by kernel_rfl))
  f286 := Tryd.func56.trans (congrArg some (by kernel_rfl))
  f317 := Tryd.func62.trans (congrArg some (by kernel_rfl))
  f318 := Tryd.func64.trans (congrArg some (by kernel_rfl))
  f319 := Tryd.func65.trans (congrArg some (by kernel_rfl))
  f320 := Tryd.func66.trans (congrArg some (by kernel_rfl))
  f337 := Tryd.func76.trans (congrArg some (by kernel_rfl))
  f338 := Tryd.func77.trans (congrArg some (by kernel_rfl))
  t0 := Tryd.underlying0
  a0 := Tryd.isAgg0
  z0 := Tryd.sizeOf0
  v0 := Tryd.zeroValue0
  t2 := Tryd.underlying2
  a2 := Tryd.isAgg2
  z2 := Tryd.sizeOf2
  v2 := Tryd.zeroValue2
  t3 := Tryd.underlying3
  a3 := Tryd.isAgg3
  z3 := Tryd.sizeOf3
  v3 := Tryd.zeroValue3
  t4 := Tryd.underlying4
  a4 := Tryd.isAgg4
  z4 := Tryd.sizeOf4
  v4 := Tryd.zeroValue4
  t5 := Tryd.underlying5
  a5 := Tryd.isAgg5
  z5 := Tryd.sizeOf5
  v5 := Tryd.zeroValue5
  t9 := Tryd.underlying9
  a9 := Tryd.isAgg9
  z9 := Tryd.sizeOf9
  v9 := Tryd.zeroValue9
  t20 := Tryd.underlying20
  a20 := Tryd.isAgg20
  z20 := Tryd.sizeOf20
  v20 := Tryd.zeroValue20
  t37 := Tryd.underlying39
  a37 := Tryd.isAgg39
  z37 := Tryd.sizeOf39
  v37 := Tryd.zeroValue39
  t46 := Tryd.underlying77
  a46 := Tryd.isAgg77
  z46 := Tryd.sizeOf77
  v46 := Tryd.zeroValue77
  t51 := Tryd.underlying112
  a51 := Tryd.isAgg112
  z51 := Tryd.sizeOf112
  v51 := Tryd.zeroValue112
  t53 := Tryd.underlying40
  a53 := Tryd.isAgg40
  z53 := Tryd.sizeOf40
  v53 := Tryd.zeroValue40
  t171 := Tryd.underlying99
  a171 := Tryd.isAgg99
  z171 := Tryd.sizeOf99
  v171 := Tryd.zeroValue99
  t173 := Tryd.underlying102
  a173 := Tryd.isAgg102
  z173 := Tryd.sizeOf102
  v173 := Tryd.zeroValue102
  t212 := Tryd.underlying111
  a212 := Tryd.isAgg111
  z212 := Tryd.sizeOf111
  v212 := Tryd.zeroValue111
  t213 := Tryd.underlying113
  a213 := Tryd.isAgg113
  z213 := Tryd.sizeOf113
  t232 := Tryd.underlying129
  a232 := Tryd.isAgg129
  z232 := Tryd.sizeOf129
  v232 := Tryd.zeroValue129
  t233 := Tryd.underlying130
  a233 := Tryd.isAgg130
  z233 := Tryd.sizeOf130
  v233 := Tryd.zeroValue130
  g17 := by kernel_rfl
  g18 := by kernel_rfl
  g19 := by kernel_rfl
  i0 := by kernel_rfl
  i2 := by kernel_rfl
  i3 := by kernel_rfl
  i4 := by kernel_rfl
  i5 := by kernel_rfl
  i9 := by kernel_rfl
  i20 := by kernel_rfl
  i37 := by kernel_rfl
  i46 := by kernel_rfl
  i51 := by kernel_rfl
  i53 := by kernel_rfl
  i171 := by kernel_rfl
  i173 := by kernel_rfl
  i212 := by kernel_rfl
  i232 := by kernel_rfl
  i233 := by kernel_rfl
  m17 := by kernel_rfl
  m18 := by kernel_rfl
  m19 := by kernel_rfl }
open Go.RowKit Go.Sort Go.Lib in
theorem Tryd.strconv_Itoa (n : Int) (h0 : -9223372036854775808 ≤ n) (h1 : n ≤ 9223372036854775807) (w : World) (htab : Lib.TabIs Tryd.prog w "internal/strconv.uint64pow10" .u64 Lib.pow10Tab) :
    Calls Tryd.prog 27 #[.int .i64 n] w fun e w' => e = .returned (.string ⟨(Lib.itoa n).toArray⟩) ∧ ∃ k os, w' = grow (w.drewN k) os := Any.strconv_Itoa Tryd.laysM171 n h0 h1 w htab
def Tryd.laysM173_ren : Go.Shelf.Ren := ⟨fun | 173 => 28 | 246 => 46 | 283 => 53 | 284 => 54 | 285 => 55 | 286 => 56 | 129 => 63 | 317 => 62 | 318 => 64 | 319 => 65 | 320 => 66 | 337 => 76 | 338 => 77 | n => n, fun | 2 => 2 | 3 => 3 | 9 => 9 | 4 => 4 | 171 => 99 | 0 => 0 | 53 => 40 | 37 => 39 | 5 => 5 | 173 => 102 | 212 => 111 | 51 => 112 | 20 => 20 | 213 => 113 | 46 => 77 | 232 => 129 | 233 => 130 | n => n, fun | 17 => 0 | 18 => 4 | 19 => 5 | n => n⟩
theorem Tryd.laysM173 : Go.Proofs.LaysM.n173 Tryd.prog Tryd.laysM173_ren := {
  mixed := by kernel_rfl
  f129 := Tryd.func63.trans (congrArg some (by kernel_rfl))
  f173 := Tryd.func28.trans (congrArg some (by kernel_rfl))
  f246 := Tryd.func46.trans (congrArg some (by kernel_rfl))
  f283 := Tryd.func53.trans (congrArg some (by kernel_rfl))
  f284 := Tryd.func54.trans (congrArg some (by kernel_rfl))
  f285 := Tryd.func55.trans (congrArg some (by kernel_rfl))
  f286 := Tryd.func56.trans (congrArg some (by kernel_rfl))
  f317 := Tryd.func62.trans (congrArg some (by kernel_rfl))
  f318 := Tryd.func64.trans (congrArg some (by kernel_rfl))
  f319 := Tryd.func65.trans (congrArg some (by kernel_rfl))
  f320 := Tryd.func66.trans (congrArg some (by kernel_rfl))
  f337 := Tryd.func76.trans (congrArg some (by kernel_rfl))
  f338 := Tryd.func77.trans (congrArg some (by kernel_rfl))
  t0 := Tryd.underlying0
  a0 := Tryd.isAgg0
  z0 := Tryd.sizeOf0
  v0 := Tryd.zeroValue0
  t2 := Tryd.underlying2
  a2 := Tryd.isAgg2
  z2 := Tryd.sizeOf2
  v2 := Tryd.zeroValue2
  t3 := Tryd.underlying3
  a3 := Tryd.isAgg3
  z3 := Tryd.sizeOf3
  v3 := Tryd.zeroValue3
  t4 := Tryd.underlying4
  a4 := Tryd.isAgg4
  z4 := Tryd.sizeOf4
  v4 := Tryd.zeroValue4
  t5 := Tryd.underlying5
  a5 := Tryd.isAgg5
  z5 := Tryd.sizeOf5
  v5 := Tryd.zeroValue5
  t9 := Tryd.underlying9
  a9 := Tryd.isAgg9
  z9 := Tryd.sizeOf9
  v9 := Tryd.zeroValue9
  t20 := Tryd.underlying20
  a20 := Tryd.isAgg20
  z20 := Tryd.sizeOf20
  v20 := Tryd.zeroValue20
  t37 := Tryd.underlying39
  a37 := Tryd.isAgg39
  z37 := Tryd.sizeOf39
  v37 := Tryd.zeroValue39
  t46 := Tryd.underlying77
  a46 := Tryd.isAgg77
  z46 := Tryd.sizeOf77
  v46 := Tryd.zeroValue77
  t51 := Tryd.underlying112
  a51 := Tryd.isAgg112
  z51 := Tryd.sizeOf112
  v51 := Tryd.zeroValue112
  t53 := Tryd.underlying40
  a53 := Tryd.isAgg40
  z53 := Tryd.sizeOf40
  v53 := Tryd.zeroValue40
  t171 := Tryd.underlying99
  a171 := Tryd.isAgg99
  z171 := Tryd.sizeOf99
  v171 := Tryd.zeroValue99
  t173 := Tryd.underlying102
  a173 := Tryd.isAgg102
  z173 := Tryd.sizeOf102
  v173 := Tryd.zeroValue102
  t212 := Tryd.underlying111
  a212 := Tryd.isAgg111
  z212 := Tryd.sizeOf111
  v212 := Tryd.zeroValue111
  t213 := Tryd.underlying113
  a213 := Tryd.isAgg113
  z213 := Tryd.sizeOf113
  t232 := Tryd.underlying129
  a232 := Tryd.isAgg129
  z232 := Tryd.sizeOf129
  v232 := Tryd.zeroValue129
  t233 := Tryd.underlying130
  a233 := Tryd.isAgg130
  z233 := Tryd.sizeOf130
  v233 := Tryd.zeroValue130
  g17 := by kernel_rfl
  g18 := by kernel_rfl
  g19 := by kernel_rfl
  i0 := by kernel_rfl
  i2 := by kernel_rfl
  i3 := by kernel_rfl
  i4 := by kernel_rfl
  i5 := by kernel_rfl
  i9 := by kernel_rfl
  i20 := by kernel_rfl
  i37 := by kernel_rfl
  i46 := by kernel_rfl
  i51 := by kernel_rfl
  i53 := by kernel_rfl
  i171 := by kernel_rfl
  i173 := by kernel_rfl
  i212 := by kernel_rfl
  i232 := by kernel_rfl
  i233 := by kernel_rfl
  m17 := by kernel_rfl
  m18 := by kernel_rfl
  m19 := by kernel_rfl }
open Go.RowKit Go.Sort Go.Lib in
theorem Tryd.strconv_FormatInt_10 (n : Int) (h0 : -9223372036854775808 ≤ n) (h1 : n ≤ 9223372036854775807) (w : World) (htab : Lib.TabIs Tryd.prog w "internal/strconv.uint64pow10" .u64 Lib.pow10Tab) :
    Calls Tryd.prog 28 #[.int .i64 n, .int .i64 10] w fun e w' => e = .returned (.string ⟨(Lib.itoa n).toArray⟩) ∧ ∃ k os, w' = grow (w.drewN k) os := Any.strconv_FormatInt_10 Tryd.laysM173 n h0 h1 w htab
end Go.Proofs

namespace Go.Proofs.YtaeoghagpeihkaaDoor
open Go.RowKit

theorem blankB_iff (c : UInt8) : blankB c = ((((c.toNat : Int) == 32) || ((c.toNat : Int) == 9)) || ((c.toNat : Int) == 13)) := by
  have h : ∀ c : Fin 256, blankB (UInt8.ofNat c.1) = (((((UInt8.ofNat c.1).toNat : Int) == 32) || (((UInt8.ofNat c.1).toNat : Int) == 9)) || (((UInt8.ofNat c.1).toNat : Int) == 13)) := by decide +kernel
  have := h ⟨c.toNat, c.toNat_lt⟩
  simpa using this
theorem hexF_idx (c : UInt8) : Lib.indexByte [48, 49, 50, 51, 52, 53, 54, 55, 56, 57, 97, 98, 99, 100, 101, 102] c = hexF c := by
  have h : ∀ c : Fin 256, Lib.indexByte [48, 49, 50, 51, 52, 53, 54, 55, 56, 57, 97, 98, 99, 100, 101, 102] (UInt8.ofNat c.1) = hexF (UInt8.ofNat c.1) := by decide +kernel
  have := h ⟨c.toNat, c.toNat_lt⟩
  simpa using this
theorem hexF_hexd (i : Nat) (hi : i < 16) : hexF (hexd i) = (i : Int) := by
  have h : ∀ i : Fin 16, hexF (hexd i.1) = (i.1 : Int) := by decide +kernel
  exact h ⟨i, hi⟩
theorem hexF_none {c : UInt8} (h : ∀ j : Nat, j < 16 → ¬ hexd j = c) : hexF c = -1 := by
  have g : ∀ c : Fin 256, (∃ j : Fin 16, hexd j.1 = UInt8.ofNat c.1) ∨ hexF (UInt8.ofNat c.1) = -1 := by decide +kernel
  rcases g ⟨c.toNat, c.toNat_lt⟩ with ⟨j, hj⟩ | hg
  · exact absurd (by simpa using hj) (h j.1 j.2)
  · simpa using hg
theorem exec_hexidx64 {o : Oper} {a : Act} {W : World} (y : Operand) (ho : o.op = .index 9 (.const (.string ⟨#[48, 49, 50, 51, 52, 53, 54, 55, 56, 57, 97, 98, 99, 100, 101, 102]⟩)) y) (n : Nat) (hn : n < 16) (hy : a.eval y = .int .i64 (n : Int)) : (execOp a.eval o).run Tryd.prog W = .ok (.value (.int .u8 ((hexd n).toNat : Int))) W := by
  unfold execOp
  simp only [ho, hy]
  rcases (show n = 0 ∨ n = 1 ∨ n = 2 ∨ n = 3 ∨ n = 4 ∨ n = 5 ∨ n = 6 ∨ n = 7 ∨ n = 8 ∨ n = 9 ∨ n = 10 ∨ n = 11 ∨ n = 12 ∨ n = 13 ∨ n = 14 ∨ n = 15 by omega) with rfl | rfl | rfl | rfl | rfl | rfl | rfl | rfl | rfl | rfl | rfl | rfl | rfl | rfl | rfl | rfl <;> kernel_rfl
theorem hexF_lt (c : UInt8) : -1 ≤ hexF c ∧ hexF c ≤ 15 := by unfold hexF; split <;> (try split) <;> omega

set_option maxRecDepth 100000 in
theorem rblank_any (c : UInt8) (w : World) : Calls Tryd.prog 41 #[.int .u8 (c.toNat : Int)] w fun e w' => e = .returned (.bool (blankB c)) ∧ w = w' := by
  obtain ⟨x, hx⟩ : ∃ x : Int, x = (c.toNat : Int) := ⟨_, rfl⟩
  have hb := blankB_iff c
  rw [← hx] at hb ⊢
  rw [hb]
  by_cases h1 : x = 32
  · subst h1
    go_enter Tryd.func41, Tryd.ntmps41
    go_wp2
    go_ret
    exact ⟨rfl, rfl⟩
  by_cases h2 : x = 9
  · subst h2
    go_enter Tryd.func41, Tryd.ntmps41
    go_wp2
    go_ret
    exact ⟨rfl, rfl⟩
  by_cases h3 : x = 13
  · subst h3
    go_enter Tryd.func41, Tryd.ntmps41
    go_wp2
    go_ret
    exact ⟨rfl, rfl⟩
  have e1 : (x == 32) = false := by rw [beq_eq_false_iff_ne]; exact h1
  have e2 : (x == 9) = false := by rw [beq_eq_false_iff_ne]; exact h2
  have e3 : (x == 13) = false := by rw [beq_eq_false_iff_ne]; exact h3
  go_enter Tryd.func41, Tryd.ntmps41
  go_wp2
  go_ret
  exact ⟨by simp [e1, e2, e3] <;> omega, rfl⟩

set_option maxRecDepth 100000 in
theorem blank_any (c : UInt8) (w : World) : Calls Tryd.prog 37 #[.int .u8 (c.toNat : Int)] w fun e w' => e = .returned (.bool (blankB c)) ∧ w = w' := by
  obtain ⟨x, hx⟩ : ∃ x : Int, x = (c.toNat : Int) := ⟨_, rfl⟩
  have hb := blankB_iff c
  rw [← hx] at hb ⊢
  rw [hb]
  by_cases h1 : x = 32
  · subst h1
    go_enter Tryd.func37, Tryd.ntmps37
    go_wp2
    go_ret
    exact ⟨rfl, rfl⟩
  by_cases h2 : x = 9
  · subst h2
    go_enter Tryd.func37, Tryd.ntmps37
    go_wp2
    go_ret
    exact ⟨rfl, rfl⟩
  by_cases h3 : x = 13
  · subst h3
    go_enter Tryd.func37, Tryd.ntmps37
    go_wp2
    go_ret
    exact ⟨rfl, rfl⟩
  have e1 : (x == 32) = false := by rw [beq_eq_false_iff_ne]; exact h1
  have e2 : (x == 9) = false := by rw [beq_eq_false_iff_ne]; exact h2
  have e3 : (x == 13) = false := by rw [beq_eq_false_iff_ne]; exact h3
  go_enter Tryd.func37, Tryd.ntmps37
  go_wp2
  go_ret
  exact ⟨by simp [e1, e2, e3] <;> omega, rfl⟩

set_option maxRecDepth 100000 in
theorem hex_any (c : UInt8) (w : World) : Calls Tryd.prog 49 #[.int .u8 (c.toNat : Int)] w fun e w' => e = .returned (.int .i64 (hexF c)) ∧ w = w' := by
  have hcon := Tryd.strings_IndexByte ⟨#[48, 49, 50, 51, 52, 53, 54, 55, 56, 57, 97, 98, 99, 100, 101, 102]⟩ (c.toNat : Int) w
  rw [show (((c.toNat : Int)).toNat.toUInt8) = c by simp, hexF_idx] at hcon
  go_enter Tryd.func49, Tryd.ntmps49
  go_wp2_with (fail)
  with_reducible refine hcon.mono ?_
  rintro e w' ⟨rfl, rfl⟩
  go_wp2
  go_ret
  exact ⟨rfl, rfl⟩
set_option maxRecDepth 100000 in
theorem digit_any (c : UInt8) (w : World) : Calls Tryd.prog 51 #[.int .u8 (c.toNat : Int)] w fun e w' => e = .returned (.int .i64 (hexF c)) ∧ w = w' := by
  go_enter Tryd.func51, Tryd.ntmps51
  go_wp2_with (fail)
  go_loopw [3] (fun iv wr => ∃ i : Nat, i ≤ 16 ∧ iv = .int .i64 (i : Int) ∧ Hid (∀ j : Nat, j < i → ¬ hexd j = c) ∧ wr = w) (fun iv _ => 16 - (intOf iv).toNat)
  case atStart => exact ⟨0, by omega, rfl, (fun j hj => by omega), rfl⟩
  case round =>
    obtain ⟨i, hi, rfl, HN, rfl⟩ := hrel
    by_cases hlt : i < 16
    · go_upto_region 4 with (fail)
      refine wp_region_lit ?_
      refine wpList_run (v := .int .i64 (i : Int)) (w' := wr) rfl (by simp [go_sem, Act.eval]) ?_
      refine wpList_run (v := .int .u8 ((hexd i).toNat : Int)) (w' := wr) rfl (exec_hexidx64 _ rfl i hlt rfl) ?_
      by_cases hq : hexd i = c
      · subst hq
        go_wp2_with (fail)
        go_ret
        exact ⟨by rw [hexF_hexd i hlt]; rfl, rfl⟩
      · have hne : (((hexd i).toNat : Int) == (c.toNat : Int)) = false := by
          rw [beq_eq_false_iff_ne]
          intro e
          exact hq (UInt8.toNat_inj.1 (by omega))
        go_wp2_with (fail)
        go_roundw
        case rel => exact ⟨i + 1, by omega, by go_num, (fun j hj => by
          by_cases e : j = i
          · subst e; exact hq
          · exact HN.out j (by omega)), by trivial⟩
        case measure => simp [intOf] <;> omega
    · have hE : hexF c = -1 := hexF_none (fun j hj => HN.out j (by omega))
      go_wp2_with (fail)
      go_ret
      exact ⟨by rw [hE]; rfl, rfl⟩

end Go.Proofs.YtaeoghagpeihkaaDoor

namespace Go.Proofs.YtaeoghagpeihkaaDoor

/-- read up to i, behind the quotation mark at a: what was read says cur -/
def QI (L : List UInt8) (a i : Nat) (cur : List UInt8) : Prop := a + 1 ≤ i ∧ qF (L.drop (a + 1)) = (qF (L.drop i)).map fun p => (cur ++ p.1, p.2 + (i - (a + 1)))
theorem QI.start (L : List UInt8) (a : Nat) : QI L a (a + 1) [] := ⟨Nat.le_refl _, by cases h : qF (L.drop (a + 1)) <;> simp [h]⟩
theorem QI.none_of {L : List UInt8} {a i : Nat} {cur : List UInt8} (h : QI L a i cur) (hn : qF (L.drop i) = none) : qF (L.drop (a + 1)) = none := by rw [h.2, hn]; rfl
theorem QI.done {L : List UInt8} {a i : Nat} {cur : List UInt8} (h : QI L a i cur) (hi : L.length ≤ i) : qF (L.drop (a + 1)) = none := by
  refine h.none_of ?_
  rw [List.drop_eq_nil_of_le hi]
  unfold qF
  rfl
theorem drop_at {L : List UInt8} {i : Nat} (hi : i < L.length) : L.drop i = L[i] :: L.drop (i + 1) := List.drop_eq_getElem_cons hi
theorem QI.step {L : List UInt8} {a i j : Nat} {cur : List UInt8} {x : UInt8} (h : QI L a i cur) (hj : i ≤ j) (hq : qF (L.drop i) = (qF (L.drop j)).map fun p => (x :: p.1, p.2 + (j - i))) : QI L a j (cur ++ [x]) := by
  refine ⟨Nat.le_trans h.1 hj, ?_⟩
  rw [h.2, hq]
  have h1 := h.1
  cases qF (L.drop j) with
  | none => rfl
  | some p =>
    simp only [Option.map_some, List.append_assoc, List.singleton_append]
    congr 2
    omega
theorem QI.quote {L : List UInt8} {a i : Nat} {cur : List UInt8} (h : QI L a i cur) (hi : i < L.length) (hc : L[i] = 34) : qF (L.drop (a + 1)) = some (cur, i + 1 - (a + 1)) := by
  have h1 := h.1
  rw [h.2, drop_at hi, hc]
  unfold qF
  simp
  omega
theorem QI.ctl {L : List UInt8} {a i : Nat} {cur : List UInt8} (h : QI L a i cur) (hi : i < L.length) (hq : L[i] ≠ 34) (hc : (L[i]).toNat < 32 ∨ 126 < (L[i]).toNat) : qF (L.drop (a + 1)) = none := by
  refine h.none_of ?_
  rw [drop_at hi]
  unfold qF
  rw [if_neg hq, if_pos hc]
theorem QI.plain {L : List UInt8} {a i : Nat} {cur : List UInt8} (h : QI L a i cur) (hi : i < L.length) (hq : L[i] ≠ 34) (hc : ¬ ((L[i]).toNat < 32 ∨ 126 < (L[i]).toNat)) (hb : L[i] ≠ 92) : QI L a (i + 1) (cur ++ [L[i]]) := by
  refine h.step (by omega) ?_
  conv => lhs; rw [drop_at hi]; unfold qF
  rw [if_neg hq, if_neg hc, if_pos hb, show i + 1 - i = 1 by omega]
theorem n92 : ¬ ((92 : UInt8) = 34) ∧ ¬ ((92 : UInt8).toNat < 32 ∨ 126 < (92 : UInt8).toNat) ∧ ¬ ((92 : UInt8) ≠ 92) := by decide
theorem QI.esc {L : List UInt8} {a i : Nat} {cur : List UInt8} (h : QI L a i cur) (hi : i + 1 < L.length) (hb : L[i]'(by omega) = 92) (hd : L[i + 1] = 34 ∨ L[i + 1] = 92) : QI L a (i + 2) (cur ++ [L[i + 1]]) := by
  refine h.step (by omega) ?_
  conv => lhs; rw [drop_at (show i < L.length by omega), hb, drop_at hi]; unfold qF
  rw [if_neg n92.1, if_neg n92.2.1, if_neg n92.2.2]
  simp only
  rw [if_pos hd, show i + 2 - i = 2 by omega]
theorem QI.hex {L : List UInt8} {a i : Nat} {cur : List UInt8} (h : QI L a i cur) (hi : i + 3 < L.length) (hb : L[i]'(by omega) = 92) (hx : L[i + 1]'(by omega) = 120) (h2 : 0 ≤ hexF (L[i + 2]'(by omega))) (h3 : 0 ≤ hexF (L[i + 3])) : QI L a (i + 4) (cur ++ [UInt8.ofNat (16 * (hexF (L[i + 2]'(by omega))).toNat + (hexF (L[i + 3])).toNat)]) := by
  refine h.step (by omega) ?_
  conv => lhs; rw [drop_at (show i < L.length by omega), hb, drop_at (show i + 1 < L.length by omega), hx, drop_at (show i + 1 + 1 < L.length by omega), drop_at (show i + 1 + 1 + 1 < L.length by omega)]; unfold qF
  rw [if_neg n92.1, if_neg n92.2.1, if_neg n92.2.2]
  simp only
  rw [if_neg (by decide), if_pos ⟨trivial, h2, h3⟩, show i + 4 - i = 4 by omega]
theorem QI.bad {L : List UInt8} {a i : Nat} {cur : List UInt8} (h : QI L a i cur) (hi : i < L.length) (hb : L[i] = 92) (hd : ∀ hj : i + 1 < L.length, ¬ (L[i + 1] = 34 ∨ L[i + 1] = 92))
    (hx : ∀ hj : i + 3 < L.length, ¬ (L[i + 1] = 120 ∧ 0 ≤ hexF (L[i + 2]) ∧ 0 ≤ hexF (L[i + 3]))) : qF (L.drop (a + 1)) = none := by
  refine h.none_of ?_
  rw [drop_at hi, hb]
  unfold qF
  rw [if_neg n92.1, if_neg n92.2.1, if_neg n92.2.2]
  by_cases h1 : i + 1 < L.length
  · rw [drop_at h1]
    simp only
    rw [if_neg (hd h1)]
    by_cases h3 : i + 3 < L.length
    · rw [drop_at (show i + 1 + 1 < L.length by omega), drop_at (show i + 1 + 1 + 1 < L.length by omega)]
      simp only
      rw [if_neg (hx h3)]
    · by_cases h2 : i + 2 < L.length
      · rw [drop_at (show i + 1 + 1 < L.length by omega), List.drop_eq_nil_of_le (show L.length ≤ i + 1 + 1 + 1 by omega)]
      · rw [List.drop_eq_nil_of_le (show L.length ≤ i + 1 + 1 by omega)]
  · rw [List.drop_eq_nil_of_le (show L.length ≤ i + 1 by omega)]
theorem qF_len_m : ∀ (m : Nat) (l : List UInt8) (t : List UInt8) (n : Nat), l.length ≤ m → qF l = some (t, n) → 1 ≤ n ∧ n ≤ l.length ∧ t.length < n := by
  intro m
  induction m with
  | zero =>
    intro l t n hl h
    cases l with
    | nil => unfold qF at h; cases h
    | cons c r => simp at hl
  | succ m ih =>
    intro l t n hl h
    have key : ∀ (r : List UInt8) (x : UInt8) (k : Nat), r.length + k ≤ l.length → 1 ≤ k → ((qF r).map fun p => (x :: p.1, p.2 + k)) = some (t, n) → 1 ≤ n ∧ n ≤ l.length ∧ t.length < n := by
      intro r x k hr hk he
      rw [Option.map_eq_some_iff] at he
      obtain ⟨⟨a, b⟩, e, hab⟩ := he
      simp only [Prod.mk.injEq] at hab
      obtain ⟨rfl, rfl⟩ := hab
      have := ih r a b (by omega) e
      simp only [List.length_cons]
      omega
    cases l with
    | nil => unfold qF at h; cases h
    | cons c r =>
      unfold qF at h
      simp only [List.length_cons] at key ⊢
      split at h
      · cases h; simp
      · split at h
        · cases h
        · split at h
          · exact key r _ 1 (by omega) (by omega) h
          · cases r with
            | nil => cases h
            | cons d r1 =>
              simp only at h
              split at h
              · exact key r1 _ 2 (by simp) (by omega) h
              · cases r1 with
                | nil => cases h
                | cons h1 r2 =>
                  cases r2 with
                  | nil => cases h
                  | cons h2 r3 =>
                    simp only at h
                    split at h
                    · exact key r3 _ 4 (by simp) (by omega) h
                    · cases h
theorem qF_len (l : List UInt8) (t : List UInt8) (n : Nat) (h : qF l = some (t, n)) : 1 ≤ n ∧ n ≤ l.length ∧ t.length < n := qF_len_m _ l t n (Nat.le_refl _) h

end Go.Proofs.YtaeoghagpeihkaaDoor

