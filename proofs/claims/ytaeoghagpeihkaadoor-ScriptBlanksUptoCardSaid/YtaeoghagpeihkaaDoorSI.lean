/- The contracts of the library's functions at this seat's program, laid by the kit's shelf in plain words: each one application of a theorem of the kit.
The program's number of a word (by program: wip/tools/gen_snum3.py).
Scripts: equality of steps as the program's words have it; a number's text (by program: wip/tools/gen_seq.py).
Scripts, plain: a step's line as it grows (by program: wip/tools/gen_sline.py). -/
import Derived.Shelf.Strings.Builder1
import Derived.Shelf.Small.Strs
import Derived.Shelf.Strings.BuilderF
import Derived.Shelf.Strings.BuilderK
import Derived.Shelf.Strconv.Itoa0
import Derived.Shelf.Strconv.Itoa1
import Derived.Shelf.LaysM
import Derived.Shelf.Strconv.Itoa2
import Derived.Shelf.Strconv.Itoa3
import Derived.Shelf.Strconv.Itoa4
import Derived.Shelf.Strconv.ParseIntEmpty
import Derived.Shelf.Strconv.Clone
import Derived.Shelf.Strconv.SyntaxError
import Derived.Shelf.LaysC
import Derived.Shelf.Strconv.ToError
import Derived.Shelf.Strconv.Lower
import Derived.Shelf.Strconv.ParseUint10
import Derived.Shelf.Strconv.ParseUint10Empty
import Derived.Shelf.Strconv.ParseUint10Any
import Derived.Shelf.Strconv.ParseInt10
import Derived.Shelf.Strconv.RangeError
import Derived.Shelf.Strconv.ToErrorRange
import Derived.Shelf.Strconv.ParseUintEmpty
import Derived.Shelf.Strconv.ParseUint10b64
import Derived.Shelf.Strconv.ParseUint10b32
import Derived.Shelf.Strconv.ParseUint10b16
import Derived.Shelf.Strconv.ParseUint10b8
import Derived.Shelf.Strconv.ParseUint10At
import Derived.Shelf.Strconv.ParseInt10At64
import Derived.Shelf.Strconv.ParseInt10At32
import Derived.Shelf.Strconv.ParseInt10At16
import Derived.Shelf.Strconv.ParseInt10At8
import Derived.Shelf.Strconv.ParseInt10All
import Derived.Shelf.Strconv.ParseIntPublic10
import Derived.Shelf.Strings.Search1
import Derived.Shelf.Strings.Search2
import Derived.Shelf.Strings.Cut
import Derived.Shelf.Strings.Shaped
import Derived.Shelf.Strings.BuilderCap
import Derived.Test.YtaeoghagpeihkaaDoorProg
import Derived.Test.YtaeoghagpeihkaaDoorSH
import Derived.Lib.ParseIntBTie
import Derived.Lib.AtoiErrMem
import Derived.Lib.IndexBytes
import Derived.Lib.LaidTab
set_option linter.unusedSimpArgs false
set_option linter.unusedVariables false
namespace Go.Proofs
open Go.Shelf
def Tryd.laysC174_ren : Go.Shelf.Ren := ⟨fun | 174 => 50 | 247 => 60 | 245 => 61 | 287 => 71 | 279 => 72 | 280 => 73 | 281 => 74 | 282 => 75 | 321 => 80 | 322 => 81 | 316 => 82 | 171 => 27 | 205 => 83 | 243 => 45 | 246 => 46 | 283 => 53 | 284 => 54 | 285 => 55 | 286 => 56 | 129 => 63 | 317 => 62 | 318 => 64 | 319 => 65 | 320 => 66 | 337 => 76 | 338 => 77 | n => n, fun | 9 => 9 | 3 => 3 | 2 => 2 | 75 => 71 | 85 => 96 | 4 => 4 | 167 => 116 | 5 => 5 | 53 => 40 | 175 => 117 | 46 => 77 | 168 => 119 | 37 => 39 | 0 => 0 | 210 => 127 | 21 => 21 | 127 => 94 | 145 => 133 | 143 => 131 | 171 => 99 | 173 => 102 | 212 => 111 | 51 => 112 | 20 => 20 | 213 => 113 | 232 => 129 | 233 => 130 | 80 => 75 | n => n, fun | 15 => 2 | 16 => 3 | 17 => 0 | 18 => 4 | 19 => 5 | n => n⟩
theorem Tryd.laysC174 : Go.Proofs.LaysC.n174 Tryd.prog Tryd.laysC174_ren := {
  mixed := by kernel_rfl
  f129 := Tryd.func63.trans (congrArg some (by kernel_rfl))
  f171 := Tryd.func27.trans (congrArg some (by kernel_rfl))
  f174 := Tryd.func50.trans (congrArg some (by kernel_rfl))
  f205 := Tryd.func83.trans (congrArg some (by kernel_rfl))
  f243 := Tryd.func45.trans (congrArg some (by kernel_rfl))
  f245 := Tryd.func61.trans (congrArg some (by kernel_rfl))
  f246 := Tryd.func46.trans (congrArg some (by kernel_rfl))
  f247 := Tryd.func60.trans (congrArg some (by kernel_rfl))
  f279 := Tryd.func72.trans (congrArg some (by kernel_rfl))
  f280 := Tryd.func73.trans (congrArg some (by kernel_rfl))
  f281 := Tryd.func74.trans (congrArg some (by kernel_rfl))
  f282 := Tryd.func75.trans (congrArg some (by kernel_rfl))
  f283 := Tryd.func53.trans (congrArg some (by kernel_rfl))
  f284 := Tryd.func54.trans (congrArg some (by kernel_rfl))
  f285 := Tryd.func55.trans (congrArg some (by kernel_rfl))
  f286 := Tryd.func56.trans (congrArg some (by kernel_rfl))
  f287 := Tryd.func71.trans (congrArg some (by kernel_rfl))
  f316 := Tryd.func82.trans (congrArg some (by kernel_rfl))
  f317 := Tryd.func62.trans (congrArg some (by kernel_rfl))
  f318 := Tryd.func64.trans (congrArg some (by kernel_rfl))
  f319 := Tryd.func65.trans (congrArg some (by kernel_rfl))
  f320 := Tryd.func66.trans (congrArg some (by kernel_rfl))
  f321 := Tryd.func80.trans (congrArg some (by kernel_rfl))
  f322 := Tryd.func81.trans (congrArg some (by kernel_rfl))
  f337 := Tryd.func76.trans (congrArg some (by kernel_rfl))
  f338 := Tryd.func77.trans (congrArg some (by kernel_rfl))
  t0 := Tryd.underlying0
  a0 := Tryd.isAgg0
  z0 := Tryd.sizeOf0
  v0 := Tryd.zeroValue0
  t2 := Tryd.underlying2
  a2 := Tryd.isAgg2
  z2 := Tryd.sizeOf2
  v2 := Tryd.zeroValue2
  t3 := Tryd.underlying3
  a3 := Tryd.isAgg3
  z3 := Tryd.sizeOf3
  v3 := Tryd.zeroValue3
  t4 := Tryd.underlying4
  a4 := Tryd.isAgg4
  z4 := Tryd.sizeOf4
  v4 := Tryd.zeroValue4
  t5 := Tryd.underlying5
  a5 := Tryd.isAgg5
  z5 := Tryd.sizeOf5
  v5 := Tryd.zeroValue5
  t9 := Tryd.underlying9
  a9 := Tryd.isAgg9
  z9 := Tryd.sizeOf9
  v9 := Tryd.zeroValue9
  t20 := Tryd.underlying20
  a20 := Tryd.isAgg20
  z20 := Tryd.sizeOf20
  v20 := Tryd.zeroValue20
  t21 := Tryd.underlying21
  a21 := Tryd.isAgg21
  z21 := Tryd.sizeOf21
  v21 := Tryd.zeroValue21
  t37 := Tryd.underlying39
  a37 := Tryd.isAgg39
  z37 := Tryd.sizeOf39
  v37 := Tryd.zeroValue39
  t46 := Tryd.underlying77
  a46 := Tryd.isAgg77
  z46 := Tryd.sizeOf77
  v46 := Tryd.zeroValue77
  t51 := Tryd.underlying112
  a51 := Tryd.isAgg112
  z51 := Tryd.sizeOf112
  v51 := Tryd.zeroValue112
  t53 := Tryd.underlying40
  a53 := Tryd.isAgg40
  z53 := Tryd.sizeOf40
  v53 := Tryd.zeroValue40
  t75 := Tryd.underlying71
  a75 := Tryd.isAgg71
  z75 := Tryd.sizeOf71
  v75 := Tryd.zeroValue71
  t85 := Tryd.underlying96
  a85 := Tryd.isAgg96
  z85 := Tryd.sizeOf96
  v85 := Tryd.zeroValue96
  t127 := Tryd.underlying94
  a127 := Tryd.isAgg94
  z127 := Tryd.sizeOf94
  v127 := Tryd.zeroValue94
  t143 := Tryd.underlying131
  a143 := Tryd.isAgg131
  z143 := Tryd.sizeOf131
  v143 := Tryd.zeroValue131
  t145 := Tryd.underlying133
  a145 := Tryd.isAgg133
  z145 := Tryd.sizeOf133
  v145 := Tryd.zeroValue133
  t167 := Tryd.underlying116
  a167 := Tryd.isAgg116
  z167 := Tryd.sizeOf116
  v167 := Tryd.zeroValue116
  t168 := Tryd.underlying119
  a168 := Tryd.isAgg119
  z168 := Tryd.sizeOf119
  v168 := Tryd.zeroValue119
  t171 := Tryd.underlying99
  a171 := Tryd.isAgg99
  z171 := Tryd.sizeOf99
  v171 := Tryd.zeroValue99
  t173 := Tryd.underlying102
  a173 := Tryd.isAgg102
  z173 := Tryd.sizeOf102
  v173 := Tryd.zeroValue102
  t175 := Tryd.underlying117
  a175 := Tryd.isAgg117
  z175 := Tryd.sizeOf117
  v175 := Tryd.zeroValue117
  t210 := Tryd.underlying127
  a210 := Tryd.isAgg127
  z210 := Tryd.sizeOf127
  v210 := Tryd.zeroValue127
  t212 := Tryd.underlying111
  a212 := Tryd.isAgg111
  z212 := Tryd.sizeOf111
  v212 := Tryd.zeroValue111
  t213 := Tryd.underlying113
  a213 := Tryd.isAgg113
  z213 := Tryd.sizeOf113
  t232 := Tryd.underlying129
  a232 := Tryd.isAgg129
  z232 := Tryd.sizeOf129
  v232 := Tryd.zeroValue129
  t233 := Tryd.underlying130
  a233 := Tryd.isAgg130
  z233 := Tryd.sizeOf130
  v233 := Tryd.zeroValue130
  g15 := by kernel_rfl
  g16 := by kernel_rfl
  g17 := by kernel_rfl
  g18 := by kernel_rfl
  g19 := by kernel_rfl
  t80 := Tryd.underlying75
  a80 := Tryd.isAgg75
  z80 := Tryd.sizeOf75
  v80 := Tryd.zeroValue75
  i0 := by kernel_rfl
  i2 := by kernel_rfl
  i3 := by kernel_rfl
  i4 := by kernel_rfl
  i5 := by kernel_rfl
  i9 := by kernel_rfl
  i20 := by kernel_rfl
  i21 := by kernel_rfl
  i37 := by kernel_rfl
  i46 := by kernel_rfl
  i51 := by kernel_rfl
  i53 := by kernel_rfl
  i75 := by kernel_rfl
  i80 := by kernel_rfl
  i85 := by kernel_rfl
  i127 := by kernel_rfl
  i143 := by kernel_rfl
  i145 := by kernel_rfl
  i167 := by kernel_rfl
  i168 := by kernel_rfl
  i171 := by kernel_rfl
  i173 := by kernel_rfl
  i175 := by kernel_rfl
  i210 := by kernel_rfl
  i212 := by kernel_rfl
  i232 := by kernel_rfl
  i233 := by kernel_rfl
  m15 := by kernel_rfl
  m16 := by kernel_rfl
  m17 := by kernel_rfl
  m18 := by kernel_rfl
  m19 := by kernel_rfl
  c0 := by kernel_rfl
  c2 := by kernel_rfl
  c3 := by kernel_rfl
  c4 := by kernel_rfl
  c5 := by kernel_rfl
  c9 := by kernel_rfl
  c20 := by kernel_rfl
  c21 := by kernel_rfl
  c37 := by kernel_rfl
  c46 := by kernel_rfl
  c51 := by kernel_rfl
  c53 := by kernel_rfl
  c75 := by kernel_rfl
  c80 := by kernel_rfl
  c85 := by kernel_rfl
  c127 := by kernel_rfl
  c143 := by kernel_rfl
  c145 := by kernel_rfl
  c167 := by kernel_rfl
  c168 := by kernel_rfl
  c171 := by kernel_rfl
  c173 := by kernel_rfl
  c175 := by kernel_rfl
  c210 := by kernel_rfl
  c212 := by kernel_rfl
  c213 := by kernel_rfl
  c232 := by kernel_rfl
  c233 := by kernel_rfl }
open Go.RowKit in
theorem Tryd.strconv_ParseInt_10_at64_ok (s : ByteArray) (hmax : s.size ≤ 9223372036854775806) (v : Int) (h : Lib.parseIntB 64 s.data.toList = .ok v) (w : World) :
    Calls Tryd.prog 50 #[.string s, .int .i64 10, .int .i64 64] w fun e w' => e = .returned (.tuple #[.int .i64 v, .nilIface]) ∧ (w' = w ∨ ∃ t, w' = Lib.bytesWorld w 5 t) := Any.strconv_ParseInt_10_at64_ok Tryd.laysC174 s hmax v h w
def Tryd.lays219_ren : Go.Shelf.Ren := ⟨fun | 219 => 58 | 217 => 67 | 225 => 68 | 224 => 69 | 267 => 70 | 266 => 78 | 314 => 79 | n => n, fun | 9 => 9 | 3 => 3 | 4 => 4 | 5 => 5 | 46 => 77 | 146 => 123 | 51 => 112 | n => n, fun | 1 => 1 | n => n⟩
theorem Tryd.lays219 : Go.Proofs.Lays.n219 Tryd.prog Tryd.lays219_ren := {
  mixed := by kernel_rfl
  f217 := Tryd.func67.trans (congrArg some (by kernel_rfl))
  f219 := Tryd.func58.trans (congrArg some (by kernel_rfl))
  f224 := Tryd.func69.trans (congrArg some (by kernel_rfl))
  f225 := Tryd.func68.trans (congrArg some (by kernel_rfl))
  f266 := Tryd.func78.trans (congrArg some (by kernel_rfl))
  f267 := Tryd.func70.trans (congrArg some (by kernel_rfl))
  f314 := Tryd.func79.trans (congrArg some (by kernel_rfl))
  t3 := Tryd.underlying3
  a3 := Tryd.isAgg3
  z3 := Tryd.sizeOf3
  v3 := Tryd.zeroValue3
  t4 := Tryd.underlying4
  a4 := Tryd.isAgg4
  z4 := Tryd.sizeOf4
  v4 := Tryd.zeroValue4
  t5 := Tryd.underlying5
  a5 := Tryd.isAgg5
  z5 := Tryd.sizeOf5
  v5 := Tryd.zeroValue5
  t9 := Tryd.underlying9
  a9 := Tryd.isAgg9
  z9 := Tryd.sizeOf9
  v9 := Tryd.zeroValue9
  t46 := Tryd.underlying77
  a46 := Tryd.isAgg77
  z46 := Tryd.sizeOf77
  v46 := Tryd.zeroValue77
  t51 := Tryd.underlying112
  a51 := Tryd.isAgg112
  z51 := Tryd.sizeOf112
  v51 := Tryd.zeroValue112
  t146 := Tryd.underlying123
  a146 := Tryd.isAgg123
  z146 := Tryd.sizeOf123
  v146 := Tryd.zeroValue123
  g1 := by kernel_rfl }
open Go.RowKit Go.Lib in
theorem Tryd.stringslite_Index_one (s : ByteArray) (c : UInt8) (w : World) :
    Calls Tryd.prog 58 #[.string s, .string ⟨#[c]⟩] w fun e w' => e = .returned (.int .i64 (Lib.indexByte s.data.toList c)) ∧ w' = w := Any.stringslite_Index_one Tryd.lays219 s c w
end Go.Proofs

namespace Go.Proofs.YtaeoghagpeihkaaDoor
open Go.RowKit

/-- the two sentinels that ParseInt hands on -/
def ErrT (w : World) : Prop := (∃ te pe, w.cell? ⟨2, 0, none⟩ = some (.iface te pe)) ∧ ∃ te pe, w.cell? ⟨3, 0, none⟩ = some (.iface te pe)
theorem ErrT.below {w w' : World} (h : ErrT w) (hb : Below w.heap.size w w') : ErrT w' := by
  obtain ⟨⟨t1, p1, h1⟩, t2, p2, h2⟩ := h
  exact ⟨⟨t1, p1, (hb.cell (p := ⟨_, 0, none⟩) (Lib.lt_of_cell h1)).trans h1⟩, t2, p2, (hb.cell (p := ⟨_, 0, none⟩) (Lib.lt_of_cell h2)).trans h2⟩
theorem pint_ok (s : ByteArray) (w : World) (hs : s.size ≤ 281474976710656) (v : Int) (h : Lib.parseIntB 64 s.data.toList = .ok v) : Calls Tryd.prog 50 #[.string s, .int .i64 10, .int .i64 64] w fun e w' => e = .returned (.tuple #[.int .i64 v, .nilIface]) ∧ Below w.heap.size w w' := by
  refine (Tryd.strconv_ParseInt_10_at64_ok s (by omega) v h w).mono ?_
  rintro e w' ⟨rfl, hw⟩
  refine ⟨rfl, ?_⟩
  rcases hw with rfl | ⟨t, rfl⟩
  · exact Below.refl _ _
  · exact Lib.bytesWorld_below _ _ _
theorem pint_no (s : ByteArray) (w : World) (hs : s.size ≤ 281474976710656) (he : ErrT w) (h : ∀ v, Lib.parseIntB 64 s.data.toList ≠ .ok v) : Calls Tryd.prog 50 #[.string s, .int .i64 10, .int .i64 64] w fun e w' => ∃ n t p, e = .returned (.tuple #[.int .i64 n, .iface t p]) ∧ Below w.heap.size w w' := by
  obtain ⟨⟨t1, p1, h1⟩, t2, p2, h2⟩ := he
  rcases hP : Lib.parseIntB 64 s.data.toList with v | _ | _
  · exact absurd hP (h v)
  · refine (Any.strconv_ParseInt_10_at64_syntax Tryd.laysC174 s hs hP _ w h1 (.inr ⟨t1, p1, rfl⟩)).mono ?_
    rintro e w' ⟨N, rfl, -, -, hb⟩
    exact ⟨_, _, _, rfl, hb⟩
  · refine (Any.strconv_ParseInt_10_at64_range Tryd.laysC174 s hs hP _ w h2 (.inr ⟨t2, p2, rfl⟩)).mono ?_
    rintro e w' ⟨N, rfl, -, -, hb⟩
    exact ⟨_, _, _, rfl, hb⟩
theorem numF_ok {t : List UInt8} {v : Int} (h : Lib.parseIntB 64 t = .ok v) : numF t = if Lib.itoa v = t then some v else none := by
  unfold numF; rw [h]
theorem numF_no {t : List UInt8} (h : ∀ v, Lib.parseIntB 64 t ≠ .ok v) : numF t = none := by
  unfold numF
  split
  · rename_i v hv; exact absurd hv (h v)
  · rfl

set_option maxRecDepth 100000 in
set_option maxHeartbeats 4000000 in
theorem number_any (q bd : Bool) (t : List UInt8) (w : World) (ht : TabT w) (he : ErrT w) (hs : t.length ≤ 100000000) : Calls Tryd.prog 40 #[.agg #[.string ⟨t.toArray⟩, .bool q, .bool bd]] w fun e w' => ∃ n b, e = .returned (.tuple #[.int .i64 n, .bool b]) ∧ (b = ((numF t).isSome && !q) ∧ (b = true → numF t = some n)) ∧ Below w.heap.size w w' := by
  obtain ⟨g1, j1⟩ := new_block w (.cells #[.string ⟨t.toArray⟩, .bool q, .bool bd] 54)
  have HB1 := Lib.hid g1
  have HX1 := Lib.hid j1
  have c0 : (w.alloc (.cells #[.string ⟨t.toArray⟩, .bool q, .bool bd] 54)).cell? ⟨w.heap.size, 0, none⟩ = some (.string ⟨t.toArray⟩) := (cell_of_row _ _ 0 _ _ _ j1).trans rfl
  have HT := Lib.hid ht
  have HE := Lib.hid (he.below g1)
  have hsz : (⟨t.toArray⟩ : ByteArray).size ≤ 281474976710656 := by show t.length ≤ _; omega
  clear g1 j1 ht he
  by_cases hp : ∃ v, Lib.parseIntB 64 t = .ok v
  · obtain ⟨v, hv⟩ := hp
    have hnf := numF_ok hv
    have hbd := Lib.parseIntB_bounds hv
    have HV64 : Hid (I64s v) := ⟨by simpa using hbd.1, by have := hbd.2; simp at this; omega⟩
    have HCON := Lib.hid (pint_ok ⟨t.toArray⟩ (w.alloc (.cells #[.string ⟨t.toArray⟩, .bool q, .bool bd] 54)) hsz v hv)
    obtain ⟨xb, hxb⟩ : ∃ b, b = w.heap.size := ⟨_, rfl⟩
    rw [← hxb] at HX1
    obtain ⟨bw, hbw⟩ : ∃ b, b = decide (Lib.itoa v = t) := ⟨_, rfl⟩
    have HBW : Hid ((Lib.itoa v == t) = bw) := by show _ = _; rw [hbw]; by_cases h : Lib.itoa v = t <;> simp [h]
    have HNF : Hid (numF t = if bw = true then some v else none) := by show _ = _; rw [hnf, hbw]; by_cases h : Lib.itoa v = t <;> simp [h]
    have HXB := Lib.hid hxb
    clear hv hnf hbd hbw hxb
    go_enter Tryd.func40, Tryd.ntmps40
    go_wp2_with (fail)
    with_reducible refine HCON.out.mono ?_
    rintro e w2 ⟨rfl, hB2⟩
    have HB2 := Lib.hid (HB1.out.trans (hB2.mono HB1.out.size))
    have HX2 := Lib.hid (stays HX1.out hB2)
    clear HCON hB2 c0
    rw [← HXB.out]
    cases q with
    | true =>
      go_upto_region 2 with (fail)
      refine wpIn_wide (n := 5).1 (wpIn_flowM (F0 := Fence.wide) (n0 := 5) (fun _ => trivial) (fun h => by cases h) (by kernel_rfl) (by kernel_rfl) 17 17 (by kernel_rfl) (fun j => ([0, 1, 2, 3, 4, 5, 6, 7, 8, 9, 10, 11, 12, 13, 14, 15, 16] : List Nat).getD j 0) (fun j => ([12, 13, 14, 15, 16, 17, 18, 19, 20, 21, 22, 23, 24, 25, 26, 2, 3] : List Nat).getD j 0) (by kernel_rfl) (by kernel_rfl) (by kernel_rfl) (by kernel_rfl) (by kernel_rfl) (by kernel_rfl) (by kernel_rfl) (fun j zv => ([(fun zv => zv = (.int .i64 v)), (fun zv => zv = .nilIface), (fun zv => zv = (.bool true)), (fun zv => zv = (.bool true)), (fun zv => zv = (.pointer (some ⟨xb, 1, none⟩))), (fun zv => zv = (.bool true)), (fun zv => zv = (.bool false)), (fun zv => zv = (.bool false)), (fun zv => zv = (.bool false)), (fun zv => zv = undef), (fun zv => zv = undef), (fun zv => zv = undef), (fun zv => zv = undef), (fun zv => zv = undef), (fun zv => zv = (.bool false)), (fun zv => zv = (.int .i64 v)), (fun zv => zv = (.bool false))] : List (Value → Prop)).getD j (fun _ => True) zv) (fun _ _ W => Below w.heap.size w W ∧ W.heap[xb]? = some (.cells #[.string ⟨t.toArray⟩, .bool true, .bool bd] 54 (0, 0))) ?h0z ?stepz ?finz)
      case h0z => exact fun _ => ⟨HB2.out.drew, HX2.out⟩
      case stepz =>
        intro i o a W d vs hi ho hdi hJ hf hr hF
        replace hi : i < 17 := hi
        rcases (show i = 0 ∨ i = 1 ∨ i = 2 ∨ i = 3 ∨ i = 4 ∨ i = 5 ∨ i = 6 ∨ i = 7 ∨ i = 8 ∨ i = 9 ∨ i = 10 ∨ i = 11 ∨ i = 12 ∨ i = 13 ∨ i = 14 ∨ i = 15 ∨ i = 16 by omega) with rfl | rfl | rfl | rfl | rfl | rfl | rfl | rfl | rfl | rfl | rfl | rfl | rfl | rfl | rfl | rfl | rfl
        · replace ho := op_at ho (by rfl)
          subst ho
          have f4 : a.tmps.getD 4 undef = (.int .i64 v) := hf 4 (by kernel_rfl)
          exact .inl ⟨(fun k b h => by cases h), .inl ⟨0, by decide, rfl, (.int .i64 v), W, (by simp [go_sem, Act.eval, f4]), rfl, hJ⟩⟩
        · replace ho := op_at ho (by rfl)
          subst ho
          have f5 : a.tmps.getD 5 undef = .nilIface := hf 5 (by kernel_rfl)
          exact .inl ⟨(fun k b h => by cases h), .inl ⟨1, by decide, rfl, .nilIface, W, (by simp [go_sem, Act.eval, f5]), rfl, hJ⟩⟩
        · replace ho := op_at ho (by rfl)
          subst ho
          have d1 : a.tmps.getD 13 undef = .nilIface := by have h1 := hF 1 (by decide) (hr 1 (by kernel_rfl)); exact h1.2.trans h1.1
          exact .inl ⟨(fun k b h => by cases h), .inl ⟨2, by decide, rfl, (.bool true), W, (by simp [go_sem, Act.eval, d1]), rfl, hJ⟩⟩
        · replace ho := op_at ho (by rfl)
          subst ho
          have d2 : a.tmps.getD 14 undef = (.bool true) := by have h1 := hF 2 (by decide) (hr 2 (by kernel_rfl)); exact h1.2.trans h1.1
          exact .inl ⟨(fun k b h => by cases h), .inl ⟨3, by decide, rfl, (.bool true), W, (by simp [go_sem, Act.eval, d2]), rfl, hJ⟩⟩
        · replace ho := op_at ho (by rfl)
          subst ho
          have d3 : a.tmps.getD 15 undef = (.bool true) := by have h1 := hF 3 (by decide) (hr 3 (by kernel_rfl)); exact h1.2.trans h1.1
          have f1 : a.tmps.getD 1 undef = (.pointer (some ⟨xb, 0, none⟩)) := hf 1 (by kernel_rfl)
          exact .inl ⟨(fun k b h => by cases h; exact ⟨3, by decide, rfl, d3⟩), .inl ⟨4, by decide, rfl, (.pointer (some ⟨xb, 1, none⟩)), W, (by simp [go_sem, Act.eval, d3, f1]), rfl, hJ⟩⟩
        · replace ho := op_at ho (by rfl)
          subst ho
          have d4 : a.tmps.getD 16 undef = (.pointer (some ⟨xb, 1, none⟩)) := by have h1 := hF 4 (by decide) (hr 4 (by kernel_rfl)); exact h1.2.trans h1.1
          have d3 : a.tmps.getD 15 undef = (.bool true) := by have h1 := hF 3 (by decide) (hr 3 (by kernel_rfl)); exact h1.2.trans h1.1
          exact .inl ⟨(fun k b h => by cases h; exact ⟨3, by decide, rfl, d3⟩), .inl ⟨5, by decide, rfl, (.bool true), W, (by have hc := (cell_of_row _ _ 1 _ _ _ hJ.2).trans rfl; simp [go_sem, Act.eval, d4, hc]), rfl, hJ⟩⟩
        · replace ho := op_at ho (by rfl)
          subst ho
          have d5 : a.tmps.getD 17 undef = (.bool true) := by have h1 := hF 5 (by decide) (hr 5 (by kernel_rfl)); exact h1.2.trans h1.1
          have d3 : a.tmps.getD 15 undef = (.bool true) := by have h1 := hF 3 (by decide) (hr 3 (by kernel_rfl)); exact h1.2.trans h1.1
          exact .inl ⟨(fun k b h => by cases h; exact ⟨3, by decide, rfl, d3⟩), .inl ⟨6, by decide, rfl, (.bool false), W, (by simp [go_sem, Act.eval, d5, d3]), rfl, hJ⟩⟩
        · replace ho := op_at ho (by rfl)
          subst ho
          have d3 : a.tmps.getD 15 undef = (.bool true) := by have h1 := hF 3 (by decide) (hr 3 (by kernel_rfl)); exact h1.2.trans h1.1
          have d6 : a.tmps.getD 18 undef = (.bool false) := by have h1 := hF 6 (by decide) (hr 6 (by kernel_rfl)); exact h1.2.trans h1.1
          exact .inl ⟨(fun k b h => by cases h), .inl ⟨7, by decide, rfl, (.bool false), W, (by simp [go_sem, Act.eval, d3, d6]), rfl, hJ⟩⟩
        · replace ho := op_at ho (by rfl)
          subst ho
          have d7 : a.tmps.getD 19 undef = (.bool false) := by have h1 := hF 7 (by decide) (hr 7 (by kernel_rfl)); exact h1.2.trans h1.1
          exact .inl ⟨(fun k b h => by cases h), .inl ⟨8, by decide, rfl, (.bool false), W, (by simp [go_sem, Act.eval, d7]), rfl, hJ⟩⟩
        · replace ho := op_at ho (by rfl)
          subst ho
          have d8 : a.tmps.getD 20 undef = (.bool false) := by have h1 := hF 8 (by decide) (hr 8 (by kernel_rfl)); exact h1.2.trans h1.1
          exact .inr ⟨8, true, 8, rfl, by decide, rfl, (fun hc => by have hc2 := d8.symm.trans hc; first | (cases hc2; done) | simp [undef] at hc2), .inl ⟨9, by decide, rfl, rfl, hJ⟩⟩
        · replace ho := op_at ho (by rfl)
          subst ho
          have d8 : a.tmps.getD 20 undef = (.bool false) := by have h1 := hF 8 (by decide) (hr 8 (by kernel_rfl)); exact h1.2.trans h1.1
          exact .inr ⟨8, true, 8, rfl, by decide, rfl, (fun hc => by have hc2 := d8.symm.trans hc; first | (cases hc2; done) | simp [undef] at hc2), .inl ⟨10, by decide, rfl, rfl, hJ⟩⟩
        · replace ho := op_at ho (by rfl)
          subst ho
          have d8 : a.tmps.getD 20 undef = (.bool false) := by have h1 := hF 8 (by decide) (hr 8 (by kernel_rfl)); exact h1.2.trans h1.1
          exact .inr ⟨8, true, 8, rfl, by decide, rfl, (fun hc => by have hc2 := d8.symm.trans hc; first | (cases hc2; done) | simp [undef] at hc2), .inl ⟨11, by decide, rfl, rfl, hJ⟩⟩
        · replace ho := op_at ho (by rfl)
          subst ho
          have d8 : a.tmps.getD 20 undef = (.bool false) := by have h1 := hF 8 (by decide) (hr 8 (by kernel_rfl)); exact h1.2.trans h1.1
          exact .inr ⟨8, true, 8, rfl, by decide, rfl, (fun hc => by have hc2 := d8.symm.trans hc; first | (cases hc2; done) | simp [undef] at hc2), .inl ⟨12, by decide, rfl, rfl, hJ⟩⟩
        · replace ho := op_at ho (by rfl)
          subst ho
          have d8 : a.tmps.getD 20 undef = (.bool false) := by have h1 := hF 8 (by decide) (hr 8 (by kernel_rfl)); exact h1.2.trans h1.1
          exact .inr ⟨8, true, 8, rfl, by decide, rfl, (fun hc => by have hc2 := d8.symm.trans hc; first | (cases hc2; done) | simp [undef] at hc2), .inl ⟨13, by decide, rfl, rfl, hJ⟩⟩
        · replace ho := op_at ho (by rfl)
          subst ho
          have d8 : a.tmps.getD 20 undef = (.bool false) := by have h1 := hF 8 (by decide) (hr 8 (by kernel_rfl)); exact h1.2.trans h1.1
          have d13 : a.tmps.getD 25 undef = undef := by have h1 := hF 13 (by decide) (hr 13 (by kernel_rfl)); exact h1.2.trans h1.1
          exact .inl ⟨(fun k b h => by cases h), .inl ⟨14, by decide, rfl, (.bool false), W, (by simp [go_sem, Act.eval, d8, d13]), rfl, hJ⟩⟩
        · replace ho := op_at ho (by rfl)
          subst ho
          have d0 : a.tmps.getD 12 undef = (.int .i64 v) := by have h1 := hF 0 (by decide) (hr 0 (by kernel_rfl)); exact h1.2.trans h1.1
          exact .inl ⟨(fun k b h => by cases h), .inl ⟨15, by decide, rfl, (.int .i64 v), W, (by simp [go_sem, Act.eval, d0]), rfl, hJ⟩⟩
        · replace ho := op_at ho (by rfl)
          subst ho
          have d14 : a.tmps.getD 26 undef = (.bool false) := by have h1 := hF 14 (by decide) (hr 14 (by kernel_rfl)); exact h1.2.trans h1.1
          exact .inl ⟨(fun k b h => by cases h), .inl ⟨16, by decide, rfl, (.bool false), W, (by simp [go_sem, Act.eval, d14]), rfl, hJ⟩⟩
      case finz =>
        intro d vs Wz hall hJ hF
        have h0 : vs 0 = (.int .i64 v) := hF 0 (by decide)
        have h1 : vs 1 = .nilIface := hF 1 (by decide)
        have h2 : vs 2 = (.bool true) := hF 2 (by decide)
        have h3 : vs 3 = (.bool true) := hF 3 (by decide)
        have h4 : vs 4 = (.pointer (some ⟨xb, 1, none⟩)) := hF 4 (by decide)
        have h5 : vs 5 = (.bool true) := hF 5 (by decide)
        have h6 : vs 6 = (.bool false) := hF 6 (by decide)
        have h7 : vs 7 = (.bool false) := hF 7 (by decide)
        have h8 : vs 8 = (.bool false) := hF 8 (by decide)
        have h9 : vs 9 = undef := hF 9 (by decide)
        have h10 : vs 10 = undef := hF 10 (by decide)
        have h11 : vs 11 = undef := hF 11 (by decide)
        have h12 : vs 12 = undef := hF 12 (by decide)
        have h13 : vs 13 = undef := hF 13 (by decide)
        have h14 : vs 14 = (.bool false) := hF 14 (by decide)
        have h15 : vs 15 = (.int .i64 v) := hF 15 (by decide)
        have h16 : vs 16 = (.bool false) := hF 16 (by decide)
        clear hF
        show (_ : Exit → Act → World → Prop) Exit.normal (puts _ vs 17 _) Wz
        simp only [puts, h0, h1, h2, h3, h4, h5, h6, h7, h8, h9, h10, h11, h12, h13, h14, h15, h16, List.getD_cons_zero, List.getD_cons_succ]
        clear h0 h1 h2 h3 h4 h5 h6 h7 h8 h9 h10 h11 h12 h13 h14 h15 h16
        have HJ := Lib.hid hJ
        clear hJ
        go_simp
        go_wp2_with (fail)
        go_ret2
        exact ⟨_, _, rfl, ⟨by simp, fun h => by cases h⟩, HJ.out.1⟩
    | false =>
      go_upto_region 2 with (fail)
      refine wpIn_wide (n := 5).1 (wpIn_flowM (F0 := Fence.wide) (n0 := 5) (fun _ => trivial) (fun h => by cases h) (by kernel_rfl) (by kernel_rfl) 17 17 (by kernel_rfl) (fun j => ([0, 1, 2, 3, 4, 5, 6, 7, 8, 9, 10, 11, 12, 13, 14, 15, 16] : List Nat).getD j 0) (fun j => ([12, 13, 14, 15, 16, 17, 18, 19, 20, 21, 22, 23, 24, 25, 26, 2, 3] : List Nat).getD j 0) (by kernel_rfl) (by kernel_rfl) (by kernel_rfl) (by kernel_rfl) (by kernel_rfl) (by kernel_rfl) (by kernel_rfl) (fun j zv => ([(fun zv => zv = (.int .i64 v)), (fun zv => zv = .nilIface), (fun zv => zv = (.bool true)), (fun zv => zv = (.bool true)), (fun zv => zv = (.pointer (some ⟨xb, 1, none⟩))), (fun zv => zv = (.bool false)), (fun zv => zv = (.bool true)), (fun zv => zv = (.bool true)), (fun zv => zv = (.bool true)), (fun zv => zv = (.int .i64 v)), (fun zv => zv = (.string ⟨(Lib.itoa v).toArray⟩)), (fun zv => zv = (.pointer (some ⟨xb, 0, none⟩))), (fun zv => zv = (.string ⟨t.toArray⟩)), (fun zv => zv = (.bool bw)), (fun zv => zv = (.bool bw)), (fun zv => zv = (.int .i64 v)), (fun zv => zv = (.bool bw))] : List (Value → Prop)).getD j (fun _ => True) zv) (fun _ _ W => Below w.heap.size w W ∧ W.heap[xb]? = some (.cells #[.string ⟨t.toArray⟩, .bool false, .bool bd] 54 (0, 0))) ?h0z ?stepz ?finz)
      case h0z => exact fun _ => ⟨HB2.out.drew, HX2.out⟩
      case stepz =>
        intro i o a W d vs hi ho hdi hJ hf hr hF
        replace hi : i < 17 := hi
        rcases (show i = 0 ∨ i = 1 ∨ i = 2 ∨ i = 3 ∨ i = 4 ∨ i = 5 ∨ i = 6 ∨ i = 7 ∨ i = 8 ∨ i = 9 ∨ i = 10 ∨ i = 11 ∨ i = 12 ∨ i = 13 ∨ i = 14 ∨ i = 15 ∨ i = 16 by omega) with rfl | rfl | rfl | rfl | rfl | rfl | rfl | rfl | rfl | rfl | rfl | rfl | rfl | rfl | rfl | rfl | rfl
        · replace ho := op_at ho (by rfl)
          subst ho
          have f4 : a.tmps.getD 4 undef = (.int .i64 v) := hf 4 (by kernel_rfl)
          exact .inl ⟨(fun k b h => by cases h), .inl ⟨0, by decide, rfl, (.int .i64 v), W, (by simp [go_sem, Act.eval, f4]), rfl, hJ⟩⟩
        · replace ho := op_at ho (by rfl)
          subst ho
          have f5 : a.tmps.getD 5 undef = .nilIface := hf 5 (by kernel_rfl)
          exact .inl ⟨(fun k b h => by cases h), .inl ⟨1, by decide, rfl, .nilIface, W, (by simp [go_sem, Act.eval, f5]), rfl, hJ⟩⟩
        · replace ho := op_at ho (by rfl)
          subst ho
          have d1 : a.tmps.getD 13 undef = .nilIface := by have h1 := hF 1 (by decide) (hr 1 (by kernel_rfl)); exact h1.2.trans h1.1
          exact .inl ⟨(fun k b h => by cases h), .inl ⟨2, by decide, rfl, (.bool true), W, (by simp [go_sem, Act.eval, d1]), rfl, hJ⟩⟩
        · replace ho := op_at ho (by rfl)
          subst ho
          have d2 : a.tmps.getD 14 undef = (.bool true) := by have h1 := hF 2 (by decide) (hr 2 (by kernel_rfl)); exact h1.2.trans h1.1
          exact .inl ⟨(fun k b h => by cases h), .inl ⟨3, by decide, rfl, (.bool true), W, (by simp [go_sem, Act.eval, d2]), rfl, hJ⟩⟩
        · replace ho := op_at ho (by rfl)
          subst ho
          have d3 : a.tmps.getD 15 undef = (.bool true) := by have h1 := hF 3 (by decide) (hr 3 (by kernel_rfl)); exact h1.2.trans h1.1
          have f1 : a.tmps.getD 1 undef = (.pointer (some ⟨xb, 0, none⟩)) := hf 1 (by kernel_rfl)
          exact .inl ⟨(fun k b h => by cases h; exact ⟨3, by decide, rfl, d3⟩), .inl ⟨4, by decide, rfl, (.pointer (some ⟨xb, 1, none⟩)), W, (by simp [go_sem, Act.eval, d3, f1]), rfl, hJ⟩⟩
        · replace ho := op_at ho (by rfl)
          subst ho
          have d4 : a.tmps.getD 16 undef = (.pointer (some ⟨xb, 1, none⟩)) := by have h1 := hF 4 (by decide) (hr 4 (by kernel_rfl)); exact h1.2.trans h1.1
          have d3 : a.tmps.getD 15 undef = (.bool true) := by have h1 := hF 3 (by decide) (hr 3 (by kernel_rfl)); exact h1.2.trans h1.1
          exact .inl ⟨(fun k b h => by cases h; exact ⟨3, by decide, rfl, d3⟩), .inl ⟨5, by decide, rfl, (.bool false), W, (by have hc := (cell_of_row _ _ 1 _ _ _ hJ.2).trans rfl; simp [go_sem, Act.eval, d4, hc]), rfl, hJ⟩⟩
        · replace ho := op_at ho (by rfl)
          subst ho
          have d5 : a.tmps.getD 17 undef = (.bool false) := by have h1 := hF 5 (by decide) (hr 5 (by kernel_rfl)); exact h1.2.trans h1.1
          have d3 : a.tmps.getD 15 undef = (.bool true) := by have h1 := hF 3 (by decide) (hr 3 (by kernel_rfl)); exact h1.2.trans h1.1
          exact .inl ⟨(fun k b h => by cases h; exact ⟨3, by decide, rfl, d3⟩), .inl ⟨6, by decide, rfl, (.bool true), W, (by simp [go_sem, Act.eval, d5, d3]), rfl, hJ⟩⟩
        · replace ho := op_at ho (by rfl)
          subst ho
          have d3 : a.tmps.getD 15 undef = (.bool true) := by have h1 := hF 3 (by decide) (hr 3 (by kernel_rfl)); exact h1.2.trans h1.1
          have d6 : a.tmps.getD 18 undef = (.bool true) := by have h1 := hF 6 (by decide) (hr 6 (by kernel_rfl)); exact h1.2.trans h1.1
          exact .inl ⟨(fun k b h => by cases h), .inl ⟨7, by decide, rfl, (.bool true), W, (by simp [go_sem, Act.eval, d3, d6]), rfl, hJ⟩⟩
        · replace ho := op_at ho (by rfl)
          subst ho
          have d7 : a.tmps.getD 19 undef = (.bool true) := by have h1 := hF 7 (by decide) (hr 7 (by kernel_rfl)); exact h1.2.trans h1.1
          exact .inl ⟨(fun k b h => by cases h), .inl ⟨8, by decide, rfl, (.bool true), W, (by simp [go_sem, Act.eval, d7]), rfl, hJ⟩⟩
        · replace ho := op_at ho (by rfl)
          subst ho
          have d8 : a.tmps.getD 20 undef = (.bool true) := by have h1 := hF 8 (by decide) (hr 8 (by kernel_rfl)); exact h1.2.trans h1.1
          have f4 : a.tmps.getD 4 undef = (.int .i64 v) := hf 4 (by kernel_rfl)
          exact .inl ⟨(fun k b h => by cases h; exact ⟨8, by decide, rfl, d8⟩), .inl ⟨9, by decide, rfl, (.int .i64 v), W, (by simp [go_sem, Act.eval, d8, f4]), rfl, hJ⟩⟩
        · replace ho := op_at ho (by rfl)
          subst ho
          have d9 : a.tmps.getD 21 undef = (.int .i64 v) := by have h1 := hF 9 (by decide) (hr 9 (by kernel_rfl)); exact h1.2.trans h1.1
          have d8 : a.tmps.getD 20 undef = (.bool true) := by have h1 := hF 8 (by decide) (hr 8 (by kernel_rfl)); exact h1.2.trans h1.1
          refine .inl ⟨(fun k b h => by cases h; exact ⟨8, by decide, rfl, d8⟩), .inr (.inr ⟨10, by decide, rfl, 28, #[.int .i64 v, .int .i64 10], W, (by simp [go_sem, Act.eval, d9, d8]), ?_⟩)⟩
          refine (callsIn_wide.2 (fmt_any v HV64.out W (HT.out.below hJ.1))).mono ?_
          rintro e W' ⟨rfl, hBe⟩
          exact ⟨_, rfl, rfl, hJ.1.trans (hBe.mono hJ.1.size), stays hJ.2 hBe⟩
        · replace ho := op_at ho (by rfl)
          subst ho
          have d8 : a.tmps.getD 20 undef = (.bool true) := by have h1 := hF 8 (by decide) (hr 8 (by kernel_rfl)); exact h1.2.trans h1.1
          have f1 : a.tmps.getD 1 undef = (.pointer (some ⟨xb, 0, none⟩)) := hf 1 (by kernel_rfl)
          exact .inl ⟨(fun k b h => by cases h; exact ⟨8, by decide, rfl, d8⟩), .inl ⟨11, by decide, rfl, (.pointer (some ⟨xb, 0, none⟩)), W, (by simp [go_sem, Act.eval, d8, f1]), rfl, hJ⟩⟩
        · replace ho := op_at ho (by rfl)
          subst ho
          have d11 : a.tmps.getD 23 undef = (.pointer (some ⟨xb, 0, none⟩)) := by have h1 := hF 11 (by decide) (hr 11 (by kernel_rfl)); exact h1.2.trans h1.1
          have d8 : a.tmps.getD 20 undef = (.bool true) := by have h1 := hF 8 (by decide) (hr 8 (by kernel_rfl)); exact h1.2.trans h1.1
          exact .inl ⟨(fun k b h => by cases h; exact ⟨8, by decide, rfl, d8⟩), .inl ⟨12, by decide, rfl, (.string ⟨t.toArray⟩), W, (by have hc := (cell_of_row _ _ 0 _ _ _ hJ.2).trans rfl; simp [go_sem, Act.eval, d11, hc]), rfl, hJ⟩⟩
        · replace ho := op_at ho (by rfl)
          subst ho
          have d10 : a.tmps.getD 22 undef = (.string ⟨(Lib.itoa v).toArray⟩) := by have h1 := hF 10 (by decide) (hr 10 (by kernel_rfl)); exact h1.2.trans h1.1
          have d12 : a.tmps.getD 24 undef = (.string ⟨t.toArray⟩) := by have h1 := hF 12 (by decide) (hr 12 (by kernel_rfl)); exact h1.2.trans h1.1
          have d8 : a.tmps.getD 20 undef = (.bool true) := by have h1 := hF 8 (by decide) (hr 8 (by kernel_rfl)); exact h1.2.trans h1.1
          exact .inl ⟨(fun k b h => by cases h; exact ⟨8, by decide, rfl, d8⟩), .inl ⟨13, by decide, rfl, (.bool bw), W, (by simp [go_sem, Act.eval, d10, d12, HBW.out]), rfl, hJ⟩⟩
        · replace ho := op_at ho (by rfl)
          subst ho
          have d8 : a.tmps.getD 20 undef = (.bool true) := by have h1 := hF 8 (by decide) (hr 8 (by kernel_rfl)); exact h1.2.trans h1.1
          have d13 : a.tmps.getD 25 undef = (.bool bw) := by have h1 := hF 13 (by decide) (hr 13 (by kernel_rfl)); exact h1.2.trans h1.1
          exact .inl ⟨(fun k b h => by cases h), .inl ⟨14, by decide, rfl, (.bool bw), W, (by simp [go_sem, Act.eval, d8, d13]), rfl, hJ⟩⟩
        · replace ho := op_at ho (by rfl)
          subst ho
          have d0 : a.tmps.getD 12 undef = (.int .i64 v) := by have h1 := hF 0 (by decide) (hr 0 (by kernel_rfl)); exact h1.2.trans h1.1
          exact .inl ⟨(fun k b h => by cases h), .inl ⟨15, by decide, rfl, (.int .i64 v), W, (by simp [go_sem, Act.eval, d0]), rfl, hJ⟩⟩
        · replace ho := op_at ho (by rfl)
          subst ho
          have d14 : a.tmps.getD 26 undef = (.bool bw) := by have h1 := hF 14 (by decide) (hr 14 (by kernel_rfl)); exact h1.2.trans h1.1
          exact .inl ⟨(fun k b h => by cases h), .inl ⟨16, by decide, rfl, (.bool bw), W, (by simp [go_sem, Act.eval, d14]), rfl, hJ⟩⟩
      case finz =>
        intro d vs Wz hall hJ hF
        have h0 : vs 0 = (.int .i64 v) := hF 0 (by decide)
        have h1 : vs 1 = .nilIface := hF 1 (by decide)
        have h2 : vs 2 = (.bool true) := hF 2 (by decide)
        have h3 : vs 3 = (.bool true) := hF 3 (by decide)
        have h4 : vs 4 = (.pointer (some ⟨xb, 1, none⟩)) := hF 4 (by decide)
        have h5 : vs 5 = (.bool false) := hF 5 (by decide)
        have h6 : vs 6 = (.bool true) := hF 6 (by decide)
        have h7 : vs 7 = (.bool true) := hF 7 (by decide)
        have h8 : vs 8 = (.bool true) := hF 8 (by decide)
        have h9 : vs 9 = (.int .i64 v) := hF 9 (by decide)
        have h10 : vs 10 = (.string ⟨(Lib.itoa v).toArray⟩) := hF 10 (by decide)
        have h11 : vs 11 = (.pointer (some ⟨xb, 0, none⟩)) := hF 11 (by decide)
        have h12 : vs 12 = (.string ⟨t.toArray⟩) := hF 12 (by decide)
        have h13 : vs 13 = (.bool bw) := hF 13 (by decide)
        have h14 : vs 14 = (.bool bw) := hF 14 (by decide)
        have h15 : vs 15 = (.int .i64 v) := hF 15 (by decide)
        have h16 : vs 16 = (.bool bw) := hF 16 (by decide)
        clear hF
        show (_ : Exit → Act → World → Prop) Exit.normal (puts _ vs 17 _) Wz
        simp only [puts, h0, h1, h2, h3, h4, h5, h6, h7, h8, h9, h10, h11, h12, h13, h14, h15, h16, List.getD_cons_zero, List.getD_cons_succ]
        clear h0 h1 h2 h3 h4 h5 h6 h7 h8 h9 h10 h11 h12 h13 h14 h15 h16
        have HJ := Lib.hid hJ
        clear hJ
        go_simp
        go_wp2_with (fail)
        go_ret2
        exact ⟨_, _, rfl, ⟨by rw [HNF.out]; cases bw <;> rfl, fun h => by rw [HNF.out, if_pos h]⟩, HJ.out.1⟩
  · have hnf := numF_no fun v hv => hp ⟨v, hv⟩
    have HCON := Lib.hid (pint_no ⟨t.toArray⟩ (w.alloc (.cells #[.string ⟨t.toArray⟩, .bool q, .bool bd] 54)) hsz HE.out (fun v hv => hp ⟨v, hv⟩))
    obtain ⟨xb, hxb⟩ : ∃ b, b = w.heap.size := ⟨_, rfl⟩
    rw [← hxb] at HX1
    have HXB := Lib.hid hxb
    have HNF := Lib.hid hnf
    clear hp hnf hxb
    go_enter Tryd.func40, Tryd.ntmps40
    go_wp2_with (fail)
    with_reducible refine HCON.out.mono ?_
    rintro e w2 ⟨v, te, pe, rfl, hB2⟩
    have HB2 := Lib.hid (HB1.out.trans (hB2.mono HB1.out.size))
    have HX2 := Lib.hid (stays HX1.out hB2)
    clear HCON hB2 c0
    rw [← HXB.out]
    go_upto_region 2 with (fail)
    refine wpIn_wide (n := 5).1 (wpIn_flowM (F0 := Fence.wide) (n0 := 5) (fun _ => trivial) (fun h => by cases h) (by kernel_rfl) (by kernel_rfl) 17 17 (by kernel_rfl) (fun j => ([0, 1, 2, 3, 4, 5, 6, 7, 8, 9, 10, 11, 12, 13, 14, 15, 16] : List Nat).getD j 0) (fun j => ([12, 13, 14, 15, 16, 17, 18, 19, 20, 21, 22, 23, 24, 25, 26, 2, 3] : List Nat).getD j 0) (by kernel_rfl) (by kernel_rfl) (by kernel_rfl) (by kernel_rfl) (by kernel_rfl) (by kernel_rfl) (by kernel_rfl) (fun j zv => ([(fun zv => zv = (.int .i64 v)), (fun zv => zv = (.iface te pe)), (fun zv => zv = (.bool false)), (fun zv => zv = (.bool false)), (fun zv => zv = undef), (fun zv => zv = undef), (fun zv => zv = undef), (fun zv => zv = (.bool false)), (fun zv => zv = (.bool false)), (fun zv => zv = undef), (fun zv => zv = undef), (fun zv => zv = undef), (fun zv => zv = undef), (fun zv => zv = undef), (fun zv => zv = (.bool false)), (fun zv => zv = (.int .i64 v)), (fun zv => zv = (.bool false))] : List (Value → Prop)).getD j (fun _ => True) zv) (fun _ _ W => Below w.heap.size w W ∧ W.heap[xb]? = some (.cells #[.string ⟨t.toArray⟩, .bool q, .bool bd] 54 (0, 0))) ?h0z ?stepz ?finz)
    case h0z => exact fun _ => ⟨HB2.out.drew, HX2.out⟩
    case stepz =>
      intro i o a W d vs hi ho hdi hJ hf hr hF
      replace hi : i < 17 := hi
      rcases (show i = 0 ∨ i = 1 ∨ i = 2 ∨ i = 3 ∨ i = 4 ∨ i = 5 ∨ i = 6 ∨ i = 7 ∨ i = 8 ∨ i = 9 ∨ i = 10 ∨ i = 11 ∨ i = 12 ∨ i = 13 ∨ i = 14 ∨ i = 15 ∨ i = 16 by omega) with rfl | rfl | rfl | rfl | rfl | rfl | rfl | rfl | rfl | rfl | rfl | rfl | rfl | rfl | rfl | rfl | rfl
      · replace ho := op_at ho (by rfl)
        subst ho
        have f4 : a.tmps.getD 4 undef = (.int .i64 v) := hf 4 (by kernel_rfl)
        exact .inl ⟨(fun k b h => by cases h), .inl ⟨0, by decide, rfl, (.int .i64 v), W, (by simp [go_sem, Act.eval, f4]), rfl, hJ⟩⟩
      · replace ho := op_at ho (by rfl)
        subst ho
        have f5 : a.tmps.getD 5 undef = (.iface te pe) := hf 5 (by kernel_rfl)
        exact .inl ⟨(fun k b h => by cases h), .inl ⟨1, by decide, rfl, (.iface te pe), W, (by simp [go_sem, Act.eval, f5]), rfl, hJ⟩⟩
      · replace ho := op_at ho (by rfl)
        subst ho
        have d1 : a.tmps.getD 13 undef = (.iface te pe) := by have h1 := hF 1 (by decide) (hr 1 (by kernel_rfl)); exact h1.2.trans h1.1
        exact .inl ⟨(fun k b h => by cases h), .inl ⟨2, by decide, rfl, (.bool false), W, (by simp [go_sem, Act.eval, d1]), rfl, hJ⟩⟩
      · replace ho := op_at ho (by rfl)
        subst ho
        have d2 : a.tmps.getD 14 undef = (.bool false) := by have h1 := hF 2 (by decide) (hr 2 (by kernel_rfl)); exact h1.2.trans h1.1
        exact .inl ⟨(fun k b h => by cases h), .inl ⟨3, by decide, rfl, (.bool false), W, (by simp [go_sem, Act.eval, d2]), rfl, hJ⟩⟩
      · replace ho := op_at ho (by rfl)
        subst ho
        have d3 : a.tmps.getD 15 undef = (.bool false) := by have h1 := hF 3 (by decide) (hr 3 (by kernel_rfl)); exact h1.2.trans h1.1
        exact .inr ⟨3, true, 3, rfl, by decide, rfl, (fun hc => by have hc2 := d3.symm.trans hc; first | (cases hc2; done) | simp [undef] at hc2), .inl ⟨4, by decide, rfl, rfl, hJ⟩⟩
      · replace ho := op_at ho (by rfl)
        subst ho
        have d3 : a.tmps.getD 15 undef = (.bool false) := by have h1 := hF 3 (by decide) (hr 3 (by kernel_rfl)); exact h1.2.trans h1.1
        exact .inr ⟨3, true, 3, rfl, by decide, rfl, (fun hc => by have hc2 := d3.symm.trans hc; first | (cases hc2; done) | simp [undef] at hc2), .inl ⟨5, by decide, rfl, rfl, hJ⟩⟩
      · replace ho := op_at ho (by rfl)
        subst ho
        have d3 : a.tmps.getD 15 undef = (.bool false) := by have h1 := hF 3 (by decide) (hr 3 (by kernel_rfl)); exact h1.2.trans h1.1
        exact .inr ⟨3, true, 3, rfl, by decide, rfl, (fun hc => by have hc2 := d3.symm.trans hc; first | (cases hc2; done) | simp [undef] at hc2), .inl ⟨6, by decide, rfl, rfl, hJ⟩⟩
      · replace ho := op_at ho (by rfl)
        subst ho
        have d3 : a.tmps.getD 15 undef = (.bool false) := by have h1 := hF 3 (by decide) (hr 3 (by kernel_rfl)); exact h1.2.trans h1.1
        have d6 : a.tmps.getD 18 undef = undef := by have h1 := hF 6 (by decide) (hr 6 (by kernel_rfl)); exact h1.2.trans h1.1
        exact .inl ⟨(fun k b h => by cases h), .inl ⟨7, by decide, rfl, (.bool false), W, (by simp [go_sem, Act.eval, d3, d6]), rfl, hJ⟩⟩
      · replace ho := op_at ho (by rfl)
        subst ho
        have d7 : a.tmps.getD 19 undef = (.bool false) := by have h1 := hF 7 (by decide) (hr 7 (by kernel_rfl)); exact h1.2.trans h1.1
        exact .inl ⟨(fun k b h => by cases h), .inl ⟨8, by decide, rfl, (.bool false), W, (by simp [go_sem, Act.eval, d7]), rfl, hJ⟩⟩
      · replace ho := op_at ho (by rfl)
        subst ho
        have d8 : a.tmps.getD 20 undef = (.bool false) := by have h1 := hF 8 (by decide) (hr 8 (by kernel_rfl)); exact h1.2.trans h1.1
        exact .inr ⟨8, true, 8, rfl, by decide, rfl, (fun hc => by have hc2 := d8.symm.trans hc; first | (cases hc2; done) | simp [undef] at hc2), .inl ⟨9, by decide, rfl, rfl, hJ⟩⟩
      · replace ho := op_at ho (by rfl)
        subst ho
        have d8 : a.tmps.getD 20 undef = (.bool false) := by have h1 := hF 8 (by decide) (hr 8 (by kernel_rfl)); exact h1.2.trans h1.1
        exact .inr ⟨8, true, 8, rfl, by decide, rfl, (fun hc => by have hc2 := d8.symm.trans hc; first | (cases hc2; done) | simp [undef] at hc2), .inl ⟨10, by decide, rfl, rfl, hJ⟩⟩
      · replace ho := op_at ho (by rfl)
        subst ho
        have d8 : a.tmps.getD 20 undef = (.bool false) := by have h1 := hF 8 (by decide) (hr 8 (by kernel_rfl)); exact h1.2.trans h1.1
        exact .inr ⟨8, true, 8, rfl, by decide, rfl, (fun hc => by have hc2 := d8.symm.trans hc; first | (cases hc2; done) | simp [undef] at hc2), .inl ⟨11, by decide, rfl, rfl, hJ⟩⟩
      · replace ho := op_at ho (by rfl)
        subst ho
        have d8 : a.tmps.getD 20 undef = (.bool false) := by have h1 := hF 8 (by decide) (hr 8 (by kernel_rfl)); exact h1.2.trans h1.1
        exact .inr ⟨8, true, 8, rfl, by decide, rfl, (fun hc => by have hc2 := d8.symm.trans hc; first | (cases hc2; done) | simp [undef] at hc2), .inl ⟨12, by decide, rfl, rfl, hJ⟩⟩
      · replace ho := op_at ho (by rfl)
        subst ho
        have d8 : a.tmps.getD 20 undef = (.bool false) := by have h1 := hF 8 (by decide) (hr 8 (by kernel_rfl)); exact h1.2.trans h1.1
        exact .inr ⟨8, true, 8, rfl, by decide, rfl, (fun hc => by have hc2 := d8.symm.trans hc; first | (cases hc2; done) | simp [undef] at hc2), .inl ⟨13, by decide, rfl, rfl, hJ⟩⟩
      · replace ho := op_at ho (by rfl)
        subst ho
        have d8 : a.tmps.getD 20 undef = (.bool false) := by have h1 := hF 8 (by decide) (hr 8 (by kernel_rfl)); exact h1.2.trans h1.1
        have d13 : a.tmps.getD 25 undef = undef := by have h1 := hF 13 (by decide) (hr 13 (by kernel_rfl)); exact h1.2.trans h1.1
        exact .inl ⟨(fun k b h => by cases h), .inl ⟨14, by decide, rfl, (.bool false), W, (by simp [go_sem, Act.eval, d8, d13]), rfl, hJ⟩⟩
      · replace ho := op_at ho (by rfl)
        subst ho
        have d0 : a.tmps.getD 12 undef = (.int .i64 v) := by have h1 := hF 0 (by decide) (hr 0 (by kernel_rfl)); exact h1.2.trans h1.1
        exact .inl ⟨(fun k b h => by cases h), .inl ⟨15, by decide, rfl, (.int .i64 v), W, (by simp [go_sem, Act.eval, d0]), rfl, hJ⟩⟩
      · replace ho := op_at ho (by rfl)
        subst ho
        have d14 : a.tmps.getD 26 undef = (.bool false) := by have h1 := hF 14 (by decide) (hr 14 (by kernel_rfl)); exact h1.2.trans h1.1
        exact .inl ⟨(fun k b h => by cases h), .inl ⟨16, by decide, rfl, (.bool false), W, (by simp [go_sem, Act.eval, d14]), rfl, hJ⟩⟩
    case finz =>
      intro d vs Wz hall hJ hF
      have h0 : vs 0 = (.int .i64 v) := hF 0 (by decide)
      have h1 : vs 1 = (.iface te pe) := hF 1 (by decide)
      have h2 : vs 2 = (.bool false) := hF 2 (by decide)
      have h3 : vs 3 = (.bool false) := hF 3 (by decide)
      have h4 : vs 4 = undef := hF 4 (by decide)
      have h5 : vs 5 = undef := hF 5 (by decide)
      have h6 : vs 6 = undef := hF 6 (by decide)
      have h7 : vs 7 = (.bool false) := hF 7 (by decide)
      have h8 : vs 8 = (.bool false) := hF 8 (by decide)
      have h9 : vs 9 = undef := hF 9 (by decide)
      have h10 : vs 10 = undef := hF 10 (by decide)
      have h11 : vs 11 = undef := hF 11 (by decide)
      have h12 : vs 12 = undef := hF 12 (by decide)
      have h13 : vs 13 = undef := hF 13 (by decide)
      have h14 : vs 14 = (.bool false) := hF 14 (by decide)
      have h15 : vs 15 = (.int .i64 v) := hF 15 (by decide)
      have h16 : vs 16 = (.bool false) := hF 16 (by decide)
      clear hF
      show (_ : Exit → Act → World → Prop) Exit.normal (puts _ vs 17 _) Wz
      simp only [puts, h0, h1, h2, h3, h4, h5, h6, h7, h8, h9, h10, h11, h12, h13, h14, h15, h16, List.getD_cons_zero, List.getD_cons_succ]
      clear h0 h1 h2 h3 h4 h5 h6 h7 h8 h9 h10 h11 h12 h13 h14 h15 h16
      have HJ := Lib.hid hJ
      clear hJ
      go_simp
      go_wp2_with (fail)
      go_ret2
      exact ⟨_, _, rfl, ⟨by rw [HNF.out]; rfl, fun h => by cases h⟩, HJ.out.1⟩

end Go.Proofs.YtaeoghagpeihkaaDoor

namespace Go.Proofs.YtaeoghagpeihkaaDoor
open Go.RowKit

def sameS (x y : Stp) : Bool := ((x.kind == y.kind) && ((x.a == y.a) && ((x.b == y.b) && ((x.name == y.name) && ((x.k == y.k) && (x.n == y.n))))))
theorem sameS_iff {x y : Stp} : sameS x y = true ↔ x = y := by
  obtain ⟨a0, a1, a2, a3, a4, a5⟩ := x
  obtain ⟨b0, b1, b2, b3, b4, b5⟩ := y
  simp [sameS, and_assoc]
theorem beqDs {α : Type} [BEq α] [LawfulBEq α] [DecidableEq α] (a b : α) : (a == b) = decide (a = b) := by rw [Bool.eq_iff_iff]; simp
theorem beqDt {a b : List UInt8} : (a == b) = decide ((⟨a.toArray⟩ : ByteArray) = ⟨b.toArray⟩) := by
  rw [beqDs]; by_cases h : a = b
  · simp [h]
  · simp only [h, decide_false]; exact (decide_eq_false (fun e => h (str_eq.1 e))).symm
theorem bool_neS (a b : Int) (W : World) : (if a = b then Result.ok (Value.bool false) W else Result.ok (Value.bool true) W) = .ok (.bool (!(a == b))) W := by
  by_cases h : a = b <;> simp [h]
theorem bool_chainN {c : Prop} [Decidable c] {r : Bool} {W : World} {b : Bool} {x : Result Value} (h1 : b = decide c) (h2 : c → x = .ok (.bool (!r)) W) : (if c then x else .ok (.bool true) W) = .ok (.bool (!(b && r))) W := by
  subst h1
  by_cases h : c
  · rw [if_pos h, h2 h]; simp [h]
  · rw [if_neg h]; simp [h]
set_option maxHeartbeats 2000000 in
theorem ne_S (x y : Stp) (W : World) : (binOp .neq 35 (.agg (stepC x)) (.agg (stepC y))).run Tryd.prog W = .ok (.bool (!sameS x y)) W := by
  unfold stepC
  rw [run_neq_struct]
  simp [go_sem]
  unfold sameS
  repeat (first | exact bool_neS _ _ _ | refine bool_chainN (beqDs _ _) fun _ => ?_ | refine bool_chainN beqDt fun _ => ?_)
theorem rnumt_any (n : Int) (h : I64s n) (w : World) (ht : TabT w) :
    Calls Tryd.prog 33 #[.int .i64 n] w fun e w' => e = .returned (.string ⟨(Lib.itoa n).toArray⟩) ∧ Below w.heap.size w w' := by
  have hf := Lib.hid (fmt_any n h w ht)
  go_enter Tryd.func33, Tryd.ntmps33
  go_wp2_with (fail)
  refine hf.out.mono ?_
  rintro e w1 ⟨rfl, hb⟩
  have HB := Lib.hid hb
  clear hb
  go_wp2
  go_ret
  exact ⟨rfl, HB.out⟩

end Go.Proofs.YtaeoghagpeihkaaDoor

namespace Go.Proofs.YtaeoghagpeihkaaDoor
open Go.RowKit

/-- a step's fields of the letters cs alone -/
def wantI (s : Stp) (cs : List UInt8) : Stp := ⟨s.kind, if (97 : UInt8) ∈ cs then s.a else 0, if (98 : UInt8) ∈ cs then s.b else 0, if (115 : UInt8) ∈ cs then s.name else [], if (107 : UInt8) ∈ cs then s.k else 0, if (110 : UInt8) ∈ cs ∨ (109 : UInt8) ∈ cs then s.n else 0⟩
/-- a step's other fields -/
def restI (s : Stp) (cs : List UInt8) : Stp := ⟨0, if (97 : UInt8) ∈ cs then 0 else s.a, if (98 : UInt8) ∈ cs then 0 else s.b, if (115 : UInt8) ∈ cs then [] else s.name, if (107 : UInt8) ∈ cs then 0 else s.k, if (110 : UInt8) ∈ cs ∨ (109 : UInt8) ∈ cs then 0 else s.n⟩
def outI (s : Stp) (cs : List UInt8) : List UInt8 := wordF s.kind ++ cs.flatMap (fun c => 32 :: fieldV s c)
theorem wantI_nil (s : Stp) : wantI s [] = ⟨s.kind, 0, 0, [], 0, 0⟩ := by simp [wantI]
theorem restI_nil (s : Stp) : restI s [] = ⟨0, s.a, s.b, s.name, s.k, s.n⟩ := by simp [restI]
theorem outI_nil (s : Stp) : outI s [] = wordF s.kind := by simp [outI]
theorem outI_add (s : Stp) (cs : List UInt8) (c : UInt8) : outI s (cs ++ [c]) = outI s cs ++ 32 :: fieldV s c := by simp [outI]
theorem fieldV_97 (s : Stp) : fieldV s 97 = Lib.itoa s.a := rfl
theorem fieldV_98 (s : Stp) : fieldV s 98 = Lib.itoa s.b := rfl
theorem fieldV_115 (s : Stp) : fieldV s 115 = quoteF s.name := rfl
theorem fieldV_107 (s : Stp) : fieldV s 107 = Lib.itoa s.k := rfl
theorem fieldV_110 (s : Stp) : fieldV s 110 = Lib.itoa s.n := rfl
theorem fieldV_109 (s : Stp) : fieldV s 109 = Lib.itoa s.n := rfl
theorem wantI_97 (s : Stp) (cs : List UInt8) : wantI s (cs ++ [97]) = { wantI s cs with a := s.a } := by simp [wantI]
theorem wantI_98 (s : Stp) (cs : List UInt8) : wantI s (cs ++ [98]) = { wantI s cs with b := s.b } := by simp [wantI]
theorem wantI_115 (s : Stp) (cs : List UInt8) : wantI s (cs ++ [115]) = { wantI s cs with name := s.name } := by simp [wantI]
theorem wantI_107 (s : Stp) (cs : List UInt8) : wantI s (cs ++ [107]) = { wantI s cs with k := s.k } := by simp [wantI]
theorem wantI_110 (s : Stp) (cs : List UInt8) : wantI s (cs ++ [110]) = { wantI s cs with n := s.n } := by simp [wantI]
theorem wantI_109 (s : Stp) (cs : List UInt8) : wantI s (cs ++ [109]) = { wantI s cs with n := s.n } := by simp [wantI]
theorem restI_97 (s : Stp) (cs : List UInt8) : restI s (cs ++ [97]) = { restI s cs with a := 0 } := by simp [restI]
theorem restI_98 (s : Stp) (cs : List UInt8) : restI s (cs ++ [98]) = { restI s cs with b := 0 } := by simp [restI]
theorem restI_115 (s : Stp) (cs : List UInt8) : restI s (cs ++ [115]) = { restI s cs with name := [] } := by simp [restI]
theorem restI_107 (s : Stp) (cs : List UInt8) : restI s (cs ++ [107]) = { restI s cs with k := 0 } := by simp [restI]
theorem restI_110 (s : Stp) (cs : List UInt8) : restI s (cs ++ [110]) = { restI s cs with n := 0 } := by simp [restI]
theorem restI_109 (s : Stp) (cs : List UInt8) : restI s (cs ++ [109]) = { restI s cs with n := 0 } := by simp [restI]
theorem rest_want (s : Stp) (cs : List UInt8) : sameS (restI s cs) zeroS = sameS (wantI s cs) s := by
  obtain ⟨k0, a, b, nm, k, n⟩ := s
  have key : ∀ {α : Type} [BEq α] [LawfulBEq α] (z x : α) (p : Prop) [Decidable p], ((if p then z else x) == z) = ((if p then x else z) == x) := by
    intro α _ _ z x p _
    by_cases h : p
    · rw [if_pos h, if_pos h]; simp
    · rw [if_neg h, if_neg h, Bool.eq_iff_iff]; simp; exact eq_comm
  unfold sameS restI wantI zeroS
  simp only [key]
  simp
theorem line_ok {s : Stp} (hw : wordF s.kind ≠ []) (hm : ∀ c ∈ shapeF s.kind, c = 109 → 0 ≤ s.n) (hs : sameS (wantI s (shapeF s.kind)) s = true) : lineF s = outI s (shapeF s.kind) := by
  have h : fitS s = true := (fitS_iff s).2 ⟨hw, sameS_iff.1 hs, fun h => hm _ h rfl⟩
  unfold lineF
  rw [if_pos h]; rfl
theorem line_word {s : Stp} (hw : wordF s.kind = []) : lineF s = [] := by
  unfold lineF
  rw [if_neg]
  intro h
  exact ((fitS_iff s).1 h).1 hw
theorem line_neg {s : Stp} (hm : (109 : UInt8) ∈ shapeF s.kind) (hn : s.n < 0) : lineF s = [] := by
  unfold lineF
  rw [if_neg]
  intro h
  have := ((fitS_iff s).1 h).2.2 hm
  omega
theorem line_ne {s : Stp} (hs : sameS (wantI s (shapeF s.kind)) s = false) : lineF s = [] := by
  unfold lineF
  rw [if_neg]
  intro h
  have h2 : wantI s (shapeF s.kind) = s := ((fitS_iff s).1 h).2.1
  rw [sameS_iff.2 h2] at hs
  cases hs
theorem quoteF_len (s : List UInt8) : (quoteF s).length ≤ 4 * s.length + 2 := by
  have h : ∀ (s : List UInt8), (s.flatMap qcF).length ≤ 4 * s.length := by
    intro s
    induction s with
    | nil => simp
    | cons c s ih =>
      have : (qcF c).length ≤ 4 := by unfold qcF; split; · simp
                                      split <;> simp
      simp only [List.flatMap_cons, List.length_append, List.length_cons]
      omega
  have := h s
  unfold quoteF
  simp only [List.length_cons, List.length_append, List.length_nil]
  omega
theorem wordF_len (k : Int) : (wordF k).length ≤ 7 := by
  by_cases h : wordF k = []
  · rw [h]; simp
  · rcases wordF_kind h with rfl | rfl | rfl | rfl | rfl | rfl | rfl | rfl | rfl | rfl | rfl | rfl | rfl | rfl | rfl <;> decide
theorem itoa_len {n : Int} (h : I64s n) : (Lib.itoa n).length ≤ 21 := h.2 |> Lib.itoa_length_le n h.1
theorem fieldV_len {s : Stp} (h64 : Stp64 s) (c : UInt8) : (fieldV s c).length ≤ 4 * s.name.length + 21 := by
  have h1 := itoa_len h64.a
  have h2 := itoa_len h64.b
  have h3 := itoa_len h64.k
  have h4 := itoa_len h64.n
  have h5 := quoteF_len s.name
  unfold fieldV
  repeat (split; · omega)
  omega

end Go.Proofs.YtaeoghagpeihkaaDoor

