/- Contracts: strings.Cut at '/', ParseInt, Parse on both sides (by program: wip/tools/gen_parse.py). -/
import Derived.Test.YtckedklopgnloaaDoorFracDigits
import Derived.Test.YtckedklopgnloaaDoorShelfP
import Derived.Test.YtckedklopgnloaaDoorFracLaw
import Derived.Lib.ParseIntBTie
import Derived.Lib.AtoiErrMem
import Derived.Lib.IndexBytes
import Derived.Lib.LaidTab
namespace Go.Proofs.YtckedklopgnloaaDoor
open Go.RowKit

set_option maxRecDepth 100000 in
set_option maxHeartbeats 1000000 in
theorem slcut_any (s : ByteArray) (w : World) (hs : s.size ≤ 9223372036854775806) : Calls Tryd.prog 56 #[.string s, .string ⟨#[47]⟩] w fun e w' => ∃ (a b : ByteArray) (has : Bool), e = .returned (.tuple #[.string a, .string b, .bool has]) ∧ CutR s.data.toList a.data.toList b.data.toList has ∧ ∃ n, w' = w.drewN n := by
  have hc : ∀ W, _ := fun W => Tryd.stringslite_Index_one s 47 W
  have hge := Lib.indexByte_ge s.data.toList 47
  have hno := @Lib.indexByte_none s.data.toList 47
  have hyes := @Lib.indexByte_some s.data.toList 47
  generalize Lib.indexByte s.data.toList 47 = i at *
  by_cases hi : i = -1
  · subst hi
    have HC : Hid (CutR s.data.toList s.data.toList (ByteArray.empty).data.toList false) := .inr ⟨rfl, rfl, rfl, fun hm => by
      obtain ⟨k, hk⟩ := List.mem_iff_getElem?.1 hm
      exact hno rfl k hk⟩
    clear hno hyes hge
    go_enter Tryd.func56, Tryd.ntmps56
    go_wp2_with (fail)
    refine (hc _).mono ?_
    rintro e w1 ⟨rfl, rfl⟩
    clear hc
    go_wp2
    go_ret3
    exact ⟨s, ByteArray.empty, false, rfl, HC, 0, rfl⟩
  · obtain ⟨k, rfl⟩ : ∃ k : Nat, i = (k : Int) := ⟨i.toNat, by omega⟩
    obtain ⟨h1, h2⟩ := hyes rfl
    have hk : k < s.size := by
      have := (List.getElem?_eq_some_iff.1 h1).1
      simpa using this
    have HC : Hid (CutR s.data.toList (s.extract 0 k).data.toList (s.extract (k + 1) s.size).data.toList true) := by
      refine .inl ⟨rfl, ?_, ?_⟩
      · rw [Lib.extract_data, Lib.extract_to_end]
        obtain ⟨hk2, hg⟩ := List.getElem?_eq_some_iff.1 h1
        have := List.take_append_drop k s.data.toList
        rw [List.drop_eq_getElem_cons hk2, hg] at this
        simpa using this.symm
      · rw [Lib.extract_data]
        intro hm
        simp only [List.drop_zero, Nat.sub_zero] at hm
        obtain ⟨j, hj, hjk⟩ := List.mem_take_iff_getElem.1 hm
        refine h2 j (by omega) ?_
        rw [List.getElem?_eq_getElem (by omega)]
        exact congrArg some hjk
    have hki : 0 ≤ (k : Int) := by omega
    clear hno hyes hge hi h1 h2
    go_enter Tryd.func56, Tryd.ntmps56
    go_wp2_with (fail)
    refine (hc _).mono ?_
    rintro e w1 ⟨rfl, rfl⟩
    clear hc
    go_wp2
    go_quiet (fail)
    go_wp2
    go_ret3
    exact ⟨s.extract 0 k, s.extract (k + 1) s.size, true, rfl, HC, _, rfl⟩
set_option maxRecDepth 100000 in
theorem cut_any (s : ByteArray) (w : World) (hs : s.size ≤ 9223372036854775806) : Calls Tryd.prog 50 #[.string s, .string ⟨#[47]⟩] w fun e w' => ∃ (a b : ByteArray) (has : Bool), e = .returned (.tuple #[.string a, .string b, .bool has]) ∧ CutR s.data.toList a.data.toList b.data.toList has ∧ ∃ n, w' = w.drewN n := by
  have hc : ∀ W, _ := fun W => slcut_any s W hs
  go_enter Tryd.func50, Tryd.ntmps50
  go_wp2_with (fail)
  refine (hc _).mono ?_
  rintro e w1 ⟨a, b, has, rfl, hC, n, rfl⟩
  have HC := Lib.hid hC
  clear hc hC
  go_wp2
  go_ret3
  exact ⟨a, b, has, rfl, HC.out, n, rfl⟩

/-- the two sentinels that ParseInt hands on -/
def ErrT (w : World) : Prop := (∃ te pe, w.cell? ⟨1, 0, none⟩ = some (.iface te pe)) ∧ ∃ te pe, w.cell? ⟨2, 0, none⟩ = some (.iface te pe)
theorem ErrT.below {w w' : World} (h : ErrT w) (hb : Below w.heap.size w w') : ErrT w' := by
  obtain ⟨⟨t1, p1, h1⟩, t2, p2, h2⟩ := h
  exact ⟨⟨t1, p1, (hb.cell (p := ⟨_, 0, none⟩) (Lib.lt_of_cell h1)).trans h1⟩, t2, p2, (hb.cell (p := ⟨_, 0, none⟩) (Lib.lt_of_cell h2)).trans h2⟩
theorem pint_ok (s : ByteArray) (w : World) (hs : s.size ≤ 281474976710656) (v : Int) (h : Lib.parseIntB 64 s.data.toList = .ok v) : Calls Tryd.prog 51 #[.string s, .int .i64 10, .int .i64 64] w fun e w' => e = .returned (.tuple #[.int .i64 v, .nilIface]) ∧ Below w.heap.size w w' := by
  refine (Tryd.strconv_ParseInt_10_at64_ok s (by omega) v h w).mono ?_
  rintro e w' ⟨rfl, hw⟩
  refine ⟨rfl, ?_⟩
  rcases hw with rfl | ⟨t, rfl⟩
  · exact Below.refl _ _
  · exact Lib.bytesWorld_below _ _ _
theorem pint_no (s : ByteArray) (w : World) (hs : s.size ≤ 281474976710656) (he : ErrT w) (h : ∀ v, Lib.parseIntB 64 s.data.toList ≠ .ok v) : Calls Tryd.prog 51 #[.string s, .int .i64 10, .int .i64 64] w fun e w' => ∃ n t p, e = .returned (.tuple #[.int .i64 n, .iface t p]) ∧ Below w.heap.size w w' := by
  obtain ⟨⟨t1, p1, h1⟩, t2, p2, h2⟩ := he
  rcases hP : Lib.parseIntB 64 s.data.toList with v | _ | _
  · exact absurd hP (h v)
  · refine (Any.strconv_ParseInt_10_at64_syntax Tryd.laysC174 s hs hP _ w h1 (.inr ⟨t1, p1, rfl⟩)).mono ?_
    rintro e w' ⟨N, rfl, -, -, hb⟩
    exact ⟨_, _, _, rfl, hb⟩
  · refine (Any.strconv_ParseInt_10_at64_range Tryd.laysC174 s hs hP _ w h2 (.inr ⟨t2, p2, rfl⟩)).mono ?_
    rintro e w' ⟨N, rfl, -, -, hb⟩
    exact ⟨_, _, _, rfl, hb⟩

theorem Box2.step' {w W W' : World} {p q : Int} (h : Box2 w p q W) (hb : Below W.heap.size W W') : Box2 w p q W' :=
  ⟨h.low.trans (hb.mono h.low.size), Nat.le_trans h.size hb.size, stays h.r hb, stays h.f hb⟩
theorem Box2.num {w W : World} {p q : Int} (h : Box2 w p q W) (x : Int) : Box2 w x q (W.setCell ⟨w.heap.size + 1, 0, none⟩ (.int .i64 x)) := by
  refine ⟨bel_set (by omega) h.low, by have := h.size; simpa [World.setCell] using this, ?_, ?_⟩
  · rw [Below.heap_setCell _ _ _ _ (show w.heap.size ≠ w.heap.size + 1 by omega)]; exact h.r
  · rw [heap_setCell_same W (w.heap.size + 1) 0 _ _ (.int .i64 x) h.f]; rfl
theorem Box2.den {w W : World} {p q : Int} (h : Box2 w p q W) (x : Int) : Box2 w p x (W.setCell ⟨w.heap.size + 1, 1, none⟩ (.int .i64 x)) := by
  refine ⟨bel_set (by omega) h.low, by have := h.size; simpa [World.setCell] using this, ?_, ?_⟩
  · rw [Below.heap_setCell _ _ _ _ (show w.heap.size ≠ w.heap.size + 1 by omega)]; exact h.r
  · rw [heap_setCell_same W (w.heap.size + 1) 1 _ _ (.int .i64 x) h.f]; rfl
theorem Box2.facts {w W : World} {p q : Int} (h : Box2 w p q W) : W.cell? ⟨w.heap.size, 0, none⟩ = some (.int .i64 0) ∧ W.cell? ⟨w.heap.size, 1, none⟩ = some (.int .i64 0) ∧ W.cell? ⟨w.heap.size + 1, 0, none⟩ = some (.int .i64 p) ∧ W.cell? ⟨w.heap.size + 1, 1, none⟩ = some (.int .i64 q) ∧
    W.frozen? ⟨w.heap.size, 0, none⟩ = false ∧ W.frozen? ⟨w.heap.size, 1, none⟩ = false ∧ W.frozen? ⟨w.heap.size + 1, 0, none⟩ = false ∧ W.frozen? ⟨w.heap.size + 1, 1, none⟩ = false :=
  ⟨cell_of_row _ _ 0 _ _ _ h.r, cell_of_row _ _ 1 _ _ _ h.r, cell_of_row _ _ 0 _ _ _ h.f, cell_of_row _ _ 1 _ _ _ h.f, frozen_of_row _ _ 0 _ _ h.r, frozen_of_row _ _ 1 _ _ h.r, frozen_of_row _ _ 0 _ _ h.f, frozen_of_row _ _ 1 _ _ h.f⟩
theorem valB_no {n d : Int} (h : ¬ Val n d) : valB n d = false := by rw [valB, decide_eq_false_iff_not]; exact h

set_option maxRecDepth 100000 in
set_option maxHeartbeats 4000000 in
theorem parse_any (s : ByteArray) (w : World) (hs : s.size ≤ 281474976710656) (ht : TabT w) (he : ErrT w) : Calls Tryd.prog 39 #[.string s] w fun e w' => ∃ n d ok, e = .returned (.tuple #[frV n d, .bool ok]) ∧ ParseR s.data.toList n d ok ∧ Below w.heap.size w w' := by
  have hcut : ∀ W, _ := fun W => cut_any s W (by omega)
  have HS0 := Lib.hid (Box2.start w 0 1)
  go_enter Tryd.func39, Tryd.ntmps39
  go_wp2_with (fail)
  refine (hcut _).mono ?_
  rintro e w1 ⟨a, b, has, rfl, hC, nd, rfl⟩
  have HC := Lib.hid hC
  have ha : a.size ≤ 281474976710656 := by have := hC.small.1; simp at this; omega
  have hb : b.size ≤ 281474976710656 := by have := hC.small.2; simp at this; omega
  have HTX : Hid (∀ x y, Val x y → s.data.toList = fracText x y → a.data.toList = Lib.itoa x ∧ (y = 1 → has = false) ∧ (y ≠ 1 → has = true ∧ b.data.toList = Lib.itoa y)) := fun x y _ h => hC.text h
  clear hcut hC
  have B0 := Lib.hid (HS0.out.drew nd)
  clear HS0
  by_cases hpa : ∃ v, Lib.parseIntB 64 a.data.toList = .ok v
  · obtain ⟨v, hv⟩ := hpa
    have hbd := Lib.parseIntB_bounds hv
    have hv0 : -9223372036854775808 ≤ v := by simpa using hbd.1
    have hv1 : v < 9223372036854775808 := by simpa using hbd.2
    have KA : Hid (∀ x y, Val x y → s.data.toList = fracText x y → v = x) := fun x y hxy h => by
      have h1 := (HTX.out x y hxy h).1
      have h2 := parse_itoa x hxy.2.2.1 hxy.2.2.2.1
      rw [h1] at hv
      rw [h2] at hv
      cases hv; rfl
    have cp : ∀ W, _ := fun W => pint_ok a W ha v hv
    have HVV := Lib.hid hv
    clear hv hbd
    go_wp2_with (fail)
    refine (cp _).mono ?_
    rintro e W1 ⟨rfl, hB⟩
    have B1 := Lib.hid (B0.out.step' hB)
    clear hB cp B0
    have B2 := Lib.hid (B1.out.num v)
    cases has with
    | false =>
      have KB : Hid (∀ x y, Val x y → s.data.toList = fracText x y → v = x ∧ 1 = y) := fun x y hxy h => by
        refine ⟨KA.out x y hxy h, ?_⟩
        by_cases hy : y = 1
        · exact hy.symm
        · have := ((HTX.out x y hxy h).2.2 hy).1; cases this
      have cv : ∀ W, _ := fun W => valid_any v 1 W (by omega) (by omega) (by omega) (by omega)
      by_cases hv : Val v 1
      · rw [(valB_iff v 1).2 hv] at cv
        have HV := Lib.hid hv
        clear hv
        obtain ⟨r0, r1, f0, f1, q0, q1, t0, t1⟩ := B1.out.facts
        go_wp2_with (fail)
        refine (cv _).mono ?_
        rintro e W2 ⟨rfl, hB⟩
        have Bx := Lib.hid (B2.out.step' hB)
        have ht2 := ht.below (Bx.out.low)
        clear hB r0 r1 f0 f1 q0 q1 t0 t1 cv
        have ct := text_any v 1 (by omega) (by omega) (by omega) (by omega) W2 ht2
        obtain ⟨r0, r1, f0, f1, q0, q1, t0, t1⟩ := Bx.out.facts
        go_wp2_with (fail)
        refine ct.mono ?_
        rintro e W3 ⟨rfl, hB⟩
        have By := Lib.hid (Bx.out.step' hB)
        clear hB r0 r1 f0 f1 q0 q1 t0 t1 ct
        obtain ⟨r0, r1, f0, f1, q0, q1, t0, t1⟩ := By.out.facts
        by_cases hts : s = ⟨(fracText v 1).toArray⟩
        · have HR : Hid (ParseR s.data.toList v 1 true) := .inl ⟨rfl, HV.out, by rw [hts]⟩
          have hn1 : (fracText v 1 == s.toList) = true := by rw [beq_iff_eq, hts, ByteArray.toList_eq]
          clear hts
          go_wp2
          exact bodyPost_ret (v := .tuple #[frV v 1, .bool true]) (by simp [results, Tryd.results39, go_sem, *]) rfl ⟨_, _, true, rfl, HR.out, bel_set (Nat.le_refl _) (bel_set (Nat.le_refl _) By.out.low)⟩
        · have HR : Hid (∀ a b, Val a b → s.data.toList ≠ fracText a b) := fun a b hab he => by
            obtain ⟨rfl, rfl⟩ := KB.out a b hab he
            exact hts (by rw [← he])
          have hn1 : (fracText v 1 == s.toList) = false := by
            rw [beq_eq_false_iff_ne, ByteArray.toList_eq]
            exact fun h => hts (ByteArray.ext (Array.ext' h.symm))
          clear hts
          go_wp2
          exact bodyPost_ret (v := .tuple #[frV 0 0, .bool false]) (by simp [results, Tryd.results39, go_sem, *]) rfl ⟨0, 0, false, rfl, .inr ⟨rfl, rfl, rfl, HR.out⟩, bel_set (Nat.le_refl _) (bel_set (Nat.le_refl _) By.out.low)⟩
      · rw [valB_no hv] at cv
        have HR : Hid (∀ a b, Val a b → s.data.toList ≠ fracText a b) := fun a b hab he => by
          obtain ⟨rfl, rfl⟩ := KB.out a b hab he
          exact hv hab
        clear hv
        obtain ⟨r0, r1, f0, f1, q0, q1, t0, t1⟩ := B1.out.facts
        go_wp2_with (fail)
        refine (cv _).mono ?_
        rintro e W2 ⟨rfl, hB⟩
        have Bx := Lib.hid (B2.out.step' hB)
        clear hB r0 r1 f0 f1 q0 q1 t0 t1 cv
        obtain ⟨r0, r1, f0, f1, q0, q1, t0, t1⟩ := Bx.out.facts
        go_wp2
        exact bodyPost_ret (v := .tuple #[frV 0 0, .bool false]) (by simp [results, Tryd.results39, go_sem, *]) rfl ⟨0, 0, false, rfl, .inr ⟨rfl, rfl, rfl, HR.out⟩, bel_set (Nat.le_refl _) (bel_set (Nat.le_refl _) Bx.out.low)⟩
    | true =>
      by_cases hpb : ∃ u, Lib.parseIntB 64 b.data.toList = .ok u
      · obtain ⟨u, hu⟩ := hpb
        have hbd := Lib.parseIntB_bounds hu
        have hu0 : -9223372036854775808 ≤ u := by simpa using hbd.1
        have hu1 : u < 9223372036854775808 := by simpa using hbd.2
        have KB : Hid (∀ x y, Val x y → s.data.toList = fracText x y → v = x ∧ u = y) := fun x y hxy h => by
          refine ⟨KA.out x y hxy h, ?_⟩
          by_cases hy : y = 1
          · have := (HTX.out x y hxy h).2.1 hy; cases this
          · have h1 := ((HTX.out x y hxy h).2.2 hy).2
            have h2 := parse_itoa y (by have := hxy.1; omega) hxy.2.1
            rw [h1] at hu
            rw [h2] at hu
            cases hu; rfl
        have cp : ∀ W, _ := fun W => pint_ok b W hb u hu
        clear hu hbd
        obtain ⟨r0, r1, f0, f1, q0, q1, t0, t1⟩ := B1.out.facts
        go_wp2_with (fail)
        refine (cp _).mono ?_
        rintro e W3 ⟨rfl, hB⟩
        have B3 := Lib.hid (B2.out.step' hB)
        clear hB cp r0 r1 f0 f1 q0 q1 t0 t1 B1
        have B4 := Lib.hid (B3.out.den u)
        have cv : ∀ W, _ := fun W => valid_any v u W (by omega) (by omega) (by omega) (by omega)
        by_cases hv : Val v u
        · rw [(valB_iff v u).2 hv] at cv
          have HV := Lib.hid hv
          clear hv
          obtain ⟨r0, r1, f0, f1, q0, q1, t0, t1⟩ := B3.out.facts
          go_wp2_with (fail)
          refine (cv _).mono ?_
          rintro e W2 ⟨rfl, hB⟩
          have Bx := Lib.hid (B4.out.step' hB)
          have ht2 := ht.below (Bx.out.low)
          clear hB r0 r1 f0 f1 q0 q1 t0 t1 cv
          have ct := text_any v u (by omega) (by omega) (by omega) (by omega) W2 ht2
          obtain ⟨r0, r1, f0, f1, q0, q1, t0, t1⟩ := Bx.out.facts
          go_wp2_with (fail)
          refine ct.mono ?_
          rintro e W3 ⟨rfl, hB⟩
          have By := Lib.hid (Bx.out.step' hB)
          clear hB r0 r1 f0 f1 q0 q1 t0 t1 ct
          obtain ⟨r0, r1, f0, f1, q0, q1, t0, t1⟩ := By.out.facts
          by_cases hts : s = ⟨(fracText v u).toArray⟩
          · have HR : Hid (ParseR s.data.toList v u true) := .inl ⟨rfl, HV.out, by rw [hts]⟩
            have hn1 : (fracText v u == s.toList) = true := by rw [beq_iff_eq, hts, ByteArray.toList_eq]
            clear hts
            go_wp2
            exact bodyPost_ret (v := .tuple #[frV v u, .bool true]) (by simp [results, Tryd.results39, go_sem, *]) rfl ⟨_, _, true, rfl, HR.out, bel_set (Nat.le_refl _) (bel_set (Nat.le_refl _) By.out.low)⟩
          · have HR : Hid (∀ a b, Val a b → s.data.toList ≠ fracText a b) := fun a b hab he => by
              obtain ⟨rfl, rfl⟩ := KB.out a b hab he
              exact hts (by rw [← he])
            have hn1 : (fracText v u == s.toList) = false := by
              rw [beq_eq_false_iff_ne, ByteArray.toList_eq]
              exact fun h => hts (ByteArray.ext (Array.ext' h.symm))
            clear hts
            go_wp2
            exact bodyPost_ret (v := .tuple #[frV 0 0, .bool false]) (by simp [results, Tryd.results39, go_sem, *]) rfl ⟨0, 0, false, rfl, .inr ⟨rfl, rfl, rfl, HR.out⟩, bel_set (Nat.le_refl _) (bel_set (Nat.le_refl _) By.out.low)⟩
        · rw [valB_no hv] at cv
          have HR : Hid (∀ a b, Val a b → s.data.toList ≠ fracText a b) := fun a b hab he => by
            obtain ⟨rfl, rfl⟩ := KB.out a b hab he
            exact hv hab
          clear hv
          obtain ⟨r0, r1, f0, f1, q0, q1, t0, t1⟩ := B3.out.facts
          go_wp2_with (fail)
          refine (cv _).mono ?_
          rintro e W2 ⟨rfl, hB⟩
          have Bx := Lib.hid (B4.out.step' hB)
          clear hB r0 r1 f0 f1 q0 q1 t0 t1 cv
          obtain ⟨r0, r1, f0, f1, q0, q1, t0, t1⟩ := Bx.out.facts
          go_wp2
          exact bodyPost_ret (v := .tuple #[frV 0 0, .bool false]) (by simp [results, Tryd.results39, go_sem, *]) rfl ⟨0, 0, false, rfl, .inr ⟨rfl, rfl, rfl, HR.out⟩, bel_set (Nat.le_refl _) (bel_set (Nat.le_refl _) Bx.out.low)⟩
      · have cp : ∀ W, ErrT W → _ := fun W hE => pint_no b W hb hE (fun u hu => hpb ⟨u, hu⟩)
        have HR : Hid (∀ x y, Val x y → s.data.toList ≠ fracText x y) := fun x y hxy h => by
          by_cases hy : y = 1
          · have := (HTX.out x y hxy h).2.1 hy; cases this
          · have h1 := ((HTX.out x y hxy h).2.2 hy).2
            exact hpb ⟨y, by rw [h1]; exact parse_itoa y (by have := hxy.1; omega) hxy.2.1⟩
        clear hpb
        obtain ⟨r0, r1, f0, f1, q0, q1, t0, t1⟩ := B1.out.facts
        go_wp2_with (fail)
        refine (cp _ (he.below B2.out.low)).mono ?_
        rintro e W3 ⟨n3, tt, pp, rfl, hB⟩
        have B3 := Lib.hid (B2.out.step' hB)
        clear hB cp r0 r1 f0 f1 q0 q1 t0 t1 B1
        obtain ⟨r0, r1, f0, f1, q0, q1, t0, t1⟩ := B3.out.facts
        have B4 := Lib.hid (B3.out.den n3)
        go_wp2
        exact bodyPost_ret (v := .tuple #[frV 0 0, .bool false]) (by simp [results, Tryd.results39, go_sem, *]) rfl ⟨0, 0, false, rfl, .inr ⟨rfl, rfl, rfl, HR.out⟩, bel_set (Nat.le_refl _) (bel_set (Nat.le_refl _) B4.out.low)⟩
  · have cp : ∀ W, ErrT W → _ := fun W hE => pint_no a W ha hE (fun v hv => hpa ⟨v, hv⟩)
    have HR : Hid (∀ x y, Val x y → s.data.toList ≠ fracText x y) := fun x y hxy h => hpa ⟨x, by rw [(HTX.out x y hxy h).1]; exact parse_itoa x hxy.2.2.1 hxy.2.2.2.1⟩
    clear hpa
    go_wp2_with (fail)
    refine (cp _ (he.below B0.out.low)).mono ?_
    rintro e W1 ⟨n1, tt, pp, rfl, hB⟩
    have B1 := Lib.hid (B0.out.step' hB)
    clear hB cp B0
    obtain ⟨r0, r1, f0, f1, q0, q1, t0, t1⟩ := B1.out.facts
    have B2 := Lib.hid (B1.out.num n1)
    go_wp2
    exact bodyPost_ret (v := .tuple #[frV 0 0, .bool false]) (by simp [results, Tryd.results39, go_sem, *]) rfl ⟨0, 0, false, rfl, .inr ⟨rfl, rfl, rfl, HR.out⟩, bel_set (Nat.le_refl _) (bel_set (Nat.le_refl _) B2.out.low)⟩

end Go.Proofs.YtckedklopgnloaaDoor
