/- Contract: the document's Parse (by program: wip/tools/gen_parse.py 2). -/
import Derived.Test.YtckedklopgnloaaDoorFracParse
namespace Go.Proofs.YtckedklopgnloaaDoor
open Go.RowKit


set_option maxRecDepth 100000 in
set_option maxHeartbeats 8000000 in
theorem rparse_any (s : ByteArray) (w : World) (hs : s.size ≤ 281474976710656) (ht : TabT w) : Calls Tryd.prog 40 #[.string s] w fun e w' => ∃ n d ok, e = .returned (.tuple #[frV n d, .bool ok]) ∧ ParseR s.data.toList n d ok ∧ Below w.heap.size w w' := by
  have hlen : s.data.toList.length = s.size := by simp
  have HLEN := Lib.hid hlen
  clear hlen
  by_cases hp : 0 < s.size
  · by_cases h45 : s[0] = 45
    · have hh : (1 : Nat) = (if s.data.toList.head? = some 45 then 1 else 0) := by
        rw [if_pos]
        rw [List.head?_eq_getElem?, List.getElem?_eq_getElem (by have := HLEN.out; omega)]
        exact congrArg some h45
      have h45b : ((s[0].toNat : Int) == 45) = true := by rw [h45]; rfl
      clear h45
      have HH : Hid (1 = (if s.data.toList.head? = some 45 then 1 else 0)) := hh
      clear hh
      go_enter Tryd.func40, Tryd.ntmps40
      go_wp2_with (fail)
      refine (digits_any (s.extract 1 s.size) _ (by rw [ByteArray.size_extract]; omega)).mono ?_
      rintro e w1 ⟨n, k, rfl, hD, rfl⟩
      rw [Lib.extract_to_end] at hD
      have hn := hD.lt
      have hk : 1 + k ≤ s.size := by have h1 := hD.1; rw [List.length_drop] at h1; have := HLEN.out; omega
      have HD := Lib.hid hD
      clear hD
      have B2 := Lib.hid (Box2.start w (-(n : Int)) 1)
      by_cases hlt : 1 + k < s.size
      · have hdrop : s.data.toList.drop (1 + k) = s[1 + k] :: s.data.toList.drop (1 + k + 1) := by
          rw [List.drop_eq_getElem_cons (by have := HLEN.out; omega)]; rfl
        have HDR := Lib.hid hdrop
        clear hdrop
        have hix : 0 ≤ (1 : Int) + (k : Int) ∧ (1 : Int) + (k : Int) < (s.size : Int) := by omega
        have hto : ((1 : Int) + (k : Int)).toNat = 1 + k := by omega
        by_cases hsl : s[1 + k] = 47
        · have hsb : ((s[1 + k].toNat : Int) == 47) = true := by rw [hsl]; rfl
          have HSL := Lib.hid hsl
          clear hsl
          go_wp2_with (fail)
          refine (digits_any (s.extract (1 + k + 1) s.size) _ (by rw [ByteArray.size_extract]; omega)).mono ?_
          rintro e w1 ⟨d, m, rfl, hD, rfl⟩
          rw [Lib.extract_to_end] at hD
          have hd := hD.lt
          have hm : 1 + k + 1 + m ≤ s.size := by have h1 := hD.1; rw [List.length_drop] at h1; have := HLEN.out; omega
          have HR : Hid (RPar s.data.toList (-(n : Int)) (d : Int) (1 + k + 1 + m)) := ⟨1, n, k, HH.out, HD.out, by simp, .inl ⟨by rw [HDR.out, HSL.out]; rfl, m, d, hD, rfl, rfl⟩⟩
          clear hD
          have B3 := Lib.hid (Box2.start w (-(n : Int)) (d : Int))
          by_cases hat : 1 + k + 1 + m = s.size
          · have KB : Hid (∀ x y, Val x y → s.data.toList = fracText x y → (-(n : Int)) = x ∧ (d : Int) = y) := fun x y hxy h => (HR.out.key hxy h).2
            have hae : (((1 : Int) + (k : Int) + 1 + (m : Int)) == (s.size : Int)) = true := by rw [beq_iff_eq]; omega
            have hae2 : (((1 : Int) + (k : Int) + 1 + (m : Int)) != (s.size : Int)) = false := by rw [bne_eq_false_iff_eq]; omega
            clear hat
            have cv : ∀ W, _ := fun W => rvalid_any (-(n : Int)) (d : Int) W (by omega) (by omega) (by omega) (by omega)
            by_cases hv : Val (-(n : Int)) (d : Int)
            · rw [(valB_iff (-(n : Int)) (d : Int)).2 hv] at cv
              have HV := Lib.hid hv
              clear hv
              obtain ⟨r0, r1, f0, f1, q0, q1, t0, t1⟩ := B3.out.facts
              go_wp2_with (fail)
              refine (cv _).mono ?_
              rintro e W2 ⟨rfl, hB⟩
              have Bx := Lib.hid (B3.out.step' hB)
              have ht2 := ht.below (Bx.out.low)
              clear hB r0 r1 f0 f1 q0 q1 t0 t1 cv
              have ct := rtext_any (-(n : Int)) (d : Int) (by omega) (by omega) (by omega) (by omega) W2 ht2
              obtain ⟨r0, r1, f0, f1, q0, q1, t0, t1⟩ := Bx.out.facts
              go_wp2_with (fail)
              refine ct.mono ?_
              rintro e W3 ⟨rfl, hB⟩
              have By := Lib.hid (Bx.out.step' hB)
              clear hB r0 r1 f0 f1 q0 q1 t0 t1 ct
              obtain ⟨r0, r1, f0, f1, q0, q1, t0, t1⟩ := By.out.facts
              by_cases hts : s = ⟨(fracText (-(n : Int)) (d : Int)).toArray⟩
              · have HR : Hid (ParseR s.data.toList (-(n : Int)) (d : Int) true) := .inl ⟨rfl, HV.out, by rw [hts]⟩
                have hn1 : (fracText (-(n : Int)) (d : Int) == s.toList) = true := by rw [beq_iff_eq, hts, ByteArray.toList_eq]
                clear hts
                go_wp2
                exact bodyPost_ret (v := .tuple #[frV (-(n : Int)) (d : Int), .bool true]) (by simp [results, Tryd.results40, go_sem, *]) rfl ⟨_, _, true, rfl, HR.out, bel_set (Nat.le_refl _) (bel_set (Nat.le_refl _) By.out.low)⟩
              · have HR : Hid (∀ a b, Val a b → s.data.toList ≠ fracText a b) := fun a b hab he => by
                  obtain ⟨rfl, rfl⟩ := KB.out a b hab he
                  exact hts (by rw [← he])
                have hn1 : (fracText (-(n : Int)) (d : Int) == s.toList) = false := by
                  rw [beq_eq_false_iff_ne, ByteArray.toList_eq]
                  exact fun h => hts (ByteArray.ext (Array.ext' h.symm))
                clear hts
                go_wp2
                exact bodyPost_ret (v := .tuple #[frV 0 0, .bool false]) (by simp [results, Tryd.results40, go_sem, *]) rfl ⟨0, 0, false, rfl, .inr ⟨rfl, rfl, rfl, HR.out⟩, bel_set (Nat.le_refl _) (bel_set (Nat.le_refl _) By.out.low)⟩
            · rw [valB_no hv] at cv
              have HR : Hid (∀ a b, Val a b → s.data.toList ≠ fracText a b) := fun a b hab he => by
                obtain ⟨rfl, rfl⟩ := KB.out a b hab he
                exact hv hab
              clear hv
              obtain ⟨r0, r1, f0, f1, q0, q1, t0, t1⟩ := B3.out.facts
              go_wp2_with (fail)
              refine (cv _).mono ?_
              rintro e W2 ⟨rfl, hB⟩
              have Bx := Lib.hid (B3.out.step' hB)
              clear hB r0 r1 f0 f1 q0 q1 t0 t1 cv
              obtain ⟨r0, r1, f0, f1, q0, q1, t0, t1⟩ := Bx.out.facts
              go_wp2
              exact bodyPost_ret (v := .tuple #[frV 0 0, .bool false]) (by simp [results, Tryd.results40, go_sem, *]) rfl ⟨0, 0, false, rfl, .inr ⟨rfl, rfl, rfl, HR.out⟩, bel_set (Nat.le_refl _) (bel_set (Nat.le_refl _) Bx.out.low)⟩
          · have HN : Hid (∀ x y, Val x y → s.data.toList ≠ fracText x y) := fun x y hxy h => hat (by rw [(HR.out.key hxy h).1, HLEN.out])
            have hae : (((1 : Int) + (k : Int) + 1 + (m : Int)) == (s.size : Int)) = false := by rw [beq_eq_false_iff_ne]; omega
            have hae2 : (((1 : Int) + (k : Int) + 1 + (m : Int)) != (s.size : Int)) = true := by rw [bne_iff_ne]; omega
            clear hat
            go_wp2
            exact bodyPost_ret (v := .tuple #[frV 0 0, .bool false]) (by simp [results, Tryd.results40, go_sem, *]) rfl ⟨0, 0, false, rfl, .inr ⟨rfl, rfl, rfl, HN.out⟩, B3.out.low⟩
        · have hsb : ((s[1 + k].toNat : Int) == 47) = false := by
            rw [beq_eq_false_iff_ne]
            intro h
            exact hsl (UInt8.toNat_inj.1 (by have e : (47 : UInt8).toNat = 47 := rfl; omega))
          have HR : Hid (RPar s.data.toList (-(n : Int)) 1 (1 + k)) := ⟨1, n, k, HH.out, HD.out, by simp, .inr ⟨by rw [HDR.out]; simp; exact hsl, rfl, rfl⟩⟩
          have HN : Hid (∀ x y, Val x y → s.data.toList ≠ fracText x y) := fun x y hxy h => by
            have := (HR.out.key hxy h).1
            have := HLEN.out
            omega
          have hae : (((1 : Int) + (k : Int)) == (s.size : Int)) = false := by rw [beq_eq_false_iff_ne]; omega
          have hae2 : (((1 : Int) + (k : Int)) != (s.size : Int)) = true := by rw [bne_iff_ne]; omega
          clear hsl
          go_wp2
          exact bodyPost_ret (v := .tuple #[frV 0 0, .bool false]) (by simp [results, Tryd.results40, go_sem, *]) rfl ⟨0, 0, false, rfl, .inr ⟨rfl, rfl, rfl, HN.out⟩, B2.out.low⟩
      · have HR : Hid (RPar s.data.toList (-(n : Int)) 1 (1 + k)) := ⟨1, n, k, HH.out, HD.out, by simp, .inr ⟨by rw [List.drop_of_length_le (by have := HLEN.out; omega)]; simp, rfl, rfl⟩⟩
        have KB : Hid (∀ x y, Val x y → s.data.toList = fracText x y → (-(n : Int)) = x ∧ (1 : Int) = y) := fun x y hxy h => (HR.out.key hxy h).2
        have hae : (((1 : Int) + (k : Int)) == (s.size : Int)) = true := by rw [beq_iff_eq]; omega
        have hae2 : (((1 : Int) + (k : Int)) != (s.size : Int)) = false := by rw [bne_eq_false_iff_eq]; omega
        have cv : ∀ W, _ := fun W => rvalid_any (-(n : Int)) 1 W (by omega) (by omega) (by omega) (by omega)
        by_cases hv : Val (-(n : Int)) 1
        · rw [(valB_iff (-(n : Int)) 1).2 hv] at cv
          have HV := Lib.hid hv
          clear hv
          obtain ⟨r0, r1, f0, f1, q0, q1, t0, t1⟩ := B2.out.facts
          go_wp2_with (fail)
          refine (cv _).mono ?_
          rintro e W2 ⟨rfl, hB⟩
          have Bx := Lib.hid (B2.out.step' hB)
          have ht2 := ht.below (Bx.out.low)
          clear hB r0 r1 f0 f1 q0 q1 t0 t1 cv
          have ct := rtext_any (-(n : Int)) 1 (by omega) (by omega) (by omega) (by omega) W2 ht2
          obtain ⟨r0, r1, f0, f1, q0, q1, t0, t1⟩ := Bx.out.facts
          go_wp2_with (fail)
          refine ct.mono ?_
          rintro e W3 ⟨rfl, hB⟩
          have By := Lib.hid (Bx.out.step' hB)
          clear hB r0 r1 f0 f1 q0 q1 t0 t1 ct
          obtain ⟨r0, r1, f0, f1, q0, q1, t0, t1⟩ := By.out.facts
          by_cases hts : s = ⟨(fracText (-(n : Int)) 1).toArray⟩
          · have HR : Hid (ParseR s.data.toList (-(n : Int)) 1 true) := .inl ⟨rfl, HV.out, by rw [hts]⟩
            have hn1 : (fracText (-(n : Int)) 1 == s.toList) = true := by rw [beq_iff_eq, hts, ByteArray.toList_eq]
            clear hts
            go_wp2
            exact bodyPost_ret (v := .tuple #[frV (-(n : Int)) 1, .bool true]) (by simp [results, Tryd.results40, go_sem, *]) rfl ⟨_, _, true, rfl, HR.out, bel_set (Nat.le_refl _) (bel_set (Nat.le_refl _) By.out.low)⟩
          · have HR : Hid (∀ a b, Val a b → s.data.toList ≠ fracText a b) := fun a b hab he => by
              obtain ⟨rfl, rfl⟩ := KB.out a b hab he
              exact hts (by rw [← he])
            have hn1 : (fracText (-(n : Int)) 1 == s.toList) = false := by
              rw [beq_eq_false_iff_ne, ByteArray.toList_eq]
              exact fun h => hts (ByteArray.ext (Array.ext' h.symm))
            clear hts
            go_wp2
            exact bodyPost_ret (v := .tuple #[frV 0 0, .bool false]) (by simp [results, Tryd.results40, go_sem, *]) rfl ⟨0, 0, false, rfl, .inr ⟨rfl, rfl, rfl, HR.out⟩, bel_set (Nat.le_refl _) (bel_set (Nat.le_refl _) By.out.low)⟩
        · rw [valB_no hv] at cv
          have HR : Hid (∀ a b, Val a b → s.data.toList ≠ fracText a b) := fun a b hab he => by
            obtain ⟨rfl, rfl⟩ := KB.out a b hab he
            exact hv hab
          clear hv
          obtain ⟨r0, r1, f0, f1, q0, q1, t0, t1⟩ := B2.out.facts
          go_wp2_with (fail)
          refine (cv _).mono ?_
          rintro e W2 ⟨rfl, hB⟩
          have Bx := Lib.hid (B2.out.step' hB)
          clear hB r0 r1 f0 f1 q0 q1 t0 t1 cv
          obtain ⟨r0, r1, f0, f1, q0, q1, t0, t1⟩ := Bx.out.facts
          go_wp2
          exact bodyPost_ret (v := .tuple #[frV 0 0, .bool false]) (by simp [results, Tryd.results40, go_sem, *]) rfl ⟨0, 0, false, rfl, .inr ⟨rfl, rfl, rfl, HR.out⟩, bel_set (Nat.le_refl _) (bel_set (Nat.le_refl _) Bx.out.low)⟩
    · have hh : (0 : Nat) = (if s.data.toList.head? = some 45 then 1 else 0) := by
        rw [if_neg]
        rw [List.head?_eq_getElem?, List.getElem?_eq_getElem (by have := HLEN.out; omega)]
        exact fun h => h45 (Option.some.inj h)
      have h45b : ((s[0].toNat : Int) == 45) = false := by
        rw [beq_eq_false_iff_ne]
        intro h
        exact h45 (UInt8.toNat_inj.1 (by have e : (45 : UInt8).toNat = 45 := rfl; omega))
      clear h45
      have HH : Hid (0 = (if s.data.toList.head? = some 45 then 1 else 0)) := hh
      clear hh
      go_enter Tryd.func40, Tryd.ntmps40
      go_wp2_with (fail)
      refine (digits_any s _ (by omega)).mono ?_
      rintro e w1 ⟨n, k, rfl, hD, rfl⟩
      replace hD : DigR (s.data.toList.drop 0) n k := hD
      have hn := hD.lt
      have hk : k ≤ s.size := by have h1 := hD.1; rw [List.length_drop] at h1; have := HLEN.out; omega
      have HD := Lib.hid hD
      clear hD
      have B2 := Lib.hid (Box2.start w (n : Int) 1)
      by_cases hlt : k < s.size
      · have hdrop : s.data.toList.drop (k) = s[k] :: s.data.toList.drop (k + 1) := by
          rw [List.drop_eq_getElem_cons (by have := HLEN.out; omega)]; rfl
        have HDR := Lib.hid hdrop
        clear hdrop
        have hix : 0 ≤ (k : Int) ∧ (k : Int) < (s.size : Int) := by omega
        have hto : (k : Int).toNat = k := by omega
        by_cases hsl : s[k] = 47
        · have hsb : ((s[k].toNat : Int) == 47) = true := by rw [hsl]; rfl
          have HSL := Lib.hid hsl
          clear hsl
          go_wp2_with (fail)
          refine (digits_any (s.extract (k + 1) s.size) _ (by rw [ByteArray.size_extract]; omega)).mono ?_
          rintro e w1 ⟨d, m, rfl, hD, rfl⟩
          rw [Lib.extract_to_end] at hD
          have hd := hD.lt
          have hm : k + 1 + m ≤ s.size := by have h1 := hD.1; rw [List.length_drop] at h1; have := HLEN.out; omega
          have HR : Hid (RPar s.data.toList (n : Int) (d : Int) (k + 1 + m)) := ⟨0, n, k, HH.out, HD.out, by simp, .inl ⟨by rw [Nat.zero_add, HDR.out, HSL.out]; rfl, m, d, by rw [Nat.zero_add]; exact hD, rfl, by omega⟩⟩
          clear hD
          have B3 := Lib.hid (Box2.start w (n : Int) (d : Int))
          by_cases hat : k + 1 + m = s.size
          · have KB : Hid (∀ x y, Val x y → s.data.toList = fracText x y → (n : Int) = x ∧ (d : Int) = y) := fun x y hxy h => (HR.out.key hxy h).2
            have hae : (((k : Int) + 1 + (m : Int)) == (s.size : Int)) = true := by rw [beq_iff_eq]; omega
            have hae2 : (((k : Int) + 1 + (m : Int)) != (s.size : Int)) = false := by rw [bne_eq_false_iff_eq]; omega
            clear hat
            have cv : ∀ W, _ := fun W => rvalid_any (n : Int) (d : Int) W (by omega) (by omega) (by omega) (by omega)
            by_cases hv : Val (n : Int) (d : Int)
            · rw [(valB_iff (n : Int) (d : Int)).2 hv] at cv
              have HV := Lib.hid hv
              clear hv
              obtain ⟨r0, r1, f0, f1, q0, q1, t0, t1⟩ := B3.out.facts
              go_wp2_with (fail)
              refine (cv _).mono ?_
              rintro e W2 ⟨rfl, hB⟩
              have Bx := Lib.hid (B3.out.step' hB)
              have ht2 := ht.below (Bx.out.low)
              clear hB r0 r1 f0 f1 q0 q1 t0 t1 cv
              have ct := rtext_any (n : Int) (d : Int) (by omega) (by omega) (by omega) (by omega) W2 ht2
              obtain ⟨r0, r1, f0, f1, q0, q1, t0, t1⟩ := Bx.out.facts
              go_wp2_with (fail)
              refine ct.mono ?_
              rintro e W3 ⟨rfl, hB⟩
              have By := Lib.hid (Bx.out.step' hB)
              clear hB r0 r1 f0 f1 q0 q1 t0 t1 ct
              obtain ⟨r0, r1, f0, f1, q0, q1, t0, t1⟩ := By.out.facts
              by_cases hts : s = ⟨(fracText (n : Int) (d : Int)).toArray⟩
              · have HR : Hid (ParseR s.data.toList (n : Int) (d : Int) true) := .inl ⟨rfl, HV.out, by rw [hts]⟩
                have hn1 : (fracText (n : Int) (d : Int) == s.toList) = true := by rw [beq_iff_eq, hts, ByteArray.toList_eq]
                clear hts
                go_wp2
                exact bodyPost_ret (v := .tuple #[frV (n : Int) (d : Int), .bool true]) (by simp [results, Tryd.results40, go_sem, *]) rfl ⟨_, _, true, rfl, HR.out, bel_set (Nat.le_refl _) (bel_set (Nat.le_refl _) By.out.low)⟩
              · have HR : Hid (∀ a b, Val a b → s.data.toList ≠ fracText a b) := fun a b hab he => by
                  obtain ⟨rfl, rfl⟩ := KB.out a b hab he
                  exact hts (by rw [← he])
                have hn1 : (fracText (n : Int) (d : Int) == s.toList) = false := by
                  rw [beq_eq_false_iff_ne, ByteArray.toList_eq]
                  exact fun h => hts (ByteArray.ext (Array.ext' h.symm))
                clear hts
                go_wp2
                exact bodyPost_ret (v := .tuple #[frV 0 0, .bool false]) (by simp [results, Tryd.results40, go_sem, *]) rfl ⟨0, 0, false, rfl, .inr ⟨rfl, rfl, rfl, HR.out⟩, bel_set (Nat.le_refl _) (bel_set (Nat.le_refl _) By.out.low)⟩
            · rw [valB_no hv] at cv
              have HR : Hid (∀ a b, Val a b → s.data.toList ≠ fracText a b) := fun a b hab he => by
                obtain ⟨rfl, rfl⟩ := KB.out a b hab he
                exact hv hab
              clear hv
              obtain ⟨r0, r1, f0, f1, q0, q1, t0, t1⟩ := B3.out.facts
              go_wp2_with (fail)
              refine (cv _).mono ?_
              rintro e W2 ⟨rfl, hB⟩
              have Bx := Lib.hid (B3.out.step' hB)
              clear hB r0 r1 f0 f1 q0 q1 t0 t1 cv
              obtain ⟨r0, r1, f0, f1, q0, q1, t0, t1⟩ := Bx.out.facts
              go_wp2
              exact bodyPost_ret (v := .tuple #[frV 0 0, .bool false]) (by simp [results, Tryd.results40, go_sem, *]) rfl ⟨0, 0, false, rfl, .inr ⟨rfl, rfl, rfl, HR.out⟩, bel_set (Nat.le_refl _) (bel_set (Nat.le_refl _) Bx.out.low)⟩
          · have HN : Hid (∀ x y, Val x y → s.data.toList ≠ fracText x y) := fun x y hxy h => hat (by rw [(HR.out.key hxy h).1, HLEN.out])
            have hae : (((k : Int) + 1 + (m : Int)) == (s.size : Int)) = false := by rw [beq_eq_false_iff_ne]; omega
            have hae2 : (((k : Int) + 1 + (m : Int)) != (s.size : Int)) = true := by rw [bne_iff_ne]; omega
            clear hat
            go_wp2
            exact bodyPost_ret (v := .tuple #[frV 0 0, .bool false]) (by simp [results, Tryd.results40, go_sem, *]) rfl ⟨0, 0, false, rfl, .inr ⟨rfl, rfl, rfl, HN.out⟩, B3.out.low⟩
        · have hsb : ((s[k].toNat : Int) == 47) = false := by
            rw [beq_eq_false_iff_ne]
            intro h
            exact hsl (UInt8.toNat_inj.1 (by have e : (47 : UInt8).toNat = 47 := rfl; omega))
          have HR : Hid (RPar s.data.toList (n : Int) 1 (k)) := ⟨0, n, k, HH.out, HD.out, by simp, .inr ⟨by rw [Nat.zero_add, HDR.out]; simp; exact hsl, rfl, by omega⟩⟩
          have HN : Hid (∀ x y, Val x y → s.data.toList ≠ fracText x y) := fun x y hxy h => by
            have := (HR.out.key hxy h).1
            have := HLEN.out
            omega
          have hae : ((k : Int) == (s.size : Int)) = false := by rw [beq_eq_false_iff_ne]; omega
          have hae2 : ((k : Int) != (s.size : Int)) = true := by rw [bne_iff_ne]; omega
          clear hsl
          go_wp2
          exact bodyPost_ret (v := .tuple #[frV 0 0, .bool false]) (by simp [results, Tryd.results40, go_sem, *]) rfl ⟨0, 0, false, rfl, .inr ⟨rfl, rfl, rfl, HN.out⟩, B2.out.low⟩
      · have HR : Hid (RPar s.data.toList (n : Int) 1 (k)) := ⟨0, n, k, HH.out, HD.out, by simp, .inr ⟨by rw [Nat.zero_add, List.drop_of_length_le (by have := HLEN.out; omega)]; simp, rfl, by omega⟩⟩
        have KB : Hid (∀ x y, Val x y → s.data.toList = fracText x y → (n : Int) = x ∧ (1 : Int) = y) := fun x y hxy h => (HR.out.key hxy h).2
        have hae : ((k : Int) == (s.size : Int)) = true := by rw [beq_iff_eq]; omega
        have hae2 : ((k : Int) != (s.size : Int)) = false := by rw [bne_eq_false_iff_eq]; omega
        have cv : ∀ W, _ := fun W => rvalid_any (n : Int) 1 W (by omega) (by omega) (by omega) (by omega)
        by_cases hv : Val (n : Int) 1
        · rw [(valB_iff (n : Int) 1).2 hv] at cv
          have HV := Lib.hid hv
          clear hv
          obtain ⟨r0, r1, f0, f1, q0, q1, t0, t1⟩ := B2.out.facts
          go_wp2_with (fail)
          refine (cv _).mono ?_
          rintro e W2 ⟨rfl, hB⟩
          have Bx := Lib.hid (B2.out.step' hB)
          have ht2 := ht.below (Bx.out.low)
          clear hB r0 r1 f0 f1 q0 q1 t0 t1 cv
          have ct := rtext_any (n : Int) 1 (by omega) (by omega) (by omega) (by omega) W2 ht2
          obtain ⟨r0, r1, f0, f1, q0, q1, t0, t1⟩ := Bx.out.facts
          go_wp2_with (fail)
          refine ct.mono ?_
          rintro e W3 ⟨rfl, hB⟩
          have By := Lib.hid (Bx.out.step' hB)
          clear hB r0 r1 f0 f1 q0 q1 t0 t1 ct
          obtain ⟨r0, r1, f0, f1, q0, q1, t0, t1⟩ := By.out.facts
          by_cases hts : s = ⟨(fracText (n : Int) 1).toArray⟩
          · have HR : Hid (ParseR s.data.toList (n : Int) 1 true) := .inl ⟨rfl, HV.out, by rw [hts]⟩
            have hn1 : (fracText (n : Int) 1 == s.toList) = true := by rw [beq_iff_eq, hts, ByteArray.toList_eq]
            clear hts
            go_wp2
            exact bodyPost_ret (v := .tuple #[frV (n : Int) 1, .bool true]) (by simp [results, Tryd.results40, go_sem, *]) rfl ⟨_, _, true, rfl, HR.out, bel_set (Nat.le_refl _) (bel_set (Nat.le_refl _) By.out.low)⟩
          · have HR : Hid (∀ a b, Val a b → s.data.toList ≠ fracText a b) := fun a b hab he => by
              obtain ⟨rfl, rfl⟩ := KB.out a b hab he
              exact hts (by rw [← he])
            have hn1 : (fracText (n : Int) 1 == s.toList) = false := by
              rw [beq_eq_false_iff_ne, ByteArray.toList_eq]
              exact fun h => hts (ByteArray.ext (Array.ext' h.symm))
            clear hts
            go_wp2
            exact bodyPost_ret (v := .tuple #[frV 0 0, .bool false]) (by simp [results, Tryd.results40, go_sem, *]) rfl ⟨0, 0, false, rfl, .inr ⟨rfl, rfl, rfl, HR.out⟩, bel_set (Nat.le_refl _) (bel_set (Nat.le_refl _) By.out.low)⟩
        · rw [valB_no hv] at cv
          have HR : Hid (∀ a b, Val a b → s.data.toList ≠ fracText a b) := fun a b hab he => by
            obtain ⟨rfl, rfl⟩ := KB.out a b hab he
            exact hv hab
          clear hv
          obtain ⟨r0, r1, f0, f1, q0, q1, t0, t1⟩ := B2.out.facts
          go_wp2_with (fail)
          refine (cv _).mono ?_
          rintro e W2 ⟨rfl, hB⟩
          have Bx := Lib.hid (B2.out.step' hB)
          clear hB r0 r1 f0 f1 q0 q1 t0 t1 cv
          obtain ⟨r0, r1, f0, f1, q0, q1, t0, t1⟩ := Bx.out.facts
          go_wp2
          exact bodyPost_ret (v := .tuple #[frV 0 0, .bool false]) (by simp [results, Tryd.results40, go_sem, *]) rfl ⟨0, 0, false, rfl, .inr ⟨rfl, rfl, rfl, HR.out⟩, bel_set (Nat.le_refl _) (bel_set (Nat.le_refl _) Bx.out.low)⟩
  · have hh : (0 : Nat) = (if s.data.toList.head? = some 45 then 1 else 0) := by
      rw [if_neg]
      rw [List.head?_eq_getElem?, List.getElem?_eq_none (by have := HLEN.out; omega)]
      simp
    have HH : Hid (0 = (if s.data.toList.head? = some 45 then 1 else 0)) := hh
    clear hh
    go_enter Tryd.func40, Tryd.ntmps40
    go_wp2_with (fail)
    refine (digits_any s _ (by omega)).mono ?_
    rintro e w1 ⟨n, k, rfl, hD, rfl⟩
    replace hD : DigR (s.data.toList.drop 0) n k := hD
    have hn := hD.lt
    have hk : k ≤ s.size := by have h1 := hD.1; rw [List.length_drop] at h1; have := HLEN.out; omega
    have HD := Lib.hid hD
    clear hD
    have B2 := Lib.hid (Box2.start w (n : Int) 1)
    by_cases hlt : k < s.size
    · exact absurd hlt (by omega)
    · have HR : Hid (RPar s.data.toList (n : Int) 1 (k)) := ⟨0, n, k, HH.out, HD.out, by simp, .inr ⟨by rw [Nat.zero_add, List.drop_of_length_le (by have := HLEN.out; omega)]; simp, rfl, by omega⟩⟩
      have KB : Hid (∀ x y, Val x y → s.data.toList = fracText x y → (n : Int) = x ∧ (1 : Int) = y) := fun x y hxy h => (HR.out.key hxy h).2
      have hae : ((k : Int) == (s.size : Int)) = true := by rw [beq_iff_eq]; omega
      have hae2 : ((k : Int) != (s.size : Int)) = false := by rw [bne_eq_false_iff_eq]; omega
      have cv : ∀ W, _ := fun W => rvalid_any (n : Int) 1 W (by omega) (by omega) (by omega) (by omega)
      by_cases hv : Val (n : Int) 1
      · rw [(valB_iff (n : Int) 1).2 hv] at cv
        have HV := Lib.hid hv
        clear hv
        obtain ⟨r0, r1, f0, f1, q0, q1, t0, t1⟩ := B2.out.facts
        go_wp2_with (fail)
        refine (cv _).mono ?_
        rintro e W2 ⟨rfl, hB⟩
        have Bx := Lib.hid (B2.out.step' hB)
        have ht2 := ht.below (Bx.out.low)
        clear hB r0 r1 f0 f1 q0 q1 t0 t1 cv
        have ct := rtext_any (n : Int) 1 (by omega) (by omega) (by omega) (by omega) W2 ht2
        obtain ⟨r0, r1, f0, f1, q0, q1, t0, t1⟩ := Bx.out.facts
        go_wp2_with (fail)
        refine ct.mono ?_
        rintro e W3 ⟨rfl, hB⟩
        have By := Lib.hid (Bx.out.step' hB)
        clear hB r0 r1 f0 f1 q0 q1 t0 t1 ct
        obtain ⟨r0, r1, f0, f1, q0, q1, t0, t1⟩ := By.out.facts
        by_cases hts : s = ⟨(fracText (n : Int) 1).toArray⟩
        · have HR : Hid (ParseR s.data.toList (n : Int) 1 true) := .inl ⟨rfl, HV.out, by rw [hts]⟩
          have hn1 : (fracText (n : Int) 1 == s.toList) = true := by rw [beq_iff_eq, hts, ByteArray.toList_eq]
          clear hts
          go_wp2
          exact bodyPost_ret (v := .tuple #[frV (n : Int) 1, .bool true]) (by simp [results, Tryd.results40, go_sem, *]) rfl ⟨_, _, true, rfl, HR.out, bel_set (Nat.le_refl _) (bel_set (Nat.le_refl _) By.out.low)⟩
        · have HR : Hid (∀ a b, Val a b → s.data.toList ≠ fracText a b) := fun a b hab he => by
            obtain ⟨rfl, rfl⟩ := KB.out a b hab he
            exact hts (by rw [← he])
          have hn1 : (fracText (n : Int) 1 == s.toList) = false := by
            rw [beq_eq_false_iff_ne, ByteArray.toList_eq]
            exact fun h => hts (ByteArray.ext (Array.ext' h.symm))
          clear hts
          go_wp2
          exact bodyPost_ret (v := .tuple #[frV 0 0, .bool false]) (by simp [results, Tryd.results40, go_sem, *]) rfl ⟨0, 0, false, rfl, .inr ⟨rfl, rfl, rfl, HR.out⟩, bel_set (Nat.le_refl _) (bel_set (Nat.le_refl _) By.out.low)⟩
      · rw [valB_no hv] at cv
        have HR : Hid (∀ a b, Val a b → s.data.toList ≠ fracText a b) := fun a b hab he => by
          obtain ⟨rfl, rfl⟩ := KB.out a b hab he
          exact hv hab
        clear hv
        obtain ⟨r0, r1, f0, f1, q0, q1, t0, t1⟩ := B2.out.facts
        go_wp2_with (fail)
        refine (cv _).mono ?_
        rintro e W2 ⟨rfl, hB⟩
        have Bx := Lib.hid (B2.out.step' hB)
        clear hB r0 r1 f0 f1 q0 q1 t0 t1 cv
        obtain ⟨r0, r1, f0, f1, q0, q1, t0, t1⟩ := Bx.out.facts
        go_wp2
        exact bodyPost_ret (v := .tuple #[frV 0 0, .bool false]) (by simp [results, Tryd.results40, go_sem, *]) rfl ⟨0, 0, false, rfl, .inr ⟨rfl, rfl, rfl, HR.out⟩, bel_set (Nat.le_refl _) (bel_set (Nat.le_refl _) Bx.out.low)⟩

end Go.Proofs.YtckedklopgnloaaDoor
