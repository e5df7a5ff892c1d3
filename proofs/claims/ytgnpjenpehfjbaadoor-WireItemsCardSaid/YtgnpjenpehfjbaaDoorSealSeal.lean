/- What seal.Seal and the document's Seal make: the frame of a body. -/
import Derived.Test.YtgnpjenpehfjbaaDoorSealCrc
import Derived.Test.YtgnpjenpehfjbaaDoorBytes
namespace Go.Proofs.YtgnpjenpehfjbaaDoor
open Go.RowKit

def len2 (n : Nat) : List UInt8 := [UInt8.ofNat (n % 256), UInt8.ofNat (n / 256)]
def le32 (s : BitVec 32) : List UInt8 := [UInt8.ofNat (s.toNat % 256), UInt8.ofNat (s.toNat / 256 % 256), UInt8.ofNat (s.toNat / 65536 % 256), UInt8.ofNat (s.toNat / 16777216)]
def frameOf (body : List UInt8) : List UInt8 := [237, 91] ++ len2 body.length ++ body ++ le32 (crc (len2 body.length ++ body))

theorem byte_of (m : Nat) (h : m < 256) : ((UInt8.ofNat m).toNat : Int) = (m : Int) := by simp; omega
theorem lit4 (c0 c1 c2 c3 : UInt8) (i : Nat) (hi : i < 4) : (#[Value.int .u8 (c0.toNat : Int), .int .u8 (c1.toNat : Int), .int .u8 (c2.toNat : Int), .int .u8 (c3.toNat : Int)])[i]? = some (.int .u8 (([c0, c1, c2, c3].getD i 0).toNat : Int)) := by
  match i, hi with
  | 0, _ => rfl
  | 1, _ => rfl
  | 2, _ => rfl
  | 3, _ => rfl

set_option maxRecDepth 100000 in
set_option maxHeartbeats 1000000 in
theorem seal_Seal (v : Value) (l : List UInt8) (w : World) (B : Nat) (hb : Bts w B v l) (ht : TabOK w) (hB : B ≤ w.heap.size) (hs : l.length ≤ 65535) :
    Calls Tryd.prog 36 #[v] w fun e w' => ∃ v', e = .returned (.tuple #[v', .int .i64 0]) ∧ Own w' w.heap.size v' (frameOf l) ∧ Below w.heap.size w w' := by
  obtain ⟨ao, cap, hv, _⟩ := id hb
  subst hv
  generalize hn : l.length = n at *
  have HL := Lib.hid hn
  clear hn
  obtain ⟨i0, hi, hz0, hz1, hz2⟩ := info_parts info_u8
  obtain ⟨c2, hc2⟩ : ∃ c2 : UInt8, (n : Int) % 256 = (c2.toNat : Int) := ⟨UInt8.ofNat (n % 256), by rw [byte_of _ (by omega)]; omega⟩
  obtain ⟨c3, hc3⟩ : ∃ c3 : UInt8, (n : Int) / 256 = (c3.toNat : Int) := ⟨UInt8.ofNat (n / 256), by rw [byte_of _ (by omega)]; omega⟩
  go_enter Tryd.func36, Tryd.ntmps36
  go_wp2_with (at_make; refine wpList_make_own _ rfl _ _ 27 rfl w.heap.size 5 i0 (.int .u8 0) 1 Tryd.underlying27 hi hz0 hz1 _ _ _ (n + 8) rfl rfl (by omega) (by rw [hz2]; omega) (by unfold maxLen; omega) (by omega) ?_)
  intro w1 hown hgrow
  have hsz1 := hgrow.size
  have hown1 : Own (w1.alloc (.cells #[.int .u8 ((237 : UInt8).toNat : Int), .int .u8 ((91 : UInt8).toNat : Int), .int .u8 (c2.toNat : Int), .int .u8 (c3.toNat : Int)] 5)) w.heap.size (.slice (some ⟨w.heap.size, 0, none⟩) 0 (n + 8)) [] := hown.alloc _
  go_wp2_with (at_builtin; (refine wpList_append_bts rfl _ _ rfl w.heap.size _ [] rfl hown1 _ [237, 91, c2, c3] (w1.heap.size + 1) rfl ((Bts.lit _ w1.heap.size _ 5 (0, 0) [237, 91, c2, c3] 4 4 (heap_alloc_new w1 _) rfl (by omega) (by decide) (lit4 237 91 c2 c3)).mono (by simp)) (by simp) (by simp; omega) ?_))
  intro v2 w2 hown2 hg2 hne2
  have hB2 : Below w.heap.size w w2 := (((Below.refl w.heap.size w).grown hgrow (Nat.le_refl _) (fun k hk => by cases hk)).alloc hsz1 _).grown hg2 (by simp; omega) (fun k hk => by cases hk; exact Nat.le_refl _)
  have hb2 : Bts w2 B (.slice ao n cap) l := hb.below (hB2.mono hB) (Nat.le_refl _)
  clear hown1 hown hgrow hg2
  have hsz2 := hB2.size
  go_wp2_with (at_builtin; (refine wpList_append_bts rfl _ _ rfl w.heap.size _ [237, 91, c2, c3] rfl hown2 _ l B rfl hb2 (by rw [HL.out]; simp; omega) (by omega) ?_))
  intro v3 w3 hown3 hg3 hne3
  have hB3 : Below w.heap.size w w3 := hB2.grown hg3 (by omega) (fun k hk => (hown2.lt k hk).1)
  have hsz3 := hB3.size
  have ht3 : TabOK w3 := ht.below hB3 ht.lt
  obtain ⟨v4, hb4, hrun4⟩ := hown3.bts.fromB 2 (by simp)
  clear hown2 hg3 hb2 ht
  have hb4' : Bts w3 w3.heap.size v4 (c2 :: c3 :: l) := hb4
  have hrun : ∀ (W : World) (kl : IntKind), (Instr.slice 27 v3 (some (.int kl 2)) none none).run Tryd.prog W = .ok v4 W := hrun4
  clear hrun4 hb4
  generalize hcrc : crc (c2 :: c3 :: l) = sm at *
  have HC := Lib.hid hcrc
  clear hcrc
  have e0 : b32 sm % 256 = ((UInt8.ofNat (sm.toNat % 256)).toNat : Int) := by rw [byte_of _ (by omega)]; unfold b32; omega
  have e1 : b32 sm / 256 % 256 = ((UInt8.ofNat (sm.toNat / 256 % 256)).toNat : Int) := by rw [byte_of _ (by omega)]; unfold b32; omega
  have e2 : b32 sm / 65536 % 256 = ((UInt8.ofNat (sm.toNat / 65536 % 256)).toNat : Int) := by rw [byte_of _ (by omega)]; unfold b32; omega
  have e3 : b32 sm / 16777216 % 256 = ((UInt8.ofNat (sm.toNat / 16777216)).toNat : Int) := by have := sm.isLt; rw [byte_of _ (by omega)]; unfold b32; omega
  have HF : Hid (frameOf l = 237 :: 91 :: c2 :: c3 :: l ++ le32 sm) := Lib.hid (by
    have f2 : UInt8.ofNat (n % 256) = c2 := by
      apply UInt8.toNat_inj.1
      have := byte_of (n % 256) (by omega)
      omega
    have f3 : UInt8.ofNat (n / 256) = c3 := by
      apply UInt8.toNat_inj.1
      have := byte_of (n / 256) (by omega)
      omega
    unfold frameOf len2
    rw [HL.out, f2, f3, ← HC.out]
    rfl)
  unfold le32 at HF
  generalize UInt8.ofNat (sm.toNat % 256) = d0 at *
  generalize UInt8.ofNat (sm.toNat / 256 % 256) = d1 at *
  generalize UInt8.ofNat (sm.toNat / 65536 % 256) = d2 at *
  generalize UInt8.ofNat (sm.toNat / 16777216) = d3 at *
  have hsc := HC.out
  have hsum := fun W => fun (h1 : Bts W w3.heap.size v4 (c2 :: c3 :: l)) (h2 : TabOK W) => hsc ▸ seal_Sum v4 (c2 :: c3 :: l) W w3.heap.size h1 h2
  clear hsc
  have hown4 : Own (w3.alloc (.cells #[.int .u8 (d0.toNat : Int), .int .u8 (d1.toNat : Int), .int .u8 (d2.toNat : Int), .int .u8 (d3.toNat : Int)] 5)) w.heap.size v3 (237 :: 91 :: c2 :: c3 :: l) := World.ownsRow.alloc hown3 _
  go_wp2_with (first
    | (go_at_call 64; refine (hsum _ hb4' ht3).mono ?_; rintro e w' ⟨rfl, rfl⟩)
    | (at_builtin; (refine wpList_append_bts rfl _ _ rfl w.heap.size _ (237 :: 91 :: c2 :: c3 :: l) rfl hown4 _ [d0, d1, d2, d3] (w3.heap.size + 1) rfl ((Bts.lit _ w3.heap.size _ 5 (0, 0) [d0, d1, d2, d3] 4 4 (heap_alloc_new w3 _) rfl (by omega) (by decide) (lit4 d0 d1 d2 d3)).mono (by simp)) (by have := HL.out; simp; omega) (by simp; omega) ?_)))
  intro v5 w5 hown5 hg5 hne5
  go_wp2
  go_ret2
  refine ⟨v5, rfl, ?_, ?_⟩
  · rw [HF.out]; exact hown5
  · exact ((hB3.alloc hsz3 _).grown hg5 (by simp; omega) (fun k hk => (hown3.lt k hk).1))

set_option maxRecDepth 100000 in
set_option maxHeartbeats 1000000 in
theorem ref_Seal (v : Value) (l : List UInt8) (w : World) (B : Nat) (hb : Bts w B v l) (hB : B ≤ w.heap.size) (hs : l.length ≤ 65535) :
    Calls Tryd.prog 24 #[v] w fun e w' => ∃ v', e = .returned (.tuple #[v', .int .i64 0]) ∧ Own w' w.heap.size v' (frameOf l) ∧ Below w.heap.size w w' := by
  obtain ⟨ao, cap, hv, _⟩ := id hb
  subst hv
  generalize hn : l.length = n at *
  have HL := Lib.hid hn
  clear hn
  obtain ⟨c2, hc2⟩ : ∃ c2 : UInt8, (n : Int) % 256 = (c2.toNat : Int) := ⟨UInt8.ofNat (n % 256), by rw [byte_of _ (by omega)]; omega⟩
  obtain ⟨c3, hc3⟩ : ∃ c3 : UInt8, (n : Int) / 256 = (c3.toNat : Int) := ⟨UInt8.ofNat (n / 256), by rw [byte_of _ (by omega)]; omega⟩
  go_enter Tryd.func24, Tryd.ntmps24
  have hown2 : Own (w.alloc (.cells #[.int .u8 ((237 : UInt8).toNat : Int), .int .u8 ((91 : UInt8).toNat : Int), .int .u8 (c2.toNat : Int), .int .u8 (c3.toNat : Int)] 5)) w.heap.size (.slice (some ⟨w.heap.size, 0, none⟩) 4 4) [237, 91, c2, c3] :=
    World.ownsRow_lit w _ 4 (Nat.le_refl _) (by decide) rfl
  have hB2 : Below w.heap.size w (w.alloc (.cells #[.int .u8 ((237 : UInt8).toNat : Int), .int .u8 ((91 : UInt8).toNat : Int), .int .u8 (c2.toNat : Int), .int .u8 (c3.toNat : Int)] 5)) := (Below.refl _ _).alloc (Nat.le_refl _) _
  have hb2 : Bts (w.alloc (.cells #[.int .u8 ((237 : UInt8).toNat : Int), .int .u8 ((91 : UInt8).toNat : Int), .int .u8 (c2.toNat : Int), .int .u8 (c3.toNat : Int)] 5)) B (.slice ao n cap) l := hb.below (hB2.mono hB) (Nat.le_refl _)
  have hsz2 := hB2.size
  go_wp2_with (at_builtin; (refine wpList_append_bts rfl _ _ rfl w.heap.size _ [237, 91, c2, c3] rfl hown2 _ l B rfl hb2 (by rw [HL.out]; simp; omega) (by simp) ?_))
  intro v3 w3 hown3 hg3 hne3
  have hB3 : Below w.heap.size w w3 := hB2.grown hg3 (by simp) (fun k hk => (hown2.lt k hk).1)
  have hsz3 := hB3.size
  obtain ⟨v4, hb4, hrun4⟩ := hown3.bts.fromB 2 (by simp)
  clear hown2 hg3 hb2
  have hb4' : Bts w3 w3.heap.size v4 (c2 :: c3 :: l) := hb4
  have hrun : ∀ (W : World) (kl : IntKind), (Instr.slice 27 v3 (some (.int kl 2)) none none).run Tryd.prog W = .ok v4 W := hrun4
  clear hrun4 hb4
  generalize hcrc : crc (c2 :: c3 :: l) = sm at *
  have HC := Lib.hid hcrc
  clear hcrc
  have e0 : b32 sm % 256 = ((UInt8.ofNat (sm.toNat % 256)).toNat : Int) := by rw [byte_of _ (by omega)]; unfold b32; omega
  have e1 : b32 sm / 256 % 256 = ((UInt8.ofNat (sm.toNat / 256 % 256)).toNat : Int) := by rw [byte_of _ (by omega)]; unfold b32; omega
  have e2 : b32 sm / 65536 % 256 = ((UInt8.ofNat (sm.toNat / 65536 % 256)).toNat : Int) := by rw [byte_of _ (by omega)]; unfold b32; omega
  have e3 : b32 sm / 16777216 % 256 = ((UInt8.ofNat (sm.toNat / 16777216)).toNat : Int) := by have := sm.isLt; rw [byte_of _ (by omega)]; unfold b32; omega
  have HF : Hid (frameOf l = 237 :: 91 :: c2 :: c3 :: l ++ le32 sm) := Lib.hid (by
    have f2 : UInt8.ofNat (n % 256) = c2 := by
      apply UInt8.toNat_inj.1
      have := byte_of (n % 256) (by omega)
      omega
    have f3 : UInt8.ofNat (n / 256) = c3 := by
      apply UInt8.toNat_inj.1
      have := byte_of (n / 256) (by omega)
      omega
    unfold frameOf len2
    rw [HL.out, f2, f3, ← HC.out]
    rfl)
  unfold le32 at HF
  generalize UInt8.ofNat (sm.toNat % 256) = d0 at *
  generalize UInt8.ofNat (sm.toNat / 256 % 256) = d1 at *
  generalize UInt8.ofNat (sm.toNat / 65536 % 256) = d2 at *
  generalize UInt8.ofNat (sm.toNat / 16777216) = d3 at *
  have hsc := HC.out
  have hsum := fun W => fun (h1 : Bts W w3.heap.size v4 (c2 :: c3 :: l)) => hsc ▸ ref_Sum v4 (c2 :: c3 :: l) W w3.heap.size h1
  clear hsc
  have hown4 : Own (w3.alloc (.cells #[.int .u8 (d0.toNat : Int), .int .u8 (d1.toNat : Int), .int .u8 (d2.toNat : Int), .int .u8 (d3.toNat : Int)] 5)) w.heap.size v3 (237 :: 91 :: c2 :: c3 :: l) := World.ownsRow.alloc hown3 _
  go_wp2_with (first
    | (go_at_call 47; refine (hsum _ hb4').mono ?_; rintro e w' ⟨rfl, rfl⟩)
    | (at_builtin; (refine wpList_append_bts rfl _ _ rfl w.heap.size _ (237 :: 91 :: c2 :: c3 :: l) rfl hown4 _ [d0, d1, d2, d3] (w3.heap.size + 1) rfl ((Bts.lit _ w3.heap.size _ 5 (0, 0) [d0, d1, d2, d3] 4 4 (heap_alloc_new w3 _) rfl (by omega) (by decide) (lit4 d0 d1 d2 d3)).mono (by simp)) (by have := HL.out; simp; omega) (by simp; omega) ?_)))
  intro v5 w5 hown5 hg5 hne5
  go_wp2
  go_ret2
  refine ⟨v5, rfl, ?_, ?_⟩
  · rw [HF.out]; exact hown5
  · exact ((hB3.alloc hsz3 _).grown hg5 (by simp; omega) (fun k hk => (hown3.lt k hk).1))


set_option maxRecDepth 100000 in
theorem seal_Seal_long (v : Value) (l : List UInt8) (w : World) (B : Nat) (hb : Bts w B v l) (hs : 65535 < l.length) :
    Calls Tryd.prog 36 #[v] w fun e w' => e = .returned (.tuple #[.slice none 0 0, .int .i64 23]) ∧ w = w' := by
  obtain ⟨ao, cap, hv, _⟩ := id hb
  subst hv
  have hm := hb.len
  generalize l.length = n at *
  go_enter Tryd.func36, Tryd.ntmps36
  go_wp2
  go_ret2
  exact ⟨rfl, by trivial⟩
set_option maxRecDepth 100000 in
theorem ref_Seal_long (v : Value) (l : List UInt8) (w : World) (B : Nat) (hb : Bts w B v l) (hs : 65535 < l.length) :
    Calls Tryd.prog 24 #[v] w fun e w' => e = .returned (.tuple #[.slice none 0 0, .int .i64 23]) ∧ w = w' := by
  obtain ⟨ao, cap, hv, _⟩ := id hb
  subst hv
  have hm := hb.len
  generalize l.length = n at *
  go_enter Tryd.func24, Tryd.ntmps24
  go_wp2
  go_ret2
  exact ⟨rfl, by trivial⟩

end Go.Proofs.YtgnpjenpehfjbaaDoor
