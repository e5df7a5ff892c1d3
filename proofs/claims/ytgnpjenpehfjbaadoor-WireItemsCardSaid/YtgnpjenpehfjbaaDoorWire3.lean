/- Wire: is an item fit? Both sides (by program: wip/tools/gen_wire3.py). -/
import Derived.Test.YtgnpjenpehfjbaaDoorWire2
import Derived.Deep.RegionWith
import Derived.RegionTactic
import Derived.Deep.QuietTactic
import Derived.BigQuiet
import Derived.Outline
namespace Go.Proofs.YtgnpjenpehfjbaaDoor
open Go.RowKit

/-- what a packet says of one channel -/
structure Itm where
  name : List UInt8
  epoch : Int
  maker : Int
  alive : Bool
  kind : Int
  scale : Int
  ver : Int
  writer : Int
  flow : Int
  hasRest : Bool
  rest : Int
  mn : Xt
  mx : Xt
abbrev Itm.cells (x : Itm) : List Value := [.string ⟨x.name.toArray⟩, .int .i64 x.epoch, .int .i64 x.maker, .bool x.alive, .int .i64 x.kind, .int .i64 x.scale, .int .i64 x.ver, .int .i64 x.writer, .int .i64 x.flow, .bool x.hasRest, .int .i64 x.rest, .bool x.mn.has, .int .i64 x.mn.val, .int .i64 x.mn.org, .int .i64 x.mn.age, .bool x.mx.has, .int .i64 x.mx.val, .int .i64 x.mx.org, .int .i64 x.mx.age]
def preB (x : Itm) : Bool := nameB x.name && (inB x.epoch 1 1099511627776 && (nodeB x.maker && (decide (1 ≤ x.kind) && (decide (x.kind ≤ 4) && inB x.scale 1 1048576))))
def Itm.regZ (x : Itm) : Bool := x.ver == 0 && x.writer == 0 && x.flow == 0
def Itm.regB (x : Itm) : Bool := x.regZ || (inB x.ver 1 1099511627776 && nodeB x.writer && flowB x.flow)
def restB (x : Itm) : Bool :=
  if x.kind = 4 ∧ x.scale ≠ 1 then false
  else if x.alive then (if x.kind = 4 then x.regZ && !x.hasRest && x.rest == 0 && extB x.mn && extB x.mx else x.regB && flowB x.rest && (x.hasRest || x.rest == 0) && x.mn.zeroB && x.mx.zeroB)
  else x.regZ && !x.hasRest && x.rest == 0 && x.mn.zeroB && x.mx.zeroB
def fitI (x : Itm) : Bool := preB x && restB x

set_option maxRecDepth 100000 in
set_option maxHeartbeats 2000000 in
theorem item_pre (x : Itm) (w : World) (hl : x.name.length ≤ 9223372036854775807) (h : preB x = false) : Calls Tryd.prog 17 #[.agg x.cells.toArray] w fun e w' => e = .returned (.bool false) ∧ Below w.heap.size w w' := by
  obtain ⟨name, epoch, maker, alive, kind, scale, ver, writer, flow, hasRest, rest, ⟨m1, m2, m3, m4⟩, ⟨x1, x2, x3, x4⟩⟩ := x
  have hn := fun W => name_any name W hl
  have hd := fun W => node_any maker W
  have hw1 := fun W => within_any epoch 1 1099511627776 W
  have hw2 := fun W => within_any scale 1 1048576 W
  unfold preB at h
  simp only at h
  show Calls _ _ #[.agg #[.string ⟨name.toArray⟩, .int .i64 epoch, .int .i64 maker, .bool alive, .int .i64 kind, .int .i64 scale, .int .i64 ver, .int .i64 writer, .int .i64 flow, .bool hasRest, .int .i64 rest, .bool m1, .int .i64 m2, .int .i64 m3, .int .i64 m4, .bool x1, .int .i64 x2, .int .i64 x3, .int .i64 x4]] w _
  generalize nameB name = b1 at *
  generalize inB epoch 1 1099511627776 = b2 at *
  generalize nodeB maker = b3 at *
  generalize inB scale 1 1048576 = b6 at *
  generalize (⟨name.toArray⟩ : ByteArray) = nm at *
  clear hl
  cases b1
  · clear h hw1 hw2 hd
    go_enter Tryd.func17, Tryd.ntmps17
    go_wp2_with (first | (with_reducible refine (hn _).mono ?_; rintro e w' ⟨rfl, rfl⟩))
    go_ret
    exact ⟨rfl, ((Below.refl _ _).alloc (Nat.le_refl _) _).alloc (by simp) _⟩
  cases b2
  · clear h hw2 hd
    go_enter Tryd.func17, Tryd.ntmps17
    go_wp2_with (first | (with_reducible refine (hn _).mono ?_; rintro e w' ⟨rfl, rfl⟩) | (with_reducible refine (hw1 _).mono ?_; rintro e w' ⟨rfl, rfl⟩))
    go_ret
    exact ⟨rfl, ((Below.refl _ _).alloc (Nat.le_refl _) _).alloc (by simp) _⟩
  cases b3
  · clear h hw2
    go_enter Tryd.func17, Tryd.ntmps17
    go_wp2_with (first | (with_reducible refine (hn _).mono ?_; rintro e w' ⟨rfl, rfl⟩) | (with_reducible refine (hw1 _).mono ?_; rintro e w' ⟨rfl, rfl⟩) | (with_reducible refine (hd _).mono ?_; rintro e w' ⟨rfl, rfl⟩))
    go_ret
    exact ⟨rfl, ((Below.refl _ _).alloc (Nat.le_refl _) _).alloc (by simp) _⟩
  by_cases hk : 1 ≤ kind
  · have k1 : decide (kind < 1) = false := by simp; omega
    by_cases hk4 : kind ≤ 4
    · have k4 : decide (4 < kind) = false := by simp; omega
      simp [hk, hk4] at h
      subst h
      clear hk hk4
      go_enter Tryd.func17, Tryd.ntmps17
      go_wp2_with (first | (with_reducible refine (hn _).mono ?_; rintro e w' ⟨rfl, rfl⟩) | (with_reducible refine (hw1 _).mono ?_; rintro e w' ⟨rfl, rfl⟩) | (with_reducible refine (hd _).mono ?_; rintro e w' ⟨rfl, rfl⟩) | (with_reducible refine (hw2 _).mono ?_; rintro e w' ⟨rfl, rfl⟩))
      go_ret
      exact ⟨rfl, ((Below.refl _ _).alloc (Nat.le_refl _) _).alloc (by simp) _⟩
    · have k4 : decide (4 < kind) = true := by simp; omega
      clear h hw2 hk hk4
      go_enter Tryd.func17, Tryd.ntmps17
      go_wp2_with (first | (with_reducible refine (hn _).mono ?_; rintro e w' ⟨rfl, rfl⟩) | (with_reducible refine (hw1 _).mono ?_; rintro e w' ⟨rfl, rfl⟩) | (with_reducible refine (hd _).mono ?_; rintro e w' ⟨rfl, rfl⟩))
      go_ret
      exact ⟨rfl, ((Below.refl _ _).alloc (Nat.le_refl _) _).alloc (by simp) _⟩
  · have k1 : decide (kind < 1) = true := by simp; omega
    clear h hw2 hk
    go_enter Tryd.func17, Tryd.ntmps17
    go_wp2_with (first | (with_reducible refine (hn _).mono ?_; rintro e w' ⟨rfl, rfl⟩) | (with_reducible refine (hw1 _).mono ?_; rintro e w' ⟨rfl, rfl⟩) | (with_reducible refine (hd _).mono ?_; rintro e w' ⟨rfl, rfl⟩))
    go_ret
    exact ⟨rfl, ((Below.refl _ _).alloc (Nat.le_refl _) _).alloc (by simp) _⟩

set_option maxRecDepth 100000 in
set_option maxHeartbeats 2000000 in
theorem ritem_pre (x : Itm) (w : World) (hl : x.name.length ≤ 9223372036854775807) (h : preB x = false) : Calls Tryd.prog 18 #[.agg x.cells.toArray] w fun e w' => e = .returned (.bool false) ∧ Below w.heap.size w w' := by
  obtain ⟨name, epoch, maker, alive, kind, scale, ver, writer, flow, hasRest, rest, ⟨m1, m2, m3, m4⟩, ⟨x1, x2, x3, x4⟩⟩ := x
  have hn := fun W => rname_any name W hl
  have hd := fun W => rnode_any maker W
  have hw1 := fun W => rwithin_any epoch 1 1099511627776 W
  have hw2 := fun W => rwithin_any scale 1 1048576 W
  unfold preB at h
  simp only at h
  show Calls _ _ #[.agg #[.string ⟨name.toArray⟩, .int .i64 epoch, .int .i64 maker, .bool alive, .int .i64 kind, .int .i64 scale, .int .i64 ver, .int .i64 writer, .int .i64 flow, .bool hasRest, .int .i64 rest, .bool m1, .int .i64 m2, .int .i64 m3, .int .i64 m4, .bool x1, .int .i64 x2, .int .i64 x3, .int .i64 x4]] w _
  generalize nameB name = b1 at *
  generalize inB epoch 1 1099511627776 = b2 at *
  generalize nodeB maker = b3 at *
  generalize inB scale 1 1048576 = b6 at *
  generalize (⟨name.toArray⟩ : ByteArray) = nm at *
  clear hl
  cases b1
  · clear h hw1 hw2 hd
    go_enter Tryd.func18, Tryd.ntmps18
    go_wp2_with (first | (with_reducible refine (hn _).mono ?_; rintro e w' ⟨rfl, rfl⟩))
    go_ret
    exact ⟨rfl, ((Below.refl _ _).alloc (Nat.le_refl _) _).alloc (by simp) _⟩
  cases b2
  · clear h hw2 hd
    go_enter Tryd.func18, Tryd.ntmps18
    go_wp2_with (first | (with_reducible refine (hn _).mono ?_; rintro e w' ⟨rfl, rfl⟩) | (with_reducible refine (hw1 _).mono ?_; rintro e w' ⟨rfl, rfl⟩))
    go_ret
    exact ⟨rfl, ((Below.refl _ _).alloc (Nat.le_refl _) _).alloc (by simp) _⟩
  cases b3
  · clear h hw2
    go_enter Tryd.func18, Tryd.ntmps18
    go_wp2_with (first | (with_reducible refine (hn _).mono ?_; rintro e w' ⟨rfl, rfl⟩) | (with_reducible refine (hw1 _).mono ?_; rintro e w' ⟨rfl, rfl⟩) | (with_reducible refine (hd _).mono ?_; rintro e w' ⟨rfl, rfl⟩))
    go_ret
    exact ⟨rfl, ((Below.refl _ _).alloc (Nat.le_refl _) _).alloc (by simp) _⟩
  by_cases hk : 1 ≤ kind
  · have k1 : decide (kind < 1) = false := by simp; omega
    by_cases hk4 : kind ≤ 4
    · have k4 : decide (4 < kind) = false := by simp; omega
      simp [hk, hk4] at h
      subst h
      clear hk hk4
      go_enter Tryd.func18, Tryd.ntmps18
      go_wp2_with (first | (with_reducible refine (hn _).mono ?_; rintro e w' ⟨rfl, rfl⟩) | (with_reducible refine (hw1 _).mono ?_; rintro e w' ⟨rfl, rfl⟩) | (with_reducible refine (hd _).mono ?_; rintro e w' ⟨rfl, rfl⟩) | (with_reducible refine (hw2 _).mono ?_; rintro e w' ⟨rfl, rfl⟩))
      go_ret
      exact ⟨rfl, ((Below.refl _ _).alloc (Nat.le_refl _) _).alloc (by simp) _⟩
    · have k4 : decide (4 < kind) = true := by simp; omega
      clear h hw2 hk hk4
      go_enter Tryd.func18, Tryd.ntmps18
      go_wp2_with (first | (with_reducible refine (hn _).mono ?_; rintro e w' ⟨rfl, rfl⟩) | (with_reducible refine (hw1 _).mono ?_; rintro e w' ⟨rfl, rfl⟩) | (with_reducible refine (hd _).mono ?_; rintro e w' ⟨rfl, rfl⟩))
      go_ret
      exact ⟨rfl, ((Below.refl _ _).alloc (Nat.le_refl _) _).alloc (by simp) _⟩
  · have k1 : decide (kind < 1) = true := by simp; omega
    clear h hw2 hk
    go_enter Tryd.func18, Tryd.ntmps18
    go_wp2_with (first | (with_reducible refine (hn _).mono ?_; rintro e w' ⟨rfl, rfl⟩) | (with_reducible refine (hw1 _).mono ?_; rintro e w' ⟨rfl, rfl⟩) | (with_reducible refine (hd _).mono ?_; rintro e w' ⟨rfl, rfl⟩))
    go_ret
    exact ⟨rfl, ((Below.refl _ _).alloc (Nat.le_refl _) _).alloc (by simp) _⟩

end Go.Proofs.YtgnpjenpehfjbaaDoor
