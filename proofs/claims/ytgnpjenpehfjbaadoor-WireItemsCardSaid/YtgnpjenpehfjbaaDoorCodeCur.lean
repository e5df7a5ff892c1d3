/- The cursor behind code.Read: one byte; the reading of a number; what panics with which code. -/
import Derived.Test.YtgnpjenpehfjbaaDoorCodeNum2
import Derived.Deep.QuietTactic
import Derived.BigQuiet
namespace Go.Proofs.YtgnpjenpehfjbaaDoor
open Go.RowKit

theorem heap_store1 {W : World} {b : Nat} {t : TypeId} {x y u : Value} (h : W.heap[b]? = some (.cells #[x, y] t (0, 0))) : (W.setCell ⟨b, 1, none⟩ u).heap[b]? = some (.cells #[x, u] t (0, 0)) := by
  rw [heap_setCell_same W b 1 #[x, y] t u h]; rfl

/-- the reader's block: its bytes, its place -/
abbrev curO (vb : Value) (at_ : Nat) : Obj := .cells #[vb, .int .i64 (at_ : Int)] 147 (0, 0)
/-- what reading leaves: all but the reader's block as it was -/
structure Rd (rb : Nat) (vb : Value) (w w' : World) (at_ : Nat) : Prop where
  os : w'.os = w.os
  tape : w'.tape = w.tape
  output : w'.output = w.output
  size : w.heap.size ≤ w'.heap.size
  block : ∀ k, k < w.heap.size → k ≠ rb → w'.heap[k]? = w.heap[k]?
  cur : w'.heap[rb]? = some (curO vb at_)
  lt : rb < w.heap.size

theorem Rd.refl {rb : Nat} {vb : Value} {w : World} {at_ : Nat} (h : w.heap[rb]? = some (curO vb at_)) : Rd rb vb w w at_ := ⟨rfl, rfl, rfl, Nat.le_refl _, fun _ _ _ => rfl, h, (Array.getElem?_eq_some_iff.1 h).1⟩
theorem Rd.trans {rb : Nat} {vb : Value} {w w1 w2 : World} {a b : Nat} (h : Rd rb vb w w1 a) (g : Rd rb vb w1 w2 b) : Rd rb vb w w2 b :=
  ⟨g.os.trans h.os, g.tape.trans h.tape, g.output.trans h.output, Nat.le_trans h.size g.size, fun k hk hne => (g.block k (Nat.lt_of_lt_of_le hk h.size) hne).trans (h.block k hk hne), g.cur, h.lt⟩
theorem Rd.drew {rb : Nat} {vb : Value} {w w' : World} {a : Nat} (h : Rd rb vb w w' a) (n : Nat) : Rd rb vb w (w'.drewN n) a := ⟨h.os, h.tape, h.output, h.size, h.block, h.cur, h.lt⟩
theorem Rd.alloc {rb : Nat} {vb : Value} {w w' : World} {a : Nat} (h : Rd rb vb w w' a) (o : Obj) : Rd rb vb w (w'.alloc o) a := by
  have hrb := (Array.getElem?_eq_some_iff.1 h.cur).1
  refine ⟨h.os, h.tape, h.output, by simp; exact Nat.le_succ_of_le h.size, fun k hk hne => ?_, ?_, h.lt⟩
  · rw [Below.heap_alloc _ _ _ (Nat.lt_of_lt_of_le hk h.size)]; exact h.block k hk hne
  · rw [Below.heap_alloc _ _ _ hrb]; exact h.cur
theorem Rd.below {rb : Nat} {vb : Value} {w w' : World} {a : Nat} (h : Rd rb vb w w' a) : Below rb w w' := ⟨h.os, h.tape, h.output, h.size, fun k hk => h.block k (by have := h.lt; omega) (by omega)⟩
theorem Rd.bts {rb : Nat} {vb : Value} {w w' : World} {a : Nat} (h : Rd rb vb w w' a) {v : Value} {l : List UInt8} (hb : Bts w rb v l) : Bts w' rb v l := hb.below h.below (Nat.le_refl _)
theorem Rd.step {rb : Nat} {vb : Value} {w w' : World} {a : Nat} (h : Rd rb vb w w' a) (b : Nat) : Rd rb vb w (w'.setCell ⟨rb, 1, none⟩ (.int .i64 (b : Int))) b := by
  refine ⟨h.os, h.tape, h.output, by simpa [World.setCell] using h.size, fun k hk hne => ?_, ?_, h.lt⟩
  · rw [Below.heap_setCell _ _ _ _ hne]; exact h.block k hk hne
  · exact heap_store1 h.cur

/-- the panic that gives reading up -/
abbrev gaveUp (e : Int) : Ending := .panicked [{ v := .iface 43 (.int .i64 e), recovered := false }]

theorem fail_calls (p : Value) (e : Int) (w : World) : Calls Tryd.prog 91 #[p, .int .i64 e] w fun x w' => x = gaveUp e ∧ w' = w := by
  go_enter Tryd.func91, Tryd.ntmps91
  go_wp2
  exact ⟨rfl, rfl, rfl⟩

set_option maxRecDepth 100000 in
theorem byte_end (rb : Nat) (ao : Option Addr) (n cap at_ : Nat) (w : World) (hc : w.heap[rb]? = some (curO (.slice ao n cap) at_)) (hat : n ≤ at_) :
    Calls Tryd.prog 93 #[.pointer (some ⟨rb, 0, none⟩)] w fun x w' => x = gaveUp 21 ∧ Rd rb (.slice ao n cap) w w' at_ := by
  have h0 : w.cell? ⟨rb, 0, none⟩ = some (.slice ao n cap) := cell_of_row w rb 0 _ _ _ hc
  have h1 : w.cell? ⟨rb, 1, none⟩ = some (.int .i64 (at_ : Int)) := cell_of_row w rb 1 _ _ _ hc
  have HC := Lib.hid hc
  clear hc
  go_enter Tryd.func93, Tryd.ntmps93
  go_wp2
  go_quiet (fail)
  go_wp2_with (go_at_call 91; refine (fail_calls _ _ _).mono ?_; rintro e w' ⟨rfl, rfl⟩)
  exact ⟨rfl, rfl, (Rd.refl HC.out).drew _⟩

set_option maxRecDepth 100000 in
theorem byte_ok (rb : Nat) (vb : Value) (l : List UInt8) (at_ : Nat) (w : World) (hc : w.heap[rb]? = some (curO vb at_)) (hb : Bts w rb vb l) (hat : at_ < l.length) :
    Calls Tryd.prog 93 #[.pointer (some ⟨rb, 0, none⟩)] w fun x w' => x = .returned (.int .u8 ((l.getD at_ 0).toNat : Int)) ∧ Rd rb vb w w' (at_ + 1) := by
  have hlen := hb.len
  obtain ⟨ao, cap, rfl, hcap, _, _, hx⟩ := id hb
  obtain ⟨b, off, rfl, hbr, hcell⟩ := hx (fun h => by rw [h] at hat; simp at hat)
  have h0 : w.cell? ⟨rb, 0, none⟩ = some (.slice (some ⟨b, off, none⟩) l.length cap) := cell_of_row w rb 0 _ _ _ hc
  have h1 : w.cell? ⟨rb, 1, none⟩ = some (.int .i64 (at_ : Int)) := cell_of_row w rb 1 _ _ _ hc
  have hf : w.frozen? ⟨rb, 1, none⟩ = false := frozen_of_row w rb 1 _ _ hc
  have hca := hcell at_ hat
  have HC := Lib.hid hc
  clear hc hcell hx hb
  generalize l.getD at_ 0 = c at *
  generalize l.length = n at *
  have hne : b ≠ rb := by omega
  go_enter Tryd.func93, Tryd.ntmps93
  go_wp2
  go_quiet (fail)
  go_wp2
  go_quiet (fail)
  go_wp2
  go_ret
  exact ⟨rfl, (((Rd.refl HC.out).drew _).step (at_ + 1)).drew _⟩

end Go.Proofs.YtgnpjenpehfjbaaDoor
