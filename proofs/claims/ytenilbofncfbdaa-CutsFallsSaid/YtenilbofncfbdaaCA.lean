/- General lemmas of this seat's proofs, no statement of the seat: numbers of 32 bits as bit vectors, slices of bytes as lists, append onto a slice of the call's own.
Pairs of nodes and what flows over them, plain. No program here.
A search in breadth over pairs that more may go over, and one more way: plain. No program here.
The search in breadth to its end; the way back, with one more over each pair: plain. No program here.
The greatest flow: plain. No program here.
A search in depth and what it marks: plain. No program here.
The search in depth: what a call leaves. Plain. No program here.
The search in depth: a child's call within a call. Plain. No program here.
The search in depth, whole: what it marks are the bridges and the joints. Plain. No program here.
A range over a function whose iterator reads memory and makes blocks of its own between two rounds: what it hands over may be known by what it holds in memory ('R').
A range over a function (see Range) whose assignment of the round's variables makes blocks.
A range over a function whose iterator turns ONE block of its own (a box) between two rounds; its rounds all go on.
Small laws for functions that range over a function (the same as in Hist17).
A range over a function within a round of another (by program: wip/tools/gen_rangen.py): the outer law tells its round of its own record. -/
import Derived.Test.YtenilbofncfbdaaRows
import Derived.WalkKit
import Derived.WalkSpells
import Derived.WalkLawsBesides
import Derived.Lib.Hide
import Derived.RangeFuncNested
import Derived.RangeFuncBound
import Derived.RangeFuncCalls
import Derived.RangeFuncLeaves
import Derived.Shelf.Abstract
import Derived.Shelf.RegionOpen
import Derived.OwnWalkIn
import Derived.TacticsInMore
import Derived.LoopNIn
import Derived.LoopIn
import Derived.WalkMore
set_option linter.unusedSimpArgs false
set_option linter.unusedVariables false
namespace Go.Proofs.Ytenilbofncfbdaa
open Go.RowKit

theorem wrap_u32_nat (n : Nat) (h : n < 4294967296) : IntKind.u32.wrap (n : Int) = (n : Int) := by
  simp only [IntKind.wrap_u32]; omega
theorem ofInt_toNat32 (x : BitVec 32) : BitVec.ofInt IntKind.u32.bits (x.toNat : Int) = x := by
  show BitVec.ofInt 32 (x.toNat : Int) = x
  apply BitVec.eq_of_toNat_eq; simp
/-- a number of 32 bits, closed to the walk -/
def b32 (x : BitVec 32) : Int := (x.toNat : Int)
theorem bits_xor_u32 (x y : BitVec 32) : bits .xor .u32 (b32 x) (b32 y) = b32 (x ^^^ y) := by
  unfold bits b32
  simp only [ofInt_toNat32]
  exact wrap_u32_nat _ (x ^^^ y).isLt
theorem bits_and_u32 (x y : BitVec 32) : bits .and .u32 (b32 x) (b32 y) = b32 (x &&& y) := by
  unfold bits b32
  simp only [ofInt_toNat32]
  exact wrap_u32_nat _ (x &&& y).isLt
theorem bits_or_u32 (x y : BitVec 32) : bits .or .u32 (b32 x) (b32 y) = b32 (x ||| y) := by
  unfold bits b32
  simp only [ofInt_toNat32]
  exact wrap_u32_nat _ (x ||| y).isLt
/-- a byte as a number of 32 bits -/
def w32 (x : UInt8) : BitVec 32 := BitVec.ofNat 32 x.toNat
theorem w32_toNat (x : UInt8) : b32 (w32 x) = x.toNat := by
  have := x.toNat_lt
  unfold w32 b32; rw [BitVec.toNat_ofNat]; omega
theorem bits_xor_u32_u8 (r : BitVec 32) (x : UInt8) : bits .xor .u32 (b32 r) (x.toNat : Int) = b32 (r ^^^ w32 x) := by
  rw [← w32_toNat]; exact bits_xor_u32 _ _
theorem u8_mod32 (x : UInt8) : (x.toNat : Int) % 4294967296 = (x.toNat : Int) := by have := x.toNat_lt; omega
attribute [go_sem] u8_mod32 bits_xor_u32 bits_and_u32 bits_or_u32 bits_xor_u32_u8

theorem bdN (B : Nat) (w : World) (k : Nat) : Below B w (w.drewN k) := ⟨rfl, rfl, rfl, Nat.le_refl _, fun _ _ => rfl⟩
/-- THE SLICE VALUE v READS AS THE BYTES l, all of it below block B. -/
def Bts (w : World) (B : Nat) (v : Value) (l : List UInt8) : Prop :=
  ∃ ao cap, v = .slice ao l.length cap ∧ l.length ≤ cap ∧ l.length ≤ maxLen ∧ (ao = none → cap = 0) ∧
    (l ≠ [] → ∃ b off, ao = some ⟨b, off, none⟩ ∧ b < B ∧ ∀ i, i < l.length → w.cell? ⟨b, off + i, none⟩ = some (.int .u8 ((l.getD i 0).toNat : Int)))

theorem Bts.form {w : World} {B : Nat} {v : Value} {l : List UInt8} (h : Bts w B v l) :
    (l = [] ∧ ∃ ao cap, v = .slice ao 0 cap ∧ (ao = none → cap = 0)) ∨
    (0 < l.length ∧ ∃ b off cap, v = .slice (some ⟨b, off, none⟩) l.length cap ∧ l.length ≤ cap ∧ l.length ≤ 9223372036854775807 ∧ b < B ∧ ∀ i, i < l.length → w.cell? ⟨b, off + i, none⟩ = some (.int .u8 ((l.getD i 0).toNat : Int))) := by
  obtain ⟨ao, cap, rfl, hc, hm, hn, hl⟩ := h
  cases l with
  | nil => exact .inl ⟨rfl, ao, cap, rfl, hn⟩
  | cons x r =>
    obtain ⟨b, off, rfl, hb, hcell⟩ := hl (by simp)
    exact .inr ⟨by simp, b, off, cap, rfl, hc, by simpa [maxLen] using hm, hb, hcell⟩

theorem Bts.len {w : World} {B : Nat} {v : Value} {l : List UInt8} (h : Bts w B v l) : l.length ≤ 9223372036854775807 := by
  obtain ⟨ao, cap, rfl, hc, hm, hn, hl⟩ := h
  simpa [maxLen] using hm

theorem Bts.nil (w : World) (B : Nat) : Bts w B (.slice none 0 0) [] := ⟨none, 0, rfl, by simp, by simp, fun _ => rfl, fun h => absurd rfl h⟩

theorem Bts.below {w w' : World} {B B' : Nat} {v : Value} {l : List UInt8} (h : Bts w B v l) (hb : Below B w w') (hB : B ≤ B') : Bts w' B' v l := by
  obtain ⟨ao, cap, rfl, hc, hm, hn, hl⟩ := h
  refine ⟨ao, cap, rfl, hc, hm, hn, fun hne => ?_⟩
  obtain ⟨b, off, rfl, hbB, hcell⟩ := hl hne
  exact ⟨b, off, rfl, by omega, fun i hi => (hb.cell (p := ⟨b, off + i, none⟩) hbB).trans (hcell i hi)⟩

theorem Bts.mono {w : World} {B B' : Nat} {v : Value} {l : List UInt8} (h : Bts w B v l) (hB : B ≤ B') : Bts w B' v l := h.below (Below.refl _ _) hB

end Go.Proofs.Ytenilbofncfbdaa

namespace Go.Proofs.Ytenilbofncfbdaa

abbrev Prs := List (Nat × Nat)
def endA (L : Prs) (k : Nat) : Nat := (L.getD k (0, 0)).1
def endB (L : Prs) (k : Nat) : Nat := (L.getD k (0, 0)).2
structure FitL (n : Nat) (L : Prs) : Prop where
  lt : ∀ k, k < L.length → endA L k < endB L k ∧ endB L k < n
  sorted : ∀ i j, i < j → j < L.length → endA L i < endA L j ∨ (endA L i = endA L j ∧ endB L i < endB L j)
/-- 1 for yes -/
def ind (b : Bool) : Int := if b then 1 else 0
/-- what the pairs carry out of a side -/
def netF (A B : Nat → Nat) (g : Nat → Int) (S : Nat → Bool) : Nat → Int
  | 0 => 0
  | m + 1 => netF A B g S m + g m * (ind (S (A m)) - ind (S (B m)))
/-- how many pairs leave a side -/
def crossF (A B : Nat → Nat) (S : Nat → Bool) : Nat → Nat
  | 0 => 0
  | m + 1 => crossF A B S m + (if S (A m) = S (B m) then 0 else 1)
theorem net_succ (A B : Nat → Nat) (g : Nat → Int) (S : Nat → Bool) (m : Nat) : netF A B g S (m + 1) = netF A B g S m + g m * (ind (S (A m)) - ind (S (B m))) := rfl
theorem cross_succ (A B : Nat → Nat) (S : Nat → Bool) (m : Nat) : crossF A B S (m + 1) = crossF A B S m + (if S (A m) = S (B m) then 0 else 1) := rfl
theorem net_upd (A B : Nat → Nat) (g g' : Nat → Int) (S : Nat → Bool) (k : Nat) (h : ∀ j, j ≠ k → g' j = g j) : ∀ m, netF A B g' S m = netF A B g S m + (if k < m then (g' k - g k) * (ind (S (A k)) - ind (S (B k))) else 0) := by
  intro m
  induction m with
  | zero => simp [netF]
  | succ m ih =>
    unfold netF
    rw [ih]
    by_cases h1 : k = m
    · subst h1
      rw [if_neg (Nat.lt_irrefl _), if_pos (Nat.lt_succ_self _), Int.sub_mul]
      omega
    · rw [h m (fun e => h1 e.symm)]
      by_cases h2 : k < m
      · rw [if_pos h2, if_pos (by omega)]; omega
      · rw [if_neg h2, if_neg (by omega)]; omega
theorem net_same (A B : Nat → Nat) (g g' : Nat → Int) (S : Nat → Bool) : ∀ m, (∀ j, j < m → g' j = g j) → netF A B g' S m = netF A B g S m := by
  intro m
  induction m with
  | zero => intro _; rfl
  | succ m ih =>
    intro h
    unfold netF
    rw [ih fun j hj => h j (by omega), h m (by omega)]
/-- no side lets more out than pairs leave it -/
theorem net_le (A B : Nat → Nat) (g : Nat → Int) (S : Nat → Bool) : ∀ m, (∀ j, j < m → -1 ≤ g j ∧ g j ≤ 1) → netF A B g S m ≤ crossF A B S m := by
  intro m
  induction m with
  | zero => intro _; exact Int.le_refl _
  | succ m ih =>
    intro h
    have h1 := ih fun j hj => h j (by omega)
    have h2 := h m (by omega)
    rw [net_succ, cross_succ]
    cases ha : S (A m) <;> cases hb : S (B m) <;> simp [ind] <;> omega
theorem cross_le (A B : Nat → Nat) (S : Nat → Bool) : ∀ m, crossF A B S m ≤ m := by
  intro m
  induction m with
  | zero => exact Nat.le_refl _
  | succ m ih => unfold crossF; split <;> omega
/-- a flow of a worth between two nodes: whatever the side -/
structure FlowI (A B : Nat → Nat) (m : Nat) (a b : Nat) (T : Int) (g : Nat → Int) : Prop where
  cap : ∀ j, j < m → -1 ≤ g j ∧ g j ≤ 1
  net : ∀ S : Nat → Bool, netF A B g S m = T * (ind (S a) - ind (S b))
/-- may more go over a pair from a node? -/
def openP (A : Nat → Nat) (g : Nat → Int) (k v : Nat) : Prop := if A k = v then g k < 1 else -1 < g k
/-- one more over a pair from a node -/
def pushP (A : Nat → Nat) (g : Nat → Int) (k v : Nat) : Nat → Int := fun j => if j = k then (if A k = v then g k + 1 else g k - 1) else g j
theorem push_net (A B : Nat → Nat) (g : Nat → Int) (S : Nat → Bool) (m k v u : Nat) (hk : k < m) (he : (A k = v ∧ B k = u) ∨ (A k = u ∧ B k = v)) (hne : A k ≠ B k) : netF A B (pushP A g k v) S m = netF A B g S m + (ind (S v) - ind (S u)) := by
  rw [net_upd A B g (pushP A g k v) S k (fun j hj => by unfold pushP; rw [if_neg hj]) m, if_pos hk]
  unfold pushP
  rw [if_pos rfl]
  rcases he with ⟨h1, h2⟩ | ⟨h1, h2⟩
  · rw [if_pos h1, h1, h2]
    have : g k + 1 - g k = 1 := by omega
    rw [this]; omega
  · rw [if_neg (by omega), h1, h2]
    have : g k - 1 - g k = -1 := by omega
    rw [this]; omega
theorem push_cap (A : Nat → Nat) (g : Nat → Int) (k v : Nat) (h : openP A g k v) (hc : -1 ≤ g k ∧ g k ≤ 1) : -1 ≤ pushP A g k v k ∧ pushP A g k v k ≤ 1 := by
  unfold pushP
  unfold openP at h
  rw [if_pos rfl]
  split at h
  · rename_i e; rw [if_pos e]; omega
  · rename_i e; rw [if_neg e]; omega
/-- a flow is no greater than what any side between lets out -/
theorem flow_le {A B : Nat → Nat} {m a b : Nat} {T : Int} {g : Nat → Int} (h : FlowI A B m a b T g) (S : Nat → Bool) (ha : S a = true) (hb : S b = false) : T ≤ crossF A B S m := by
  have h1 := net_le A B g S m h.cap
  rw [h.net S, ha, hb] at h1
  simpa [ind] using h1
end Go.Proofs.Ytenilbofncfbdaa

namespace Go.Proofs.Ytenilbofncfbdaa

/-- a node's neighbours, rising, with the pairs' places -/
def nbLo (L : Prs) (v : Nat) : List (Nat × Nat) := (L.zipIdx.filter fun x => x.1.2 == v).map fun x => (x.1.1, x.2)
def nbHi (L : Prs) (v : Nat) : List (Nat × Nat) := (L.zipIdx.filter fun x => x.1.1 == v).map fun x => (x.1.2, x.2)
def nbF (L : Prs) (v : Nat) : List (Nat × Nat) := nbLo L v ++ nbHi L v
/-- a pair's place and its two ends -/
def Edge (L : Prs) (k u v : Nat) : Prop := k < L.length ∧ ((endA L k = u ∧ endB L k = v) ∨ (endA L k = v ∧ endB L k = u))
theorem Edge.symm {L : Prs} {k u v : Nat} (h : Edge L k u v) : Edge L k v u := ⟨h.1, h.2.symm.imp id id⟩
theorem get_ends {L : Prs} {k u v : Nat} : L[k]? = some (u, v) ↔ k < L.length ∧ endA L k = u ∧ endB L k = v := by
  constructor
  · intro h
    obtain ⟨h1, h2⟩ := List.getElem?_eq_some_iff.1 h
    unfold endA endB
    rw [List.getD_eq_getElem?_getD, h]
    exact ⟨h1, rfl, rfl⟩
  · rintro ⟨h1, h2, h3⟩
    unfold endA at h2
    unfold endB at h3
    rw [List.getD_eq_getElem?_getD, List.getElem?_eq_getElem h1] at h2 h3
    rw [List.getElem?_eq_getElem h1]
    simp only [Option.getD_some] at h2 h3
    rw [← h2, ← h3]
theorem mem_nb {L : Prs} {v u k : Nat} : (u, k) ∈ nbF L v ↔ Edge L k u v := by
  unfold nbF nbLo nbHi Edge
  simp only [List.mem_append, List.mem_map, List.mem_filter, beq_iff_eq]
  constructor
  · rintro (⟨⟨⟨x1, x2⟩, j⟩, ⟨h1, h2⟩, h3⟩ | ⟨⟨⟨x1, x2⟩, j⟩, ⟨h1, h2⟩, h3⟩)
    · cases h3
      have := List.mem_zipIdx_iff_getElem?.1 h1
      obtain ⟨a, b, c⟩ := get_ends.1 this
      exact ⟨a, .inl ⟨b, c.trans h2⟩⟩
    · cases h3
      have := List.mem_zipIdx_iff_getElem?.1 h1
      obtain ⟨a, b, c⟩ := get_ends.1 this
      exact ⟨a, .inr ⟨b.trans h2, c⟩⟩
  · rintro ⟨h1, ⟨h2, h3⟩ | ⟨h2, h3⟩⟩
    · exact .inl ⟨((u, v), k), ⟨List.mem_zipIdx_iff_getElem?.2 (get_ends.2 ⟨h1, h2, h3⟩), rfl⟩, rfl⟩
    · exact .inr ⟨((v, u), k), ⟨List.mem_zipIdx_iff_getElem?.2 (get_ends.2 ⟨h1, h2, h3⟩), rfl⟩, rfl⟩
theorem edge_lt {n : Nat} {L : Prs} (hf : FitL n L) {k u v : Nat} (h : Edge L k u v) : u < n ∧ v < n ∧ u ≠ v := by
  obtain ⟨h1, h2⟩ := h
  have := hf.lt k h1
  rcases h2 with ⟨rfl, rfl⟩ | ⟨rfl, rfl⟩ <;> omega
def openL (L : Prs) (g : List Int) (k v : Nat) : Bool := if endA L k = v then decide (g.getD k 0 < 1) else decide (-1 < g.getD k 0)
theorem openL_iff {L : Prs} {g : List Int} {k v : Nat} : openL L g k v = true ↔ openP (endA L) (fun j => g.getD j 0) k v := by
  unfold openL openP
  split <;> simp
/-- a node's neighbours looked at, one behind the other -/
def scanB (L : Prs) (g : List Int) (b v : Nat) : List (Nat × Nat) → List Bool → List Int → List Nat → List Bool × List Int × List Nat × Bool
  | [], i, y, w => (i, y, w, false)
  | (u, k) :: r, i, y, w =>
    if i.getD u false || !openL L g k v then scanB L g b v r i y w
    else if u = b then (i.set u true, y.set u (k : Int), w ++ [u], true)
    else scanB L g b v r (i.set u true) (y.set u (k : Int)) (w ++ [u])
def bfsB (L : Prs) (g : List Int) (b : Nat) : Nat → List Bool → List Int → List Nat → List Bool × List Int
  | 0, i, y, _ => (i, y)
  | _ + 1, i, y, [] => (i, y)
  | f + 1, i, y, v :: w =>
    if (scanB L g b v (nbF L v) i y w).2.2.2 then ((scanB L g b v (nbF L v) i y w).1, (scanB L g b v (nbF L v) i y w).2.1)
    else bfsB L g b f (scanB L g b v (nbF L v) i y w).1 (scanB L g b v (nbF L v) i y w).2.1 (scanB L g b v (nbF L v) i y w).2.2.1
def reachB (L : Prs) (g : List Int) (n a b : Nat) : List Bool × List Int := bfsB L g b (n + 1) ((List.replicate n false).set a true) (List.replicate n (-1)) [a]
/-- where a node stands among those met: behind the one that it was come to from -/
def Met (L : Prs) (g : List Int) (a : Nat) (ord : List Nat) (y : List Int) : Prop :=
  ∀ o1 u o2, ord = o1 ++ u :: o2 → u = a ∨ ∃ k v : Nat, y.getD u 0 = (k : Int) ∧ Edge L k u v ∧ openL L g k v = true ∧ v ∈ o1
/-- what holds in the search: ord: the nodes met, in order -/
structure BI (L : Prs) (g : List Int) (n a b : Nat) (ord : List Nat) (i : List Bool) (y : List Int) : Prop where
  il : i.length = n
  yl : y.length = n
  nod : ord.Nodup
  hd : ∃ r, ord = a :: r
  mem : ∀ u, u < n → (i.getD u false = true ↔ u ∈ ord)
  lt : ∀ u ∈ ord, u < n
  met : Met L g a ord y
theorem getD_set_same {α : Type} (l : List α) (i : Nat) (x d : α) (h : i < l.length) : (l.set i x).getD i d = x := by
  rw [List.getD_eq_getElem?_getD, List.getElem?_set_self h]; rfl
theorem getD_set_other {α : Type} (l : List α) (i j : Nat) (x d : α) (h : i ≠ j) : (l.set i x).getD j d = l.getD j d := by
  rw [List.getD_eq_getElem?_getD, List.getElem?_set_ne h, ← List.getD_eq_getElem?_getD]
theorem BI.add {L : Prs} {g : List Int} {n a b : Nat} {ord : List Nat} {i : List Bool} {y : List Int} (hf : FitL n L) (h : BI L g n a b ord i y) {u k v : Nat} (hu : i.getD u false = false) (he : Edge L k u v) (ho : openL L g k v = true) (hv : v ∈ ord) : BI L g n a b (ord ++ [u]) (i.set u true) (y.set u (k : Int)) := by
  obtain ⟨h1, h2, h3, ⟨r, h4⟩, h5, h6, h7⟩ := h
  have hun := (edge_lt hf he).1
  have hno : u ∉ ord := fun e => by have := (h5 u hun).2 e; rw [hu] at this; cases this
  refine ⟨by simpa using h1, by simpa using h2, ?_, ⟨r ++ [u], by rw [h4]; rfl⟩, fun x hx => ?_, fun x hx => ?_, ?_⟩
  · rw [List.nodup_append]
    exact ⟨h3, by simp, fun x hx y hy => by rw [List.mem_singleton] at hy; subst hy; rintro rfl; exact hno hx⟩
  · by_cases e : x = u
    · subst e; rw [getD_set_same _ _ _ _ (by omega)]; simp
    · rw [getD_set_other _ _ _ _ _ (Ne.symm e), h5 x hx]; simp [e]
  · rcases List.mem_append.1 hx with hx | hx
    · exact h6 x hx
    · rw [List.mem_singleton] at hx; subst hx; exact hun
  · intro o1 x o2 hord
    by_cases hx : x = u
    · subst hx
      have hmem : o1 = ord := by
        have hl : o2 = [] := by
          rcases List.eq_nil_or_concat o2 with e | ⟨o3, z, e⟩
          · exact e
          · exfalso
            subst e
            have : ord = o1 ++ x :: o3 := by
              have h9 : ord ++ [x] = (o1 ++ x :: o3) ++ [z] := by rw [hord]; simp
              exact (List.append_inj' h9 rfl).1
            exact hno (by rw [this]; simp)
        subst hl
        exact ((List.append_inj' hord rfl).1).symm
      right
      exact ⟨k, v, getD_set_same _ _ _ _ (by omega), he, ho, by rw [hmem]; exact hv⟩
    · have hx2 : ∃ o3, ord = o1 ++ x :: o3 := by
        rcases List.eq_nil_or_concat o2 with e | ⟨o3, z, e⟩
        · subst e
          have := (List.append_inj' hord rfl).2
          injection this with this
          exact absurd this.symm hx
        · subst e
          have h9 : ord ++ [u] = (o1 ++ x :: o3) ++ [z] := by rw [hord]; simp
          exact ⟨o3, (List.append_inj' h9 rfl).1⟩
      obtain ⟨o3, e3⟩ := hx2
      rcases h7 o1 x o3 e3 with e | ⟨k', v', e1, e2, e3, e4⟩
      · exact .inl e
      · exact .inr ⟨k', v', by rw [getD_set_other _ _ _ _ _ (Ne.symm hx)]; exact e1, e2, e3, e4⟩
/-- a node is done: all that more may go to from it is met -/
def DoneB (L : Prs) (g : List Int) (ord : List Nat) (v : Nat) : Prop := ∀ u k, Edge L k u v → openL L g k v = true → u ∈ ord
theorem scan_ok {L : Prs} {g : List Int} {n a b v : Nat} (hf : FitL n L) : ∀ (l : List (Nat × Nat)) (ord : List Nat) (i : List Bool) (y : List Int) (w : List Nat), (∀ x ∈ l, x ∈ nbF L v) → BI L g n a b ord i y → v ∈ ord →
    ∃ new, BI L g n a b (ord ++ new) (scanB L g b v l i y w).1 (scanB L g b v l i y w).2.1 ∧ (scanB L g b v l i y w).2.2.1 = w ++ new ∧
      ((scanB L g b v l i y w).2.2.2 = true → b ∈ ord ++ new) ∧ ((scanB L g b v l i y w).2.2.2 = false → (∀ u k, (u, k) ∈ l → openL L g k v = true → u ∈ ord ++ new) ∧ (b ∉ ord → b ∉ new)) := by
  intro l
  induction l with
  | nil =>
    intro ord i y w _ h hv
    exact ⟨[], by rw [List.append_nil]; exact h, by simp [scanB], (fun h => by cases h), fun _ => ⟨(fun u k h => by cases h), fun _ h => by cases h⟩⟩
  | cons x r ih =>
    intro ord i y w hl h hv
    obtain ⟨u, k⟩ := x
    have he : Edge L k u v := mem_nb.1 (hl _ List.mem_cons_self)
    have hun := (edge_lt hf he).1
    have hr := fun x hx => hl x (List.mem_cons_of_mem _ hx)
    unfold scanB
    by_cases hc : (i.getD u false || !openL L g k v) = true
    · rw [if_pos hc]
      obtain ⟨new, h1, h2, h3, h4⟩ := ih ord i y w hr h hv
      refine ⟨new, h1, h2, h3, fun e => ⟨fun u' k' hm ho => ?_, (h4 e).2⟩⟩
      rcases List.mem_cons.1 hm with hm | hm
      · cases hm
        rw [ho] at hc
        simp only [Bool.not_true, Bool.or_false] at hc
        exact List.mem_append_left _ ((h.mem u hun).1 hc)
      · exact (h4 e).1 u' k' hm ho
    · rw [if_neg hc]
      have hi : i.getD u false = false := by cases e : i.getD u false with | false => rfl | true => rw [e] at hc; simp at hc
      have ho : openL L g k v = true := by cases e : openL L g k v with | true => rfl | false => rw [e] at hc; simp at hc
      have hadd := h.add hf hi he ho hv
      by_cases hb : u = b
      · rw [if_pos hb]
        exact ⟨[u], hadd, rfl, fun _ => by rw [hb]; simp, (fun h => by cases h)⟩
      · rw [if_neg hb]
        obtain ⟨new, h1, h2, h3, h4⟩ := ih (ord ++ [u]) _ _ (w ++ [u]) hr hadd (List.mem_append_left _ hv)
        rw [List.append_assoc] at h1 h3
        refine ⟨[u] ++ new, h1, by rw [h2, List.append_assoc], h3, fun e => ⟨fun u' k' hm ho' => ?_, fun hno => ?_⟩⟩
        · rcases List.mem_cons.1 hm with hm | hm
          · cases hm; simp
          · have := (h4 e).1 u' k' hm ho'
            rwa [List.append_assoc] at this
        · have := (h4 e).2 (by simp [hno, Ne.symm hb])
          simp [this, Ne.symm hb]

end Go.Proofs.Ytenilbofncfbdaa

namespace Go.Proofs.Ytenilbofncfbdaa

theorem nodup_bound {n : Nat} {l : List Nat} (h : l.Nodup) (hl : ∀ x ∈ l, x < n) : l.length ≤ n := by
  induction n generalizing l with
  | zero =>
    cases l with
    | nil => simp
    | cons a r => have := hl a List.mem_cons_self; omega
  | succ n ih =>
    by_cases hm : n ∈ l
    · have h1 : (l.erase n).Nodup := h.erase n
      have h2 : ∀ x ∈ l.erase n, x < n := fun x hx => by
        have h3 := (h.mem_erase_iff.1 hx)
        have := hl x h3.2
        omega
      have := ih h1 h2
      rw [List.length_erase_of_mem hm] at this
      omega
    · have := ih h (fun x hx => by
        have := hl x hx
        rcases Nat.lt_or_ge x n with h3 | h3
        · exact h3
        · exact absurd (by rw [show n = x by omega]; exact hx) hm)
      omega
/-- the search's end: all met in an order, and where b is not met all is done -/
theorem bfs_ok {L : Prs} {g : List Int} {n a b : Nat} (hf : FitL n L) : ∀ (f : Nat) (done w : List Nat) (i : List Bool) (y : List Int), BI L g n a b (done ++ w) i y → (∀ v ∈ done, DoneB L g (done ++ w) v) → n < f + done.length →
    (b ∈ done ++ w → b = a ∨ True) → ∃ ord, BI L g n a b ord (bfsB L g b f i y w).1 (bfsB L g b f i y w).2 ∧ (b ∈ ord ∨ ∀ v ∈ ord, DoneB L g ord v) := by
  intro f
  induction f with
  | zero =>
    intro done w i y h _ hf0 _
    exfalso
    have h1 := nodup_bound h.nod h.lt
    rw [List.length_append] at h1
    omega
  | succ f ih =>
    intro done w i y h hd hf0 _
    cases w with
    | nil => exact ⟨done, by rw [List.append_nil] at h; exact h, .inr (by rw [List.append_nil] at hd; exact hd)⟩
    | cons v w =>
      obtain ⟨new, h1, h2, h3, h4⟩ := scan_ok (b := b) hf (nbF L v) (done ++ v :: w) i y w (fun x hx => hx) h (by simp)
      unfold bfsB
      by_cases hs : (scanB L g b v (nbF L v) i y w).2.2.2 = true
      · rw [if_pos hs]
        exact ⟨_, h1, .inl (h3 hs)⟩
      · rw [if_neg hs]
        have hs' : (scanB L g b v (nbF L v) i y w).2.2.2 = false := by simpa using hs
        obtain ⟨h5, -⟩ := h4 hs'
        have e : (done ++ v :: w) ++ new = (done ++ [v]) ++ (w ++ new) := by simp
        rw [e] at h1 h5
        rw [h2]
        refine ih (done ++ [v]) (w ++ new) _ _ h1 (fun x hx => ?_) (by simp; omega) (fun _ => .inr trivial)
        rcases List.mem_append.1 hx with hx | hx
        · intro u k he ho
          have := hd x hx u k he ho
          rw [← e]
          exact List.mem_append_left _ this
        · rw [List.mem_singleton] at hx
          subst hx
          intro u k he ho
          exact h5 u k (mem_nb.2 he) ho
theorem reach_ok {L : Prs} {n a b : Nat} (g : List Int) (hf : FitL n L) (ha : a < n) : ∃ ord, BI L g n a b ord (reachB L g n a b).1 (reachB L g n a b).2 ∧ (b ∈ ord ∨ ∀ v ∈ ord, DoneB L g ord v) := by
  refine bfs_ok hf (n + 1) [] [a] _ _ ⟨by simp, by simp, by simp, ⟨[], rfl⟩, fun u hu => ?_, by simpa using ha, ?_⟩ (fun v h => by cases h) (by simp) (fun _ => .inr trivial)
  · by_cases e : u = a
    · subst e; rw [getD_set_same _ _ _ _ (by simpa using ha)]; simp
    · rw [getD_set_other _ _ _ _ _ (Ne.symm e)]
      simp [e, List.getD_eq_getElem?_getD, List.getElem?_replicate, hu]
  · intro o1 u o2 h
    cases o1 with
    | nil => injection h with h1 _; exact .inl h1.symm
    | cons c r => exfalso; injection h with _ h2; have := congrArg List.length h2; simp at this
def otherB (L : Prs) (k v : Nat) : Nat := endA L k + endB L k - v
theorem other_edge {n : Nat} {L : Prs} (hf : FitL n L) {k u v : Nat} (h : Edge L k u v) : otherB L k u = v := by
  obtain ⟨h1, h2⟩ := h
  have := hf.lt k h1
  unfold otherB
  rcases h2 with ⟨rfl, rfl⟩ | ⟨rfl, rfl⟩ <;> omega
def pushL (L : Prs) (g : List Int) (k v : Nat) : List Int := if endA L k = v then g.set k (g.getD k 0 + 1) else g.set k (g.getD k 0 - 1)
/-- the way back from a node, one more over each pair -/
def backB (L : Prs) (y : List Int) (a : Nat) : Nat → Nat → List Int → List Int
  | 0, _, g => g
  | f + 1, v, g => if v = a then g else backB L y a f (otherB L (y.getD v 0).toNat v) (pushL L g (y.getD v 0).toNat (otherB L (y.getD v 0).toNat v))
abbrev gF (g : List Int) : Nat → Int := fun j => g.getD j 0
theorem pushL_get {L : Prs} {g : List Int} {k v : Nat} (hk : k < g.length) : ∀ j, gF (pushL L g k v) j = pushP (endA L) (gF g) k v j := by
  intro j
  unfold pushL pushP gF
  by_cases e : j = k
  · subst e
    rw [if_pos rfl]
    split
    · rw [getD_set_same _ _ _ _ hk]
    · rw [getD_set_same _ _ _ _ hk]
  · rw [if_neg e]
    split
    · rw [getD_set_other _ _ _ _ _ (Ne.symm e)]
    · rw [getD_set_other _ _ _ _ _ (Ne.symm e)]
theorem pushL_len {L : Prs} {g : List Int} {k v : Nat} : (pushL L g k v).length = g.length := by unfold pushL; split <;> simp
/-- the way back: what it carries -/
theorem back_ok {L : Prs} {g0 : List Int} {n a b : Nat} {ord : List Nat} {i : List Bool} {y : List Int} (hf : FitL n L) (h : BI L g0 n a b ord i y) (hg0 : g0.length = L.length) :
    ∀ (p : Nat) (v : Nat) (o2 : List Nat) (o1 : List Nat) (f : Nat) (g : List Int), o1.length = p → ord = o1 ++ v :: o2 → p < f → g.length = L.length →
      (∀ j, j < L.length → -1 ≤ gF g j ∧ gF g j ≤ 1) → (∀ u k, u ∈ o1 ++ [v] → u ≠ a → y.getD u 0 = ((k : Nat) : Int) → gF g k = gF g0 k) →
      (backB L y a f v g).length = L.length ∧ (∀ j, j < L.length → -1 ≤ gF (backB L y a f v g) j ∧ gF (backB L y a f v g) j ≤ 1) ∧
        ∀ S : Nat → Bool, netF (endA L) (endB L) (gF (backB L y a f v g)) S L.length = netF (endA L) (endB L) (gF g) S L.length + (ind (S a) - ind (S v)) := by
  intro p
  induction p using Nat.strongRecOn with
  | _ p ih =>
    intro v o2 o1 f g hp hord hpf hgl hcap hag
    obtain ⟨f, rfl⟩ : ∃ f', f = f' + 1 := ⟨f - 1, by omega⟩
    unfold backB
    by_cases hva : v = a
    · rw [if_pos hva]
      subst hva
      exact ⟨hgl, hcap, fun S => by omega⟩
    · rw [if_neg hva]
      rcases h.met o1 v o2 hord with e | ⟨k, u, hyk, he, ho, hu⟩
      · exact absurd e hva
      · rw [hyk, Int.toNat_natCast, other_edge hf he]
        obtain ⟨q1, q2, hq⟩ := List.append_of_mem hu
        have hk : k < L.length := he.1
        have hgk : gF g k = gF g0 k := hag v k (by simp) hva hyk
        have hopen : openP (endA L) (gF g) k u := by
          have h1 := openL_iff.1 ho
          unfold openP at h1 ⊢
          rw [hgk]
          exact h1
        have hcap2 : ∀ j, j < L.length → -1 ≤ gF (pushL L g k u) j ∧ gF (pushL L g k u) j ≤ 1 := by
          intro j hj
          rw [pushL_get (by omega)]
          by_cases e : j = k
          · subst e; exact push_cap _ _ _ _ hopen (hcap j hj)
          · unfold pushP; rw [if_neg e]; exact hcap j hj
        have hord2 : ord = q1 ++ u :: (q2 ++ v :: o2) := by rw [hord, hq]; simp
        have hnod := h.nod
        have hq1 : q1.length < p := by rw [← hp, hq]; simp
        obtain ⟨r1, r2, r3⟩ := ih q1.length hq1 u (q2 ++ v :: o2) q1 f (pushL L g k u) rfl hord2 (by omega) (by rw [pushL_len]; exact hgl) hcap2 (fun x j hx hxa hyj => by
          rw [pushL_get (by omega)]
          unfold pushP
          have hjk : j ≠ k := by
            rintro rfl
            -- the pair by which x was come to is v's: then x is one of its ends
            have hxo : x ∈ o1 := by rw [hq]; rcases List.mem_append.1 hx with hx | hx <;> simp at hx ⊢ <;> simp [hx]
            obtain ⟨s1, s2, hs⟩ := List.append_of_mem hxo
            have hord3 : ord = s1 ++ x :: (s2 ++ v :: o2) := by rw [hord, hs]; simp
            rcases h.met s1 x (s2 ++ v :: o2) hord3 with e | ⟨k', z, hyk', he', -, hz⟩
            · exact hxa e
            · have hkk : k' = j := by rw [hyj] at hyk'; exact (Int.ofNat.inj hyk').symm
              subst hkk
              have hvx : v ≠ x := by
                rintro rfl
                rw [hord3] at hnod
                have := List.nodup_append.1 hnod
                simp at this
              -- ends: {v, u} = {x, z}; so x = u and z = v; but z comes ahead of x
              have hzv : z = v := by
                obtain ⟨-, c1⟩ := he
                obtain ⟨-, c2⟩ := he'
                rcases c1 with ⟨x1, x2⟩ | ⟨x1, x2⟩ <;> rcases c2 with ⟨y1, y2⟩ | ⟨y1, y2⟩ <;> omega
              rw [hzv] at hz
              rw [hord3] at hnod
              have h9 := List.nodup_append.1 hnod
              exact h9.2.2 v hz v (by simp) rfl
          rw [if_neg hjk]
          exact hag x j (by rw [hq]; rcases List.mem_append.1 hx with hx | hx <;> simp at hx ⊢ <;> simp [hx]) hxa hyj)
        refine ⟨r1, r2, fun S => ?_⟩
        rw [r3 S, net_same (endA L) (endB L) (pushP (endA L) (gF g) k u) (gF (pushL L g k u)) S L.length (fun j _ => pushL_get (by omega) j), push_net (endA L) (endB L) (gF g) S L.length k u v hk (by
          obtain ⟨-, c1⟩ := he
          rcases c1 with ⟨x1, x2⟩ | ⟨x1, x2⟩
          · exact .inr ⟨x1, x2⟩
          · exact .inl ⟨x1, x2⟩) (by have := hf.lt k hk; omega)]
        omega

theorem scan_len {L : Prs} {g : List Int} {b v : Nat} : ∀ (l : List (Nat × Nat)) (i : List Bool) (y : List Int) (w : List Nat), w.length ≤ (scanB L g b v l i y w).2.2.1.length := by
  intro l
  induction l with
  | nil => intro i y w; exact Nat.le_refl _
  | cons x r ih =>
    intro i y w
    obtain ⟨u, k⟩ := x
    unfold scanB
    split
    · exact ih _ _ _
    · split
      · simp
      · refine Nat.le_trans ?_ (ih _ _ _)
        simp
/-- those that wait are few -/
theorem scan_small {L : Prs} {g : List Int} {n a b v : Nat} {done ws : List Nat} {i : List Bool} {y : List Int} (hf : FitL n L) (h : BI L g n a b (done ++ v :: ws) i y) : (scanB L g b v (nbF L v) i y ws).2.2.1.length ≤ n := by
  obtain ⟨new, h1, h2, -, -⟩ := scan_ok (b := b) hf (nbF L v) (done ++ v :: ws) i y ws (fun x hx => hx) h (by simp)
  have := nodup_bound h1.nod h1.lt
  rw [h2]
  simp only [List.length_append, List.length_cons] at this ⊢
  omega
/-- one node looked at: what follows -/
theorem bfs_step {L : Prs} {g : List Int} {n a b v f : Nat} {done ws : List Nat} {i i' : List Bool} {y y' : List Int} {ws' : List Nat} (hf : FitL n L) (h : BI L g n a b (done ++ v :: ws) i y) (hs : scanB L g b v (nbF L v) i y ws = (i', y', ws', false)) :
    bfsB L g b (f + 1) i y (v :: ws) = bfsB L g b f i' y' ws' ∧ BI L g n a b ((done ++ [v]) ++ ws') i' y' := by
  obtain ⟨new, h1, h2, -, -⟩ := scan_ok (b := b) hf (nbF L v) (done ++ v :: ws) i y ws (fun x hx => hx) h (by simp)
  rw [hs] at h1 h2
  refine ⟨?_, ?_⟩
  · show (if (scanB L g b v (nbF L v) i y ws).2.2.2 = true then _ else _) = _
    rw [hs]
    rfl
  · have h2' : ws' = ws ++ new := h2
    rw [h2']
    have e : done ++ [v] ++ (ws ++ new) = done ++ v :: ws ++ new := by simp
    rw [e]
    exact h1
theorem bfs_stop {L : Prs} {g : List Int} {b v f : Nat} {ws : List Nat} {i i' : List Bool} {y y' : List Int} {ws' : List Nat} (hs : scanB L g b v (nbF L v) i y ws = (i', y', ws', true)) :
    bfsB L g b (f + 1) i y (v :: ws) = (i', y') := by
  show (if (scanB L g b v (nbF L v) i y ws).2.2.2 = true then _ else _) = _
  rw [hs]
  rfl

end Go.Proofs.Ytenilbofncfbdaa

namespace Go.Proofs.Ytenilbofncfbdaa

/-- round by round one more, while b is reached -/
def mostR (L : Prs) (n a b : Nat) : Nat → List Int → Nat → List Int × Nat
  | 0, g, t => (g, t)
  | f + 1, g, t => if (reachB L g n a b).1.getD b false then mostR L n a b f (backB L (reachB L g n a b).2 a (n + 1) b g) (t + 1) else (g, t)
def mostF (L : Prs) (n a b : Nat) : List Int × Nat := mostR L n a b (L.length + 1) (List.replicate L.length 0) 0
/-- a greatest flow -/
structure MostOk (L : Prs) (n a b : Nat) (g : List Int) (t : Nat) : Prop where
  len : g.length = L.length
  flow : FlowI (endA L) (endB L) L.length a b (t : Int) (gF g)
  stop : (reachB L g n a b).1.getD b false = false
theorem net_zero (A B : Nat → Nat) (g : Nat → Int) (S : Nat → Bool) : ∀ m, (∀ j, j < m → g j = 0) → netF A B g S m = 0 := by
  intro m
  induction m with
  | zero => intro _; rfl
  | succ m ih => intro h; rw [net_succ, ih fun j hj => h j (by omega), h m (by omega)]; simp
theorem most_step {L : Prs} {n a b : Nat} (hf : FitL n L) (ha : a < n) (hb : b < n) (hab : a ≠ b) {g : List Int} {t : Nat} (hl : g.length = L.length) (hfl : FlowI (endA L) (endB L) L.length a b (t : Int) (gF g)) (hr : (reachB L g n a b).1.getD b false = true) :
    (backB L (reachB L g n a b).2 a (n + 1) b g).length = L.length ∧ FlowI (endA L) (endB L) L.length a b ((t + 1 : Nat) : Int) (gF (backB L (reachB L g n a b).2 a (n + 1) b g)) := by
  obtain ⟨ord, hbi, -⟩ := reach_ok (b := b) g hf ha
  have hbo := (hbi.mem b hb).1 hr
  obtain ⟨o1, o2, ho⟩ := List.append_of_mem hbo
  have hlen := nodup_bound hbi.nod hbi.lt
  obtain ⟨h1, h2, h3⟩ := back_ok hf hbi hl o1.length b o2 o1 (n + 1) g rfl ho (by rw [ho] at hlen; simp at hlen; omega) hl hfl.cap (fun u k _ _ _ => rfl)
  refine ⟨h1, h2, fun S => ?_⟩
  rw [h3 S, hfl.net S]
  have : ((t + 1 : Nat) : Int) * (ind (S a) - ind (S b)) = (t : Int) * (ind (S a) - ind (S b)) + (ind (S a) - ind (S b)) := by
    rw [show ((t + 1 : Nat) : Int) = (t : Int) + 1 by omega, Int.add_mul, Int.one_mul]
  rw [this]
def oneS (a : Nat) : Nat → Bool := fun v => v == a
theorem flow_small {L : Prs} {a b : Nat} {t : Nat} {g : Nat → Int} (hab : a ≠ b) (h : FlowI (endA L) (endB L) L.length a b (t : Int) g) : t ≤ L.length := by
  have h1 := flow_le h (oneS a) (by simp [oneS]) (by simp [oneS, Ne.symm hab])
  have h2 := cross_le (endA L) (endB L) (oneS a) L.length
  omega
theorem mostR_ok {L : Prs} {n a b : Nat} (hf : FitL n L) (ha : a < n) (hb : b < n) (hab : a ≠ b) : ∀ (f : Nat) (g : List Int) (t : Nat), g.length = L.length → FlowI (endA L) (endB L) L.length a b (t : Int) (gF g) → L.length < f + t → MostOk L n a b (mostR L n a b f g t).1 (mostR L n a b f g t).2 := by
  intro f
  induction f with
  | zero => intro g t _ h hlt; have := flow_small hab h; omega
  | succ f ih =>
    intro g t hl h hlt
    unfold mostR
    by_cases hr : (reachB L g n a b).1.getD b false = true
    · rw [if_pos hr]
      obtain ⟨h1, h2⟩ := most_step hf ha hb hab hl h hr
      exact ih _ _ h1 h2 (by omega)
    · rw [if_neg hr]
      exact ⟨hl, h, by simpa using hr⟩
theorem most_ok {L : Prs} {n a b : Nat} (hf : FitL n L) (ha : a < n) (hb : b < n) (hab : a ≠ b) : MostOk L n a b (mostF L n a b).1 (mostF L n a b).2 := by
  refine mostR_ok hf ha hb hab _ _ _ (by simp) ⟨fun j hj => ?_, fun S => ?_⟩ (by omega)
  · simp [gF, List.getD_eq_getElem?_getD, List.getElem?_replicate, hj]
  · rw [net_zero]
    · simp
    · intro j hj; simp [gF, List.getD_eq_getElem?_getD, List.getElem?_replicate, hj]
end Go.Proofs.Ytenilbofncfbdaa

namespace Go.Proofs.Ytenilbofncfbdaa

/-- a way over allowed pairs and nodes -/
inductive Way (L : Prs) (E : Nat → Prop) (N : Nat → Prop) : Nat → Nat → Prop
  | nil {x : Nat} : N x → Way L E N x x
  | step {x y z k : Nat} : Way L E N x y → Edge L k y z → E k → N z → Way L E N x z
theorem Way.fst {L : Prs} {E N : Nat → Prop} {x y : Nat} (h : Way L E N x y) : N x := by
  induction h with
  | nil h => exact h
  | step _ _ _ _ ih => exact ih
theorem Way.lst {L : Prs} {E N : Nat → Prop} {x y : Nat} (h : Way L E N x y) : N y := by
  cases h with
  | nil h => exact h
  | step _ _ _ h => exact h
theorem Way.trans {L : Prs} {E N : Nat → Prop} {x y z : Nat} (h : Way L E N x y) (g : Way L E N y z) : Way L E N x z := by
  induction g with
  | nil _ => exact h
  | step _ h1 h2 h3 ih => exact .step ih h1 h2 h3
theorem Way.one {L : Prs} {E N : Nat → Prop} {x y k : Nat} (hx : N x) (hy : N y) (he : Edge L k x y) (hk : E k) : Way L E N x y := .step (.nil hx) he hk hy
theorem Way.symm {L : Prs} {E N : Nat → Prop} {x y : Nat} (h : Way L E N x y) : Way L E N y x := by
  induction h with
  | nil h => exact .nil h
  | step h1 h2 h3 h4 ih => exact (Way.one h4 h1.lst h2.symm h3).trans ih
theorem Way.mono {L : Prs} {E E' N N' : Nat → Prop} {x y : Nat} (h : Way L E N x y) (hN : ∀ v, N v → N' v) (hE : ∀ k u v, Edge L k u v → N u → N v → E k → E' k) : Way L E' N' x y := by
  induction h with
  | nil h => exact .nil (hN _ h)
  | step h1 h2 h3 h4 ih => exact .step ih h2 (hE _ _ _ h2 h1.lst h4 h3) (hN _ h4)
/-- a set that no allowed pair leaves keeps what begins in it -/
theorem Way.inside {L : Prs} {E N : Nat → Prop} {x y : Nat} (h : Way L E N x y) (U : Nat → Prop) (hx : U x) (hU : ∀ k u v, Edge L k u v → E k → U u → N v → U v) : U y := by
  induction h with
  | nil _ => exact hx
  | step _ h2 h3 h4 ih => exact hU _ _ _ h2 h3 ih h4
def All : Nat → Prop := fun _ => True
/-- without the pair, its ends fall apart -/
def Bridge (L : Prs) (k : Nat) : Prop := ∀ u v, Edge L k u v → ¬ Way L (· ≠ k) All u v
/-- without the node, others fall apart -/
def Joint (L : Prs) (v : Nat) : Prop := ∃ a b, a ≠ v ∧ b ≠ v ∧ Way L All All a b ∧ ¬ Way L All (· ≠ v) a b
theorem bridge_of {L : Prs} {k u v : Nat} (he : Edge L k u v) (h : ¬ Way L (· ≠ k) All u v) : Bridge L k := by
  intro x y hxy hw
  rcases he.2 with ⟨a1, a2⟩ | ⟨a1, a2⟩ <;> rcases hxy.2 with ⟨b1, b2⟩ | ⟨b1, b2⟩
  · rw [← a1, ← a2, b1, b2] at h; exact h hw
  · rw [← a1, ← a2, b1, b2] at h; exact h hw.symm
  · rw [← a1, ← a2, b1, b2] at h; exact h hw.symm
  · rw [← a1, ← a2, b1, b2] at h; exact h hw
theorem no_joint {L : Prs} {v : Nat} (h : ∀ y z j k, Edge L j y v → Edge L k z v → Way L All (· ≠ v) y z) (hloop : ∀ k u, Edge L k u v → u ≠ v) : ¬ Joint L v := by
  rintro ⟨a, b, ha, hb, hw, hno⟩
  have key : ∀ x, Way L All All a x → (x ≠ v → Way L All (· ≠ v) a x) ∧ (x = v → ∃ y k, Edge L k y v ∧ Way L All (· ≠ v) a y) := by
    intro x hx
    induction hx with
    | nil _ => exact ⟨fun e => .nil e, fun e => absurd e ha⟩
    | @step y z k _ he _ _ ih =>
      obtain ⟨i1, i2⟩ := ih
      by_cases hy : y = v
      · obtain ⟨y', k', h1, h2⟩ := i2 hy
        subst hy
        refine ⟨fun hz => h2.trans (h y' z k' k h1 he.symm), fun hz => absurd hz ?_⟩
        exact hloop k z he.symm
      · refine ⟨fun hz => .step (i1 hy) he trivial hz, fun hz => ⟨y, k, by rw [hz] at he; exact he, i1 hy⟩⟩
  exact hno ((key b hw).1 hb)

structure Ds where
  met : List Nat
  low : List Nat
  clock : Nat
  br : List Bool
  jo : List Bool
def enterD (s : Ds) (v : Nat) : Ds := ⟨s.met.set v (s.clock + 1), s.low.set v (s.clock + 1), s.clock + 1, s.br, s.jo⟩
def childD (s : Ds) (v u k : Nat) (by_ : Int) : Ds :=
  ⟨s.met, s.low.set v (min (s.low.getD v 0) (s.low.getD u 0)), s.clock, s.br.set k (decide (s.met.getD v 0 < s.low.getD u 0)),
    if 0 ≤ by_ ∧ s.met.getD v 0 ≤ s.low.getD u 0 then s.jo.set v true else s.jo⟩
def stepD (rec : Nat → Int → Ds → Ds × Nat) (v : Nat) (by_ : Int) (acc : Ds × Nat) (x : Nat × Nat) : Ds × Nat :=
  if (x.2 : Int) = by_ then acc
  else if 0 < acc.1.met.getD x.1 0 then (⟨acc.1.met, acc.1.low.set v (min (acc.1.low.getD v 0) (acc.1.met.getD x.1 0)), acc.1.clock, acc.1.br, acc.1.jo⟩, acc.2)
  else (childD (rec x.1 (x.2 : Int) acc.1).1 v x.1 x.2 by_, acc.2 + 1)
def visitD (L : Prs) : Nat → Nat → Int → Ds → Ds × Nat
  | 0, _, _, s => (s, 0)
  | f + 1, v, by_, s => (nbF L v).foldl (stepD (visitD L f) v by_) (enterD s v, 0)
def vis (s : Ds) (x : Nat) : Prop := 0 < s.met.getD x 0
instance (s : Ds) (x : Nat) : Decidable (vis s x) := inferInstanceAs (Decidable (0 < s.met.getD x 0))
/-- how many nodes are not met -/
def unmet (s : Ds) (n : Nat) : Nat := ((List.range n).filter fun x => decide (¬ vis s x)).length
structure DsWf (n m : Nat) (s : Ds) : Prop where
  ml : s.met.length = n
  ll : s.low.length = n
  bl : s.br.length = m
  jl : s.jo.length = n
  ck : ∀ x, s.met.getD x 0 ≤ s.clock
  jn : ∀ x, ¬ vis s x → s.jo.getD x false = false
/-- what one state keeps of another -/
structure Kept (s s' : Ds) : Prop where
  met : ∀ x, vis s x → s'.met.getD x 0 = s.met.getD x 0
  low : ∀ x, vis s x → s'.low.getD x 0 = s.low.getD x 0
  ck : s.clock ≤ s'.clock
theorem Kept.vis {s s' : Ds} (h : Kept s s') {x : Nat} (hx : vis s x) : vis s' x := by unfold Go.Proofs.Ytenilbofncfbdaa.vis at hx ⊢; rw [h.met x hx]; exact hx

end Go.Proofs.Ytenilbofncfbdaa

namespace Go.Proofs.Ytenilbofncfbdaa

abbrev mt (s : Ds) (x : Nat) : Nat := s.met.getD x 0
abbrev lw (s : Ds) (x : Nat) : Nat := s.low.getD x 0
abbrev brk (s : Ds) (k : Nat) : Bool := s.br.getD k false
abbrev jnt (s : Ds) (x : Nat) : Bool := s.jo.getD x false
/-- newly met -/
def New (s s' : Ds) (x : Nat) : Prop := vis s' x ∧ ¬ vis s x
structure Pre (L : Prs) (n : Nat) (s : Ds) (v : Nat) (by_ : Int) (p : Nat) : Prop where
  wf : DsWf n L.length s
  un : ¬ vis s v
  lt : v < n
  par : 0 ≤ by_ → ∃ k : Nat, (k : Int) = by_ ∧ Edge L k p v ∧ vis s p
  act : 0 ≤ by_ → ∀ k x y, Edge L k x y → vis s x → ¬ vis s y → Way L All (vis s) x p
  root : by_ < 0 → ∀ k x y, Edge L k x y → vis s x → vis s y
/-- what a call leaves -/
structure Post (L : Prs) (n : Nat) (s s' : Ds) (v : Nat) (by_ : Int) (Tr : Nat → Prop) : Prop where
  wf : DsWf n L.length s'
  kept : Kept s s'
  tv : New s s' v
  mv : mt s' v = s.clock + 1
  mgt : ∀ x, New s s' x → s.clock < mt s' x
  tree : ∀ x, New s s' x → Way L Tr (New s s') v x
  trin : ∀ k, Tr k → ∃ x y, Edge L k x y ∧ New s s' x ∧ New s s' y
  cl : ∀ k x y, Edge L k x y → New s s' x → vis s' y
  lo1 : lw s' v ≤ mt s' v
  lo2 : ∀ k x y, Edge L k x y → (k : Int) ≠ by_ → New s s' x → vis s y → lw s' v ≤ mt s y
  lo3 : lw s' v = mt s' v ∨ ∃ k x y, Edge L k x y ∧ (k : Int) ≠ by_ ∧ New s s' x ∧ vis s y ∧ lw s' v = mt s y
  br1 : ∀ k, ¬ Tr k → brk s' k = brk s k
  br2 : ∀ k, Tr k → (brk s' k = true ↔ Bridge L k)
  jo1 : ∀ x, ¬ New s s' x → jnt s' x = jnt s x
  jo2 : ∀ x, New s s' x → x ≠ v → (jnt s' x = true ↔ Joint L x)
  jo3 : 0 ≤ by_ → (jnt s' v = true ↔ Joint L v)
  jo4 : by_ < 0 → jnt s' v = false
/-- within the call -/
structure Mid (L : Prs) (n : Nat) (s : Ds) (v : Nat) (by_ : Int) (p : Nat) (done : List (Nat × Nat)) (s' : Ds) (c : Nat) (Tr : Nat → Prop) : Prop where
  wf : DsWf n L.length s'
  kept : Kept s s'
  tv : New s s' v
  mv : mt s' v = s.clock + 1
  mgt : ∀ x, New s s' x → s.clock < mt s' x
  mx : ∀ x, New s s' x → x ≠ v → s.clock + 1 < mt s' x
  tree : ∀ x, New s s' x → Way L Tr (New s s') v x
  trin : ∀ k, Tr k → ∃ x y, Edge L k x y ∧ New s s' x ∧ New s s' y
  cl : ∀ k x y, Edge L k x y → New s s' x → x ≠ v → vis s' y
  clv : ∀ u k, (u, k) ∈ done → vis s' u
  lo1 : lw s' v ≤ mt s' v
  lo2 : ∀ k x y, Edge L k x y → (k : Int) ≠ by_ → New s s' x → vis s y → (x = v → (y, k) ∈ done) → lw s' v ≤ mt s y
  lo3 : lw s' v = mt s' v ∨ ∃ k x y, Edge L k x y ∧ (k : Int) ≠ by_ ∧ New s s' x ∧ vis s y ∧ lw s' v = mt s y
  br1 : ∀ k, ¬ Tr k → brk s' k = brk s k
  br2 : ∀ k, Tr k → (brk s' k = true ↔ Bridge L k)
  jo1 : ∀ x, ¬ New s s' x → jnt s' x = jnt s x
  jo2 : ∀ x, New s s' x → x ≠ v → (jnt s' x = true ↔ Joint L x)
  j1 : 0 ≤ by_ → jnt s' v = true → ∃ U : Nat → Prop, (∃ u, U u) ∧ (∀ u, U u → New s s' u ∧ u ≠ v) ∧ ∀ k x y, Edge L k x y → U x → y ≠ v → U y
  j2 : 0 ≤ by_ → jnt s' v = false → ∀ x, New s s' x → x ≠ v → Way L All (· ≠ v) x p
  j0 : by_ < 0 → jnt s' v = false ∧ (c = 0 → ∀ x, New s s' x → x = v) ∧ (0 < c → ∃ x, New s s' x ∧ x ≠ v) ∧ (c ≤ 1 → ∀ x y, New s s' x → New s s' y → x ≠ v → y ≠ v → Way L All (· ≠ v) x y) ∧ (1 < c → ∃ x y, New s s' x ∧ New s s' y ∧ x ≠ v ∧ y ≠ v ∧ ¬ Way L All (· ≠ v) x y)
theorem Pre.pv {L : Prs} {n : Nat} {s : Ds} {v : Nat} {by_ : Int} {p : Nat} (h : Pre L n s v by_ p) (hb : 0 ≤ by_) : vis s p ∧ p ≠ v := by
  obtain ⟨k, -, -, h2⟩ := h.par hb
  exact ⟨h2, fun e => h.un (e ▸ h2)⟩
/-- a way within the met nodes runs ahead of all that is newly met -/
theorem Pre.way {L : Prs} {n : Nat} {s : Ds} {v : Nat} {by_ : Int} {p : Nat} (h : Pre L n s v by_ p) {k x y : Nat} (he : Edge L k x y) (hx : vis s x) (hy : ¬ vis s y) : 0 ≤ by_ ∧ Way L All (vis s) x p := by
  rcases Int.lt_or_le by_ 0 with h0 | h0
  · exact absurd (h.root h0 k x y he hx) hy
  · exact ⟨h0, h.act h0 k x y he hx hy⟩
theorem start_mid {L : Prs} {n : Nat} {s : Ds} {v : Nat} {by_ : Int} {p : Nat} (h : Pre L n s v by_ p) : Mid L n s v by_ p [] (enterD s v) 0 (fun _ => False) := by
  have hv : v < s.met.length := by rw [h.wf.ml]; exact h.lt
  have hvl : v < s.low.length := by rw [h.wf.ll]; exact h.lt
  have m1 : mt (enterD s v) v = s.clock + 1 := getD_set_same _ _ _ _ hv
  have m2 : ∀ x, x ≠ v → mt (enterD s v) x = mt s x := fun x hx => getD_set_other _ _ _ _ _ (Ne.symm hx)
  have l1 : lw (enterD s v) v = s.clock + 1 := getD_set_same _ _ _ _ hvl
  have l2 : ∀ x, x ≠ v → lw (enterD s v) x = lw s x := fun x hx => getD_set_other _ _ _ _ _ (Ne.symm hx)
  have nw : ∀ x, New s (enterD s v) x ↔ x = v := by
    intro x
    unfold New vis
    by_cases e : x = v
    · subst e
      have := h.un
      unfold vis at this
      exact ⟨fun _ => rfl, fun _ => ⟨by show 0 < mt (enterD s x) x; rw [m1]; omega, this⟩⟩
    · have := m2 x e
      constructor
      · rintro ⟨h1, h2⟩
        have h1' : 0 < mt (enterD s v) x := h1
        rw [this] at h1'
        exact absurd h1' h2
      · intro e2; exact absurd e2 e
  have hne : ∀ x, vis s x → x ≠ v := fun x hx e => h.un (e ▸ hx)
  have nv : New s (enterD s v) v := (nw v).2 rfl
  refine ⟨⟨by simp [enterD, h.wf.ml], by simp [enterD, h.wf.ll], h.wf.bl, h.wf.jl, fun x => ?_, fun x hx => ?_⟩, ⟨fun x hx => m2 x (hne x hx), fun x hx => l2 x (hne x hx), Nat.le_succ _⟩, nv, m1, fun x hx => ?_, fun x hx hxv => absurd ((nw x).1 hx) hxv, fun x hx => ?_, (fun k h => h.elim), fun k x y he hx hxv => absurd ((nw x).1 hx) hxv, (fun u k h => by cases h), by rw [l1, m1]; exact Nat.le_refl _, fun k x y he hk hx hy hd => absurd (hd ((nw x).1 hx)) (by simp), .inl (l1.trans m1.symm), fun k _ => rfl, (fun k h => h.elim), fun x _ => rfl, fun x hx hxv => absurd ((nw x).1 hx) hxv, fun _ hj => ?_, fun _ _ x hx hxv => absurd ((nw x).1 hx) hxv, fun _ => ⟨h.wf.jn v h.un, fun _ x hx => (nw x).1 hx, (fun h => by omega), fun _ x y hx _ hxv _ => absurd ((nw x).1 hx) hxv, (fun h => by omega)⟩⟩
  · show mt (enterD s v) x ≤ s.clock + 1
    by_cases e : x = v
    · rw [e, m1]; exact Nat.le_refl _
    · rw [m2 x e]; have := h.wf.ck x; unfold mt; omega
  · by_cases e : x = v
    · subst e; exact h.wf.jn x h.un
    · refine h.wf.jn x fun hx2 => hx ?_
      show 0 < mt (enterD s v) x
      rw [m2 x e]
      exact hx2
  · rw [(nw x).1 hx, m1]; omega
  · rw [(nw x).1 hx]; exact .nil nv
  · have hj' : s.jo.getD v false = true := hj
    rw [h.wf.jn v h.un] at hj'
    cases hj'

theorem mid_skip {L : Prs} {n : Nat} {s s' : Ds} {v : Nat} {by_ : Int} {p c : Nat} {Tr : Nat → Prop} {done : List (Nat × Nat)} (hpre : Pre L n s v by_ p) (h : Mid L n s v by_ p done s' c Tr) {u k : Nat} (he : Edge L k u v) (hk : (k : Int) = by_) : Mid L n s v by_ p (done ++ [(u, k)]) s' c Tr := by
  obtain ⟨k', e1, e2, e3⟩ := hpre.par (by omega)
  have hkk : k' = k := by omega
  subst hkk
  have hup : u = p := by
    have a := he.2
    have b := e2.2
    rcases a with ⟨a1, a2⟩ | ⟨a1, a2⟩ <;> rcases b with ⟨b1, b2⟩ | ⟨b1, b2⟩ <;> omega
  subst hup
  refine { h with clv := fun x j hm => ?_, lo2 := fun j x y hj hjb hx hy hd => h.lo2 j x y hj hjb hx hy fun e => ?_ }
  · rcases List.mem_append.1 hm with hm | hm
    · exact h.clv x j hm
    · rw [List.mem_singleton] at hm
      cases hm
      exact h.kept.vis e3
  · rcases List.mem_append.1 (hd e) with hm | hm
    · exact hm
    · rw [List.mem_singleton] at hm
      cases hm
      exact absurd hk hjb
theorem mid_seen {L : Prs} {n : Nat} {s s' : Ds} {v : Nat} {by_ : Int} {p c : Nat} {Tr : Nat → Prop} {done : List (Nat × Nat)} (hpre : Pre L n s v by_ p) (h : Mid L n s v by_ p done s' c Tr) {u k : Nat} (he : Edge L k u v) (hk : (k : Int) ≠ by_) (hu : vis s' u) :
    Mid L n s v by_ p (done ++ [(u, k)]) ⟨s'.met, s'.low.set v (min (lw s' v) (mt s' u)), s'.clock, s'.br, s'.jo⟩ c Tr := by
  have hvl : v < s'.low.length := by rw [h.wf.ll]; exact hpre.lt
  obtain ⟨s3, hs3⟩ : ∃ t, t = (⟨s'.met, s'.low.set v (min (lw s' v) (mt s' u)), s'.clock, s'.br, s'.jo⟩ : Ds) := ⟨_, rfl⟩
  have l1 : lw s3 v = min (lw s' v) (mt s' u) := by rw [hs3]; exact getD_set_same _ _ _ _ hvl
  have l2 : ∀ x, x ≠ v → lw s3 x = lw s' x := fun x hx => by rw [hs3]; exact getD_set_other _ _ _ _ _ (Ne.symm hx)
  have e1 : s3.met = s'.met := by rw [hs3]
  have e2 : s3.br = s'.br := by rw [hs3]
  have e3 : s3.jo = s'.jo := by rw [hs3]
  have e4 : s3.clock = s'.clock := by rw [hs3]
  have e5 : s3.low.length = s'.low.length := by rw [hs3]; simp
  rw [← hs3]
  have hm : ∀ x, mt s3 x = mt s' x := fun x => by unfold mt; rw [e1]
  have hv : ∀ x, vis s3 x ↔ vis s' x := fun x => by unfold vis; rw [e1]
  have hN : New s s3 = New s s' := by funext x; unfold New; rw [hv x]
  have hne : ∀ x, vis s x → x ≠ v := fun x hx e => hpre.un (e ▸ hx)
  have hmv : s.clock < mt s' v := h.mgt v h.tv
  refine ⟨⟨by rw [e1]; exact h.wf.ml, by rw [e5]; exact h.wf.ll, by rw [e2]; exact h.wf.bl, by rw [e3]; exact h.wf.jl, fun x => by rw [e1, e4]; exact h.wf.ck x, fun x hx => by rw [e3]; exact h.wf.jn x fun h2 => hx ((hv x).2 h2)⟩,
    ⟨fun x hx => (hm x).trans (h.kept.met x hx), fun x hx => (l2 x (hne x hx)).trans (h.kept.low x hx), by rw [e4]; exact h.kept.ck⟩, by rw [hN]; exact h.tv, (hm v).trans h.mv, fun x hx => by rw [hm x]; rw [hN] at hx; exact h.mgt x hx, fun x hx hxv => by rw [hm x]; rw [hN] at hx; exact h.mx x hx hxv, fun x hx => by rw [hN] at hx ⊢; exact h.tree x hx, by rw [hN]; exact h.trin, fun j x y hj hx hxv => by rw [hN] at hx; exact (hv y).2 (h.cl j x y hj hx hxv), fun x j hmem => ?_, ?_, fun j x y hj hjb hx hy hd => ?_, ?_, fun j hj => by unfold brk; rw [e2]; exact h.br1 j hj, fun j hj => by unfold brk; rw [e2]; exact h.br2 j hj, fun x hx => by unfold jnt; rw [e3]; rw [hN] at hx; exact h.jo1 x hx, fun x hx hxv => by unfold jnt; rw [e3]; rw [hN] at hx; exact h.jo2 x hx hxv, ?_, ?_, ?_⟩
  · rcases List.mem_append.1 hmem with hmem | hmem
    · exact (hv x).2 (h.clv x j hmem)
    · rw [List.mem_singleton] at hmem
      cases hmem
      exact (hv _).2 hu
  · rw [l1, hm]; have := h.lo1; omega
  · rw [l1]
    rw [hN] at hx
    by_cases hxv : x = v
    · rcases List.mem_append.1 (hd hxv) with hmem | hmem
      · have := h.lo2 j x y hj hjb hx hy fun _ => hmem
        omega
      · rw [List.mem_singleton] at hmem
        cases hmem
        have := h.kept.met u hy
        show min _ _ ≤ mt s u
        unfold mt at this ⊢
        omega
    · have := h.lo2 j x y hj hjb hx hy fun e => absurd e hxv
      omega
  · rw [l1, hm, hN]
    by_cases hlt : mt s' u < lw s' v
    · right
      have hus : vis s u := by
        rcases Classical.em (vis s u) with hus | hus
        · exact hus
        · exfalso
          have h1 := h.lo1
          by_cases huv : u = v
          · subst huv; omega
          · have h2 := h.mx u ⟨hu, hus⟩ huv
            have h3 := h.mv
            omega
      exact ⟨k, v, u, he.symm, hk, h.tv, hus, by rw [Nat.min_eq_right (by omega)]; exact h.kept.met u hus⟩
    · rw [Nat.min_eq_left (by omega)]
      exact h.lo3
  · intro hb hj
    unfold jnt at hj
    rw [e3] at hj
    rw [hN]
    exact h.j1 hb hj
  · intro hb hj
    unfold jnt at hj
    rw [e3] at hj
    rw [hN]
    exact h.j2 hb hj
  · intro hb
    rw [hN]
    unfold jnt
    rw [e3]
    exact h.j0 hb

end Go.Proofs.Ytenilbofncfbdaa

namespace Go.Proofs.Ytenilbofncfbdaa

/-- hidden from omega -/
def Cov (p : Prop) : Prop := p
theorem Cov.out {p : Prop} (h : Cov p) : p := h
theorem edge_ends {L : Prs} {k x y u v : Nat} (h : Edge L k x y) (g : Edge L k u v) : (x = u ∧ y = v) ∨ (x = v ∧ y = u) := by
  have a := h.2
  have b := g.2
  rcases a with ⟨a1, a2⟩ | ⟨a1, a2⟩ <;> rcases b with ⟨b1, b2⟩ | ⟨b1, b2⟩ <;> omega
/-- what a child's call must find -/
theorem child_pre {L : Prs} {n : Nat} {s s' : Ds} {v : Nat} {by_ : Int} {p c : Nat} {Tr : Nat → Prop} {done : List (Nat × Nat)} (hf : FitL n L) (hpre : Pre L n s v by_ p) (h : Mid L n s v by_ p done s' c Tr) {u k : Nat} (he : Edge L k u v) (hu : ¬ vis s' u) : Pre L n s' u (k : Int) v := by
  refine ⟨h.wf, hu, (edge_lt hf he).1, fun _ => ⟨k, rfl, he.symm, h.tv.1⟩, fun _ j x y hj hx hy => ?_, fun hb => by omega⟩
  by_cases hxv : x = v
  · subst hxv; exact .nil hx
  · rcases Classical.em (vis s x) with hxs | hxs
    · have hys : ¬ vis s y := fun e => hy (h.kept.vis e)
      obtain ⟨hb, hw⟩ := hpre.way hj hxs hys
      obtain ⟨k0, -, e2, -⟩ := hpre.par hb
      exact (hw.mono (fun z hz => h.kept.vis hz) (fun _ _ _ _ _ _ _ => trivial)).step e2 trivial h.tv.1
    · exact absurd (h.cl j x y hj ⟨hx, hxs⟩ hxv) hy

set_option maxHeartbeats 1000000 in
theorem mid_child {L : Prs} {n : Nat} {s s' s2 : Ds} {v : Nat} {by_ : Int} {p c : Nat} {Tr Tr2 : Nat → Prop} {done : List (Nat × Nat)} (hf : FitL n L) (hpre : Pre L n s v by_ p) (h : Mid L n s v by_ p done s' c Tr) {u k : Nat} (he : Edge L k u v) (hk : (k : Int) ≠ by_) (hu : ¬ vis s' u) (hp : Post L n s' s2 u (k : Int) Tr2) :
    Mid L n s v by_ p (done ++ [(u, k)]) (childD s2 v u k by_) (c + 1) (fun j => Tr j ∨ Tr2 j ∨ j = k) := by
  have hvl : v < s2.low.length := by rw [hp.wf.ll]; exact hpre.lt
  have hkl : k < s2.br.length := by rw [hp.wf.bl]; exact he.1
  have hvj : v < s2.jo.length := by rw [hp.wf.jl]; exact hpre.lt
  have huv : u ≠ v := (edge_lt hf he).2.2
  obtain ⟨s3, hs3⟩ : ∃ t, t = childD s2 v u k by_ := ⟨_, rfl⟩
  have e1 : s3.met = s2.met := by rw [hs3]; rfl
  have e4 : s3.clock = s2.clock := by rw [hs3]; rfl
  have e5 : s3.low.length = s2.low.length := by rw [hs3]; simp [childD]
  have e6 : s3.br.length = s2.br.length := by rw [hs3]; simp [childD]
  have e7 : s3.jo.length = s2.jo.length := by rw [hs3]; unfold childD; dsimp only; split <;> simp
  have l1 : lw s3 v = min (lw s2 v) (lw s2 u) := by rw [hs3]; exact getD_set_same _ _ _ _ hvl
  have l2 : ∀ x, x ≠ v → lw s3 x = lw s2 x := fun x hx => by rw [hs3]; exact getD_set_other _ _ _ _ _ (Ne.symm hx)
  have b1 : brk s3 k = decide (mt s2 v < lw s2 u) := by rw [hs3]; exact getD_set_same _ _ _ _ hkl
  have b2 : ∀ j, j ≠ k → brk s3 j = brk s2 j := fun j hj => by rw [hs3]; exact getD_set_other _ _ _ _ _ (Ne.symm hj)
  have q1 : (0 ≤ by_ ∧ mt s2 v ≤ lw s2 u) → jnt s3 v = true := fun hc => by rw [hs3]; unfold jnt childD; dsimp only; rw [if_pos hc]; exact getD_set_same _ _ _ _ hvj
  have q2 : ¬ (0 ≤ by_ ∧ mt s2 v ≤ lw s2 u) → jnt s3 v = jnt s2 v := fun hc => by rw [hs3]; unfold jnt childD; dsimp only; rw [if_neg hc]
  have q3 : ∀ x, x ≠ v → jnt s3 x = jnt s2 x := fun x hx => by
    rw [hs3]; unfold jnt childD; dsimp only; split
    · exact getD_set_other _ _ _ _ _ (Ne.symm hx)
    · rfl
  rw [← hs3]
  clear hs3
  have hm : ∀ x, mt s3 x = mt s2 x := fun x => by unfold mt; rw [e1]
  have hv : ∀ x, vis s3 x ↔ vis s2 x := fun x => by unfold vis; rw [e1]
  have hN : ∀ x, New s s3 x ↔ New s s' x ∨ New s' s2 x := by
    intro x
    unfold New
    rw [hv x]
    constructor
    · rintro ⟨h1, h2⟩
      rcases Classical.em (vis s' x) with h3 | h3
      · exact .inl ⟨h3, h2⟩
      · exact .inr ⟨h1, h3⟩
    · rintro (⟨h1, h2⟩ | ⟨h1, h2⟩)
      · exact ⟨hp.kept.vis h1, h2⟩
      · exact ⟨h1, fun e => h2 (h.kept.vis e)⟩
  have hN1 : ∀ x, New s s' x → New s s3 x := fun x hx => (hN x).2 (.inl hx)
  have hN2 : ∀ x, New s' s2 x → New s s3 x := fun x hx => (hN x).2 (.inr hx)
  have hne : ∀ x, vis s x → x ≠ v := fun x hx e => hpre.un (e ▸ hx)
  have hvT : ¬ New s' s2 v := fun e => e.2 h.tv.1
  have hTs : ∀ x, New s' s2 x → ¬ vis s x := fun x hx e => hx.2 (h.kept.vis e)
  have mv2 : mt s2 v = s.clock + 1 := (hp.kept.met v h.tv.1).trans h.mv
  have mvis : ∀ y, vis s y → mt s' y = mt s y ∧ mt s2 y = mt s y ∧ mt s y ≤ s.clock := fun y hy => by
    have a := h.kept.met y hy
    have b := hp.kept.met y (h.kept.vis hy)
    exact ⟨a, b.trans a, hpre.wf.ck y⟩
  have ckv : s.clock + 1 ≤ s'.clock := by have := h.wf.ck v; have := h.mv; unfold mt at this; omega
  -- pairs that leave the child's part
  have leave : ∀ j x y, Edge L j x y → New s' s2 x → ¬ New s' s2 y → vis s' y ∧ (y = v ∨ vis s y) := by
    intro j x y hj hx hy
    have h1 := hp.cl j x y hj hx
    have h2 : vis s' y := Classical.byContradiction fun e => hy ⟨h1, e⟩
    refine ⟨h2, ?_⟩
    by_cases e : y = v
    · exact .inl e
    · right
      exact Classical.byContradiction fun e2 => hx.2 (h.cl j y x hj.symm ⟨h2, e2⟩ e)
  have lowu0 : mt s2 v < lw s2 u ∨ ∃ j x y, Edge L j x y ∧ j ≠ k ∧ New s' s2 x ∧ vis s' y ∧ ¬ New s' s2 y ∧ lw s2 u = mt s' y := by
    rcases hp.lo3 with e | ⟨j, x, y, hj, hjk, hx, hy, e⟩
    · left; rw [e, hp.mv, mv2]; omega
    · right; exact ⟨j, x, y, hj, fun e => hjk (by rw [e]), hx, hy, fun e => e.2 hy, e⟩
  have lowu := (show Cov _ from lowu0)
  clear lowu0
  have hkT : ∀ j, Tr2 j → j ≠ k := by
    rintro j hj rfl
    obtain ⟨x, y, hxy, hx, hy⟩ := hp.trin j hj
    rcases edge_ends hxy he with ⟨a, b⟩ | ⟨a, b⟩
    · rw [b] at hy; exact hvT hy
    · rw [a] at hx; exact hvT hx
  -- within the child's part without the pair, and without v
  have wk : ∀ x, New s' s2 x → Way L (· ≠ k) All u x := fun x hx => (hp.tree x hx).mono (fun _ _ => trivial) (fun j _ _ _ _ _ hj => hkT j hj)
  have wv : ∀ x, New s' s2 x → Way L All (· ≠ v) u x := fun x hx => (hp.tree x hx).mono (fun z hz e => hvT (e ▸ hz)) (fun _ _ _ _ _ _ _ => trivial)
  -- from a node ahead of the call, to v without the pair, to p without v
  have back : ∀ j x y, Edge L j x y → New s' s2 x → vis s y → 0 ≤ by_ ∧ Way L (· ≠ k) All y v ∧ Way L All (· ≠ v) y p := by
    intro j x y hj hx hy
    obtain ⟨hb, hw⟩ := hpre.way hj.symm hy (hTs x hx)
    obtain ⟨k0, f1, f2, f3⟩ := hpre.par hb
    refine ⟨hb, ?_, hw.mono (fun z hz => hne z hz) (fun _ _ _ _ _ _ _ => trivial)⟩
    have h1 : Way L (· ≠ k) All y p := hw.mono (fun _ _ => trivial) (fun j' a b hab ha hb' _ => by
      rintro rfl
      rcases edge_ends hab he with ⟨a1, -⟩ | ⟨-, b1⟩
      · rw [a1] at ha; exact hu (h.kept.vis ha)
      · rw [b1] at hb'; exact hu (h.kept.vis hb'))
    exact h1.step f2 (fun e => hk (by rw [← e]; exact f1)) trivial
  have brid : brk s3 k = true ↔ Bridge L k := by
    rw [b1, decide_eq_true_iff]
    constructor
    · intro hlt
      refine bridge_of he fun hw => ?_
      refine hvT (hw.inside (New s' s2) hp.tv fun j x y hj hjk hx _ => ?_)
      refine Classical.byContradiction fun hy => ?_
      obtain ⟨h1, h2⟩ := leave j x y hj hx hy
      have h3 := hp.lo2 j x y hj (fun e => hjk (by omega)) hx h1
      rcases h2 with rfl | h2
      · have := h.mv; omega
      · have := mvis y h2; omega
    · intro hbr
      rcases lowu.out with hlt | ⟨j, x, y, hj, hjk, hx, hy, hyT, -⟩
      · exact hlt
      · exfalso
        have h1 := (wk x hx).step hj hjk trivial
        rcases (leave j x y hj hx hyT).2 with rfl | h2
        · exact hbr u y he h1
        · exact hbr u v he (h1.trans (back j x y hj hx h2).2.1)
  have jo2' : ∀ x, New s s3 x → x ≠ v → (jnt s3 x = true ↔ Joint L x) := by
    intro x hx hxv
    rw [q3 x hxv]
    rcases (hN x).1 hx with hx | hx
    · rw [hp.jo1 x fun e => e.2 hx.1]
      exact h.jo2 x hx hxv
    · by_cases hxu : x = u
      · subst hxu; exact hp.jo3 (by omega)
      · exact hp.jo2 x hx hxu
  have jv2 : jnt s2 v = jnt s' v := hp.jo1 v hvT
  refine ⟨⟨by rw [e1]; exact hp.wf.ml, by rw [e5]; exact hp.wf.ll, by rw [e6]; exact hp.wf.bl, by rw [e7]; exact hp.wf.jl, fun x => by rw [e1, e4]; exact hp.wf.ck x, fun x hx => ?_⟩,
    ⟨fun x hx => ?_, fun x hx => ?_, by rw [e4]; exact Nat.le_trans h.kept.ck hp.kept.ck⟩, hN1 v h.tv, (hm v).trans mv2, fun x hx => ?_, fun x hx hxv => ?_, fun x hx => ?_, fun j hj => ?_, fun j x y hj hx hxv => ?_, fun x j hmem => ?_, ?_, fun j x y hj hjb hx hy hd => ?_, ?_, fun j hj => ?_, fun j hj => ?_, fun x hx => ?_, jo2', fun hb hj => ?_, fun hb hj => ?_, fun hb => ?_⟩
  · have hx2 : ¬ vis s2 x := fun e => hx ((hv x).2 e)
    have hxv : x ≠ v := fun e => hx2 (e ▸ hp.kept.vis h.tv.1)
    have := q3 x hxv
    unfold jnt at this
    rw [this]
    exact hp.wf.jn x hx2
  · exact (hm x).trans (mvis x hx).2.1
  · have a := h.kept.low x hx
    have b := hp.kept.low x (h.kept.vis hx)
    exact (l2 x (hne x hx)).trans (b.trans a)
  · rw [hm x]
    rcases (hN x).1 hx with hx | hx
    · have := hp.kept.met x hx.1
      have h2 := h.mgt x hx
      unfold mt at *
      omega
    · have := hp.mgt x hx
      omega
  · rw [hm x]
    rcases (hN x).1 hx with hx | hx
    · have := hp.kept.met x hx.1
      have h2 := h.mx x hx hxv
      unfold mt at *
      omega
    · have := hp.mgt x hx
      omega
  · rcases (hN x).1 hx with hx | hx
    · exact (h.tree x hx).mono (fun z hz => hN1 z hz) (fun _ _ _ _ _ _ hj => .inl hj)
    · have h1 : Way L (fun j => Tr j ∨ Tr2 j ∨ j = k) (New s s3) v u := Way.one (hN1 v h.tv) (hN2 u hp.tv) he.symm (.inr (.inr rfl))
      exact h1.trans ((hp.tree x hx).mono (fun z hz => hN2 z hz) (fun _ _ _ _ _ _ hj => .inr (.inl hj)))
  · rcases hj with hj | hj | rfl
    · obtain ⟨x, y, a, b, c'⟩ := h.trin j hj
      exact ⟨x, y, a, hN1 x b, hN1 y c'⟩
    · obtain ⟨x, y, a, b, c'⟩ := hp.trin j hj
      exact ⟨x, y, a, hN2 x b, hN2 y c'⟩
    · exact ⟨u, v, he, hN2 u hp.tv, hN1 v h.tv⟩
  · rw [hv y]
    rcases (hN x).1 hx with hx | hx
    · exact hp.kept.vis (h.cl j x y hj hx hxv)
    · exact hp.cl j x y hj hx
  · rw [hv x]
    rcases List.mem_append.1 hmem with hmem | hmem
    · exact hp.kept.vis (h.clv x j hmem)
    · rw [List.mem_singleton] at hmem
      cases hmem
      exact hp.tv.1
  · rw [l1, hm]
    have := h.lo1
    have a := hp.kept.low v h.tv.1
    have b := hp.kept.met v h.tv.1
    unfold mt lw at *
    omega
  · rw [l1]
    rcases (hN x).1 hx with hx | hx
    · have key : lw s' v ≤ mt s y := by
        by_cases hxv : x = v
        · rcases List.mem_append.1 (hd hxv) with hmem | hmem
          · exact h.lo2 j x y hj hjb hx hy fun _ => hmem
          · rw [List.mem_singleton] at hmem
            cases hmem
            exact absurd (h.kept.vis hy) hu
        · exact h.lo2 j x y hj hjb hx hy fun e => absurd e hxv
      have a := hp.kept.low v h.tv.1
      unfold lw at *
      omega
    · have hjk : (j : Int) ≠ (k : Int) := by
        intro e
        have : j = k := by omega
        subst this
        rcases edge_ends hj he with ⟨-, b⟩ | ⟨a, -⟩
        · exact hne y hy b
        · rw [a] at hx; exact hvT hx
      have := hp.lo2 j x y hj hjk hx (h.kept.vis hy)
      have := (mvis y hy).1
      omega
  · rw [l1, hm]
    have a := hp.kept.low v h.tv.1
    have b := hp.kept.met v h.tv.1
    by_cases hlt : lw s2 u < lw s' v
    · right
      rcases lowu.out with h1 | ⟨j, x, y, hj, hjk, hx, hy, hyT, e⟩
      · have := h.lo1
        unfold mt lw at *
        omega
      · rcases (leave j x y hj hx hyT).2 with rfl | h2
        · exfalso
          have := h.lo1
          unfold mt lw at *
          omega
        · refine ⟨j, x, y, hj, fun ej => ?_, hN2 x hx, h2, ?_⟩
          · obtain ⟨k0, f1, f2, f3⟩ := hpre.par (by omega)
            have : k0 = j := by omega
            subst this
            rcases edge_ends hj f2 with ⟨a', -⟩ | ⟨a', -⟩
            · rw [a'] at hx; exact hTs p hx f3
            · rw [a'] at hx; exact hvT hx
          · have := (mvis y h2).1
            unfold mt lw at *
            omega
    · rcases h.lo3 with e | ⟨j, x, y, hj, hjb, hx, hy, e⟩
      · left
        unfold mt lw at *
        omega
      · right
        exact ⟨j, x, y, hj, hjb, hN1 x hx, hy, by unfold mt lw at *; omega⟩
  · have h1 : ¬ Tr j := fun e => hj (.inl e)
    have h2 : ¬ Tr2 j := fun e => hj (.inr (.inl e))
    have h3 : j ≠ k := fun e => hj (.inr (.inr e))
    rw [b2 j h3, hp.br1 j h2, h.br1 j h1]
  · rcases hj with hj | hj | rfl
    · obtain ⟨x, y, a, b, c'⟩ := h.trin j hj
      have hjk : j ≠ k := by
        rintro rfl
        rcases edge_ends a he with ⟨a1, -⟩ | ⟨-, b1⟩
        · rw [a1] at b; exact hu b.1
        · rw [b1] at c'; exact hu c'.1
      have hj2 : ¬ Tr2 j := by
        intro e
        obtain ⟨x', y', a', b', c''⟩ := hp.trin j e
        rcases edge_ends a' a with ⟨a1, -⟩ | ⟨a1, -⟩
        · rw [a1] at b'; exact b'.2 b.1
        · rw [a1] at b'; exact b'.2 c'.1
      rw [b2 j hjk, hp.br1 j hj2]
      exact h.br2 j hj
    · rw [b2 j (hkT j hj)]
      exact hp.br2 j hj
    · exact brid
  · have h1 : ¬ New s s' x := fun e => hx (hN1 x e)
    have h2 : ¬ New s' s2 x := fun e => hx (hN2 x e)
    have hxv : x ≠ v := fun e => h1 (e ▸ h.tv)
    rw [q3 x hxv, hp.jo1 x h2, h.jo1 x h1]
  · by_cases hc : mt s2 v ≤ lw s2 u
    · refine ⟨New s' s2, ⟨u, hp.tv⟩, fun x hx => ⟨hN2 x hx, fun e => hvT (e ▸ hx)⟩, fun j x y hj hx hyv => ?_⟩
      refine Classical.byContradiction fun hy => ?_
      obtain ⟨h1, h2⟩ := leave j x y hj hx hy
      have h2 := h2.resolve_left hyv
      have hjk : (j : Int) ≠ (k : Int) := by
        intro e
        have : j = k := by omega
        subst this
        rcases edge_ends hj he with ⟨-, b⟩ | ⟨a, -⟩
        · exact hyv b
        · rw [a] at hx; exact hvT hx
      have h3 := hp.lo2 j x y hj hjk hx h1
      have := mvis y h2
      omega
    · rw [q2 (fun e => hc e.2), jv2] at hj
      obtain ⟨U, u1, u2, u3⟩ := h.j1 hb hj
      exact ⟨U, u1, fun x hx => ⟨hN1 x (u2 x hx).1, (u2 x hx).2⟩, u3⟩
  · have hc : ¬ mt s2 v ≤ lw s2 u := fun e => by rw [q1 ⟨hb, e⟩] at hj; cases hj
    rw [q2 (fun e => hc e.2), jv2] at hj
    intro x hx hxv
    rcases (hN x).1 hx with hx | hx
    · exact h.j2 hb hj x hx hxv
    · rcases lowu.out with h1 | ⟨j, x', y, hj', hjk, hx', hy, hyT, e⟩
      · omega
      · have hyv : y ≠ v := by
          rintro rfl
          have := h.mv
          unfold mt lw at *
          omega
        have h2 := (leave j x' y hj' hx' hyT).2.resolve_left hyv
        exact ((wv x hx).symm.trans (wv x' hx')).trans ((Way.one (L := L) (E := All) (N := (· ≠ v)) (show x' ≠ v from fun e => hvT (e ▸ hx')) hyv hj' trivial).trans (back j x' y hj' hx' h2).2.2)
  · obtain ⟨r1, r2, r3, r4, r5⟩ := h.j0 hb
    have lv : ∀ j x y, Edge L j x y → New s' s2 x → y ≠ v → New s' s2 y := by
      intro j x y hj hx hyv
      refine Classical.byContradiction fun hy => ?_
      have h2 := (leave j x y hj hx hy).2.resolve_left hyv
      have := (back j x y hj hx h2).1
      omega
    refine ⟨by rw [q2 (fun e => by omega), jv2]; exact r1, fun e => by omega, fun _ => ⟨u, hN2 u hp.tv, huv⟩, fun hc x y hx hy hxv hyv => ?_, fun hc => ?_⟩
    · have hc0 : c = 0 := by omega
      have key : ∀ z, New s s3 z → z ≠ v → New s' s2 z := fun z hz hzv => by
        rcases (hN z).1 hz with hz | hz
        · exact absurd (r2 hc0 z hz) hzv
        · exact hz
      exact (wv x (key x hx hxv)).symm.trans (wv y (key y hy hyv))
    · obtain ⟨x, hx, hxv⟩ := r3 (by omega)
      refine ⟨x, u, hN1 x hx, hN2 u hp.tv, hxv, huv, fun hw => ?_⟩
      have := hw.symm.inside (New s' s2) hp.tv fun j a b hj _ ha hb' => lv j a b hj ha hb'
      exact this.2 hx.1

end Go.Proofs.Ytenilbofncfbdaa

namespace Go.Proofs.Ytenilbofncfbdaa

theorem mid_post {L : Prs} {n : Nat} {s s' : Ds} {v : Nat} {by_ : Int} {p c : Nat} {Tr : Nat → Prop} (hf : FitL n L) (hpre : Pre L n s v by_ p) (h : Mid L n s v by_ p (nbF L v) s' c Tr) : Post L n s s' v by_ Tr ∧ (by_ < 0 → (1 < c ↔ Joint L v)) := by
  have nbv : ∀ j y, Edge L j y v → vis s' y := fun j y hj => h.clv y j (mem_nb.2 hj)
  have cl : ∀ k x y, Edge L k x y → New s s' x → vis s' y := fun k x y he hx => by
    by_cases hxv : x = v
    · subst hxv; exact nbv k y he.symm
    · exact h.cl k x y he hx hxv
  have loop : ∀ k u, Edge L k u v → u ≠ v := fun k u he => (edge_lt hf he).2.2
  have tw : ∀ x, New s s' x → Way L All All v x := fun x hx => (h.tree x hx).mono (fun _ _ => trivial) (fun _ _ _ _ _ _ _ => trivial)
  refine ⟨⟨h.wf, h.kept, h.tv, h.mv, h.mgt, h.tree, h.trin, cl, h.lo1, fun k x y he hk hx hy => h.lo2 k x y he hk hx hy fun e => ?_, h.lo3, h.br1, h.br2, h.jo1, h.jo2, fun hb => ⟨fun hj => ?_, fun hj => ?_⟩, fun hb => (h.j0 hb).1⟩, fun hb => ⟨fun hc => ?_, fun hj => ?_⟩⟩
  · subst e; exact mem_nb.2 he.symm
  · obtain ⟨U, ⟨u, hu⟩, u2, u3⟩ := h.j1 hb hj
    obtain ⟨hpv, hne⟩ := hpre.pv hb
    obtain ⟨k0, -, f2, -⟩ := hpre.par hb
    refine ⟨u, p, (u2 u hu).2, hne, (tw u (u2 u hu).1).symm.step f2.symm trivial trivial, fun hw => ?_⟩
    have := hw.inside U hu fun k x y he _ hx hy => u3 k x y he hx hy
    exact (u2 p this).1.2 hpv
  · refine Classical.byContradiction fun hno => ?_
    have hj0 : jnt s' v = false := by cases e : jnt s' v with | false => rfl | true => exact absurd e hno
    have key : ∀ y j, Edge L j y v → Way L All (· ≠ v) y p := fun y j he => by
      rcases Classical.em (vis s y) with hy | hy
      · have := (hpre.way he hy hpre.un).2
        exact this.mono (fun z hz e => hpre.un (e ▸ hz)) (fun _ _ _ _ _ _ _ => trivial)
      · exact h.j2 hb hj0 y ⟨nbv j y he, hy⟩ (loop j y he)
    exact no_joint (fun y z j k hy hz => (key y j hy).trans (key z k hz).symm) loop hj
  · obtain ⟨x, y, hx, hy, hxv, hyv, hno⟩ := (h.j0 hb).2.2.2.2 hc
    exact ⟨x, y, hxv, hyv, (tw x hx).symm.trans (tw y hy), hno⟩
  · refine Classical.byContradiction fun hc => ?_
    have key : ∀ y j, Edge L j y v → New s s' y := fun y j he => ⟨nbv j y he, fun hy => hpre.un (hpre.root hb j y v he hy)⟩
    exact no_joint (fun y z j k hy hz => (h.j0 hb).2.2.2.1 (by omega) y z (key y j hy) (key z k hz) (loop j y hy) (loop k z hz)) loop hj
theorem unmet_le {n : Nat} {s s' : Ds} (h : ∀ x, vis s x → vis s' x) : unmet s' n ≤ unmet s n := by
  unfold unmet
  induction n with
  | zero => simp
  | succ n ih =>
    rw [List.range_succ, List.filter_append, List.filter_append, List.length_append, List.length_append]
    have h2 : ([n].filter fun x => decide (¬ vis s' x)).length ≤ ([n].filter fun x => decide (¬ vis s x)).length := by
      simp only [List.filter_cons, List.filter_nil]
      by_cases h3 : vis s n
      · simp [h3, h n h3]
      · by_cases h4 : vis s' n <;> simp [h3, h4]
    omega
theorem unmet_lt {n : Nat} {s s' : Ds} (h : ∀ x, vis s x → vis s' x) {v : Nat} (hv : v < n) (h1 : ¬ vis s v) (h2 : vis s' v) : unmet s' n < unmet s n := by
  induction n with
  | zero => omega
  | succ n ih =>
    have key : ∀ t : Ds, unmet t (n + 1) = unmet t n + (if vis t n then 0 else 1) := fun t => by
      unfold unmet
      rw [List.range_succ, List.filter_append, List.length_append]
      congr 1
      by_cases h3 : vis t n <;> simp [h3]
    rw [key s, key s']
    by_cases e : v = n
    · subst e
      rw [if_pos h2, if_neg h1]
      have := unmet_le (n := v) h
      omega
    · have := ih (by omega)
      by_cases h3 : vis s n
      · rw [if_pos h3, if_pos (h n h3)]; omega
      · rw [if_neg h3]
        split <;> omega
theorem unmet_pos {n : Nat} {s : Ds} {v : Nat} (hv : v < n) (h : ¬ vis s v) : 0 < unmet s n := by
  unfold unmet
  rw [List.length_pos_iff_exists_mem]
  exact ⟨v, List.mem_filter.2 ⟨List.mem_range.2 hv, by simpa using h⟩⟩
/-- A CALL OF THE SEARCH -/
theorem visit_ok {L : Prs} {n : Nat} (hf : FitL n L) : ∀ (f : Nat) (s : Ds) (v : Nat) (by_ : Int) (p : Nat), Pre L n s v by_ p → unmet s n ≤ f → ∃ Tr, Post L n s (visitD L f v by_ s).1 v by_ Tr ∧ (by_ < 0 → (1 < (visitD L f v by_ s).2 ↔ Joint L v)) := by
  intro f
  induction f with
  | zero => intro s v by_ p h hu; have := unmet_pos h.lt h.un; omega
  | succ f ih =>
    intro s v by_ p hpre hu
    have hst := start_mid hpre
    have hlt : unmet (enterD s v) n ≤ f := by
      have := unmet_lt (n := n) (fun x hx => hst.kept.vis hx) hpre.lt hpre.un hst.tv.1
      omega
    have key : ∀ (l : List (Nat × Nat)) (done : List (Nat × Nat)) (s' : Ds) (c : Nat) (Tr : Nat → Prop), done ++ l = nbF L v → Mid L n s v by_ p done s' c Tr → (∀ x, vis (enterD s v) x → vis s' x) → ∃ Tr', Mid L n s v by_ p (nbF L v) (l.foldl (stepD (visitD L f) v by_) (s', c)).1 (l.foldl (stepD (visitD L f) v by_) (s', c)).2 Tr' := by
      intro l
      induction l with
      | nil => intro done s' c Tr e h _; rw [List.append_nil] at e; subst e; exact ⟨Tr, h⟩
      | cons x r ihl =>
        intro done s' c Tr e h hk
        obtain ⟨u, k⟩ := x
        have he : Edge L k u v := mem_nb.1 (by rw [← e]; simp)
        have e2 : (done ++ [(u, k)]) ++ r = nbF L v := by rw [← e]; simp
        rw [List.foldl_cons]
        unfold stepD
        dsimp only
        by_cases hkb : (k : Int) = by_
        · rw [if_pos hkb]
          exact ihl _ _ _ _ e2 (mid_skip hpre h he hkb) hk
        · rw [if_neg hkb]
          by_cases hu' : 0 < s'.met.getD u 0
          · rw [if_pos hu']
            exact ihl _ _ _ _ e2 (mid_seen hpre h he hkb hu') hk
          · rw [if_neg hu']
            have hcp := child_pre hf hpre h he hu'
            obtain ⟨Tr2, hp, -⟩ := ih s' u (k : Int) v hcp (Nat.le_trans (unmet_le hk) hlt)
            exact ihl _ _ _ _ e2 (mid_child hf hpre h he hkb hu' hp) fun x hx => hp.kept.vis (hk x hx)
    obtain ⟨Tr, hm⟩ := key (nbF L v) [] (enterD s v) 0 _ rfl hst (fun _ hx => hx)
    obtain ⟨h1, h2⟩ := mid_post hf hpre hm
    exact ⟨Tr, h1, h2⟩
/-- node by node -/
def rootD (L : Prs) (n : Nat) (s : Ds) (v : Nat) : Ds :=
  if s.met.getD v 0 = 0 then (if 1 < (visitD L (n + 1) v (-1) s).2 then { (visitD L (n + 1) v (-1) s).1 with jo := (visitD L (n + 1) v (-1) s).1.jo.set v true } else (visitD L (n + 1) v (-1) s).1) else s
def searchD (L : Prs) (n : Nat) : Ds := (List.range n).foldl (rootD L n) ⟨List.replicate n 0, List.replicate n 0, 0, List.replicate L.length false, List.replicate n false⟩
structure RootI (L : Prs) (n : Nat) (s : Ds) : Prop where
  wf : DsWf n L.length s
  cl : ∀ k x y, Edge L k x y → vis s x → vis s y
  br : ∀ k x y, Edge L k x y → vis s x → (brk s k = true ↔ Bridge L k)
  bn : ∀ k x y, Edge L k x y → ¬ vis s x → brk s k = false
  jo : ∀ x, vis s x → (jnt s x = true ↔ Joint L x)
theorem root_step {L : Prs} {n : Nat} (hf : FitL n L) {s : Ds} {v : Nat} (hv : v < n) (h : RootI L n s) : RootI L n (rootD L n s v) ∧ (∀ x, vis s x → vis (rootD L n s v) x) ∧ vis (rootD L n s v) v := by
  unfold rootD
  by_cases hm : s.met.getD v 0 = 0
  · rw [if_pos hm]
    have hun : ¬ vis s v := by unfold vis; omega
    have hpre : Pre L n s v (-1) v := ⟨h.wf, hun, hv, fun e => by omega, fun e => by omega, fun _ => h.cl⟩
    obtain ⟨Tr, hp, hr⟩ := visit_ok hf (n + 1) s v (-1) v hpre (by unfold unmet; exact Nat.le_trans (List.length_filter_le _ _) (by simp))
    have hr := hr (by omega)
    generalize visitD L (n + 1) v (-1) s = R at *
    obtain ⟨s', c⟩ := R
    dsimp only at hp hr ⊢
    have hv2 : ∀ x, vis s' x → vis s x ∨ New s s' x := fun x hx => by
      rcases Classical.em (vis s x) with e | e
      · exact .inl e
      · exact .inr ⟨hx, e⟩
    have cl : ∀ k x y, Edge L k x y → vis s' x → vis s' y := fun k x y he hx => by
      rcases hv2 x hx with e | e
      · exact hp.kept.vis (h.cl k x y he e)
      · exact hp.cl k x y he e
    have br : ∀ k x y, Edge L k x y → vis s' x → (brk s' k = true ↔ Bridge L k) := fun k x y he hx => by
      rcases Classical.em (Tr k) with ht | ht
      · exact hp.br2 k ht
      · rw [hp.br1 k ht]
        rcases hv2 x hx with e | e
        · exact h.br k x y he e
        · have hb := h.bn k x y he e.2
          rw [hb]
          refine ⟨(fun e => by cases e), fun hbr => ?_⟩
          have hy : New s s' y := ⟨cl k x y he hx, fun e2 => e.2 (h.cl k y x he.symm e2)⟩
          have w : ∀ z, New s s' z → Way L (· ≠ k) All v z := fun z hz => (hp.tree z hz).mono (fun _ _ => trivial) (fun j _ _ _ _ _ hj e3 => ht (e3 ▸ hj))
          exact absurd ((w x e).symm.trans (w y hy)) (hbr x y he)
    have bn : ∀ k x y, Edge L k x y → ¬ vis s' x → brk s' k = false := fun k x y he hx => by
      have hxs : ¬ vis s x := fun e => hx (hp.kept.vis e)
      have ht : ¬ Tr k := fun e => by
        obtain ⟨a, b, hab, ha, hb⟩ := hp.trin k e
        rcases edge_ends he hab with ⟨e1, -⟩ | ⟨e1, -⟩
        · exact hx (e1 ▸ ha.1)
        · exact hx (e1 ▸ hb.1)
      rw [hp.br1 k ht]
      exact h.bn k x y he hxs
    have jo : ∀ x, vis s' x → x ≠ v → (jnt s' x = true ↔ Joint L x) := fun x hx hxv => by
      rcases hv2 x hx with e | e
      · rw [hp.jo1 x (fun e2 => e2.2 e)]; exact h.jo x e
      · exact hp.jo2 x e hxv
    have hj0 := hp.jo4 (by omega)
    by_cases hc : 1 < c
    · rw [if_pos hc]
      have hvj : v < s'.jo.length := by rw [hp.wf.jl]; exact hv
      refine ⟨⟨⟨hp.wf.ml, hp.wf.ll, hp.wf.bl, by simp [hp.wf.jl], hp.wf.ck, fun x hx => ?_⟩, cl, br, bn, fun x hx => ?_⟩, fun x hx => hp.kept.vis hx, hp.tv.1⟩
      · have hxv : x ≠ v := fun e => hx (e ▸ hp.tv.1)
        show (s'.jo.set v true).getD x false = false
        rw [getD_set_other _ _ _ _ _ (Ne.symm hxv)]
        exact hp.wf.jn x hx
      · show (s'.jo.set v true).getD x false = true ↔ _
        by_cases hxv : x = v
        · subst hxv
          rw [getD_set_same _ _ _ _ hvj]
          exact ⟨fun _ => hr.1 hc, fun _ => rfl⟩
        · rw [getD_set_other _ _ _ _ _ (Ne.symm hxv)]
          exact jo x hx hxv
    · rw [if_neg hc]
      refine ⟨⟨hp.wf, cl, br, bn, fun x hx => ?_⟩, fun x hx => hp.kept.vis hx, hp.tv.1⟩
      by_cases hxv : x = v
      · subst hxv
        rw [hj0]
        exact ⟨(fun e => by cases e), fun e => absurd (hr.2 e) hc⟩
      · exact jo x hx hxv
  · rw [if_neg hm]
    exact ⟨h, fun x hx => hx, by unfold vis; omega⟩
/-- THE SEARCH'S MARKS -/
theorem search_ok {L : Prs} {n : Nat} (hf : FitL n L) : (searchD L n).br.length = L.length ∧ (searchD L n).jo.length = n ∧ (∀ k, k < L.length → (brk (searchD L n) k = true ↔ Bridge L k)) ∧ ∀ x, x < n → (jnt (searchD L n) x = true ↔ Joint L x) := by
  have key : ∀ m, m ≤ n → RootI L n ((List.range m).foldl (rootD L n) ⟨List.replicate n 0, List.replicate n 0, 0, List.replicate L.length false, List.replicate n false⟩) ∧ ∀ x, x < m → vis ((List.range m).foldl (rootD L n) ⟨List.replicate n 0, List.replicate n 0, 0, List.replicate L.length false, List.replicate n false⟩) x := by
    intro m
    induction m with
    | zero =>
      intro _
      have z : ∀ x, (List.replicate n 0).getD x 0 = 0 := fun x => by
        rw [List.getD_eq_getElem?_getD, List.getElem?_replicate]; split <;> rfl
      have zf : ∀ m x, (List.replicate m false).getD x false = false := fun m x => by
        rw [List.getD_eq_getElem?_getD, List.getElem?_replicate]; split <;> rfl
      have nv : ∀ x, ¬ vis ⟨List.replicate n 0, List.replicate n 0, 0, List.replicate L.length false, List.replicate n false⟩ x := fun x hx => by unfold vis at hx; dsimp only at hx; rw [z x] at hx; omega
      exact ⟨⟨⟨by simp, by simp, by simp, by simp, fun x => by show (List.replicate n 0).getD x 0 ≤ 0; rw [z]; exact Nat.le_refl _, fun x _ => zf n x⟩, fun k x y _ hx => absurd hx (nv x), fun k x y _ hx => absurd hx (nv x), fun k x y _ _ => zf _ k, fun x hx => absurd hx (nv x)⟩, fun x hx => by omega⟩
    | succ m ih =>
      intro hm
      obtain ⟨h1, h2⟩ := ih (by omega)
      rw [List.range_succ, List.foldl_append, List.foldl_cons, List.foldl_nil]
      obtain ⟨a, b, c⟩ := root_step hf (show m < n by omega) h1
      exact ⟨a, fun x hx => by
        by_cases e : x = m
        · subst e; exact c
        · exact b x (h2 x (by omega))⟩
  obtain ⟨h1, h2⟩ := key n (Nat.le_refl _)
  refine ⟨h1.wf.bl, h1.wf.jl, fun k hk => ?_, fun x hx => h1.jo x (h2 x hx)⟩
  have := hf.lt k hk
  exact h1.br k (endA L k) (endB L k) ⟨hk, .inl ⟨rfl, rfl⟩⟩ (h2 _ (by omega))

end Go.Proofs.Ytenilbofncfbdaa

namespace Go.Proofs.Ytenilbofncfbdaa
open Go.RowKit

/-- what is said of a world stays true while nothing that is there turns -/
def StaysGrown {α : Type} (J : List α → World → Prop) : Prop := ∀ s W W', J s W → Below W.heap.size W W' → J s W'
/-- .. and while a block from B on turns that holds no cells -/
def StaysPut {α : Type} (B : Nat) (J : List α → World → Prop) : Prop := ∀ s W l (o o' : Obj), J s W → B ≤ l → W.heap[l]? = some o → o.isCells = false → J s (W.putObj l o')

/-- THE CONTRACT OF AN ITERATOR's VALUE. Inv: what it reads; R: what is known of an element when it is handed over; S: all have come; Sp: a part has come, and a round has said 'no more'. -/
def Iterates {α : Type} (F : Fence) (n : Nat) (P : Program) (g : Nat) (lb : Array Value) (encs : α → Array Value) (Inv : World → Prop) (R : List α → α → World → Prop) (S Sp : List α → Prop) : Prop :=
  ∀ (l : Nat) (J Jx : List α → World → Prop) (W : World), StaysGrown J → (∀ s W, J s W → Inv W) →
    (∀ pre x W1, J pre W1 → R pre x W1 → YieldAt F (n - 1) P l (encs x) W1 fun e W' =>
      (e = .returned (.bool true) ∧ J (pre ++ [x]) W') ∨ (e = .returned (.bool false) ∧ Jx (pre ++ [x]) W')) →
    J [] W →
    CallsIn F n P g (#[.func (.yield l) #[] #[]] ++ lb) W fun e W' => (∃ v, e = .returned v) ∧ ((∃ xs, S xs ∧ J xs W') ∨ (∃ pre, Sp pre ∧ Jx pre W'))

variable {F : Fence} {n : Nat} {P : Program}

theorem wpIn_range {α : Type} {g : Operand} {ps : Array Tmp} {assign body : Code} {Q : Exit → Act → World → Prop} {a : Act} {w : World}
    (hro : F.round = none) (h1 : 1 ≤ n) {gf : Nat} {lb : Array Value} (hg : a.eval g = .func (.func gf) #[] lb) (hFg : F.fn gf) (eg : ∀ args w, (callFunc gf args).run P w = .ok (.enter gf args) w)
    {encs : α → Array Value} {Inv : World → Prop} {R : List α → α → World → Prop} {S Sp : List α → Prop} (hit : Iterates F (n - 1) P gf lb encs Inv R S Sp)
    (hps : ∀ x, (encs x).size = ps.size)
    (hRput : ∀ pre x W l (o o' : Obj), R pre x W → W.heap[l]? = some o → o.isCells = false → R pre x (W.putObj l o'))
    (I : List α → World → Prop) (Ix : Code → List α → World → Prop) (hI : StaysGrown I) (hIp : StaysPut w.heap.size I) (hIxp : ∀ c, StaysPut w.heap.size (Ix c)) (hInv : ∀ s W, I s W → Inv W) (h0 : I [] w) (a₁ : α → Act)
    (hassign : ∀ (l : Nat) (x : α) (W : World) (K : Act → World → Prop), K (a₁ x) W →
      assign.wpIn (F.inRound l) (n - 1 - 1) P (Exit.then K (fun _ _ _ => False)) { tmps := (ps.zip (encs x)).foldl (fun t (p, v) => t.setIfInBounds p v) a.tmps, defers := [] } W)
    (hbody : ∀ (l : Nat) (pre : List α) (x : α) (W : World), I pre W → R pre x W → body.wpIn (F.inRound l) (n - 1 - 1) P (ownPost I Ix (pre ++ [x]) W) (a₁ x) W)
    (hdone : ∀ (D : Nat) (xs : List α) (W : World), S xs → I xs W → W.heap[D]? = some (.deferred (some [])) → w.heap.size ≤ D → Q .normal { a with defers := { target := .collected D, args := #[] } :: a.defers } W)
    (hstop : ∀ (D : Nat) (c : Code) (pre : List α) (W : World), Sp pre → Ix c pre W → W.heap[D]? = some (.deferred (some [])) → w.heap.size ≤ D → c.wpIn F n P Q { a with defers := { target := .collected D, args := #[] } :: a.defers } W) :
    (Code.rangeFunc g ps assign body).wpIn F n P Q a w := by
  refine wpIn_rangeFunc fun fn hfn => ?_
  rw [hro]
  have hlen : w.heap.size < (w.alloc (.deferred (some []))).heap.size := by simp
  generalize hr0 : (fun (st : LoopState) (pe : Option Code) => ({ state := st, pending := pe, fn, tmps := a.tmps, params := ps, assign, body, defers := w.heap.size } : Loop)) = mk
  have mkps : ∀ st pe, (mk st pe).params = ps := fun st pe => by rw [← hr0]
  have mkEnd : ∀ (W : World) (l : Nat) (st : LoopState) (pe : Option Code), st ≠ .busy → W.heap[l]? = some (.loop (mk st pe)) → (Instr.endLoop l).run P W = .ok pe (W.putObj l (.loop (mk .exhausted pe))) :=
    fun W l st pe hst hl => by subst hr0; exact run_endLoop hl hst
  have mkBegin : ∀ (W : World) (l : Nat) (pe : Option Code), W.heap[l]? = some (.loop (mk .ready pe)) → (Instr.beginRound l).run P W = .ok () (W.putObj l (.loop (mk .busy pe))) :=
    fun W l pe hl => by subst hr0; exact run_beginRound hl rfl
  have mkRound : ∀ (W : World) (l : Nat) (pe jump : Option Code), W.heap[l]? = some (.loop (mk .busy pe)) → (Instr.endRound l jump).run P W = .ok (.bool jump.isNone) (W.putObj l (.loop (mk (if jump.isNone then .ready else .done) jump))) :=
    fun W l pe jump hl => by subst hr0; exact run_endRound jump hl
  generalize hw1 : (w.alloc (.deferred (some []))).alloc (.loop (mk .ready none)) = W1
  have below1 : Below w.heap.size w W1 := by
    rw [← hw1]; exact ((Below.refl _ w).alloc (Nat.le_refl _) _).alloc (by simp) _
  have rec1 : W1.heap[w.heap.size + 1]? = some (.loop (mk .ready none)) := by
    rw [← hw1]; have := World.alloc_heap_new (w.alloc (.deferred (some []))) (.loop (mk .ready none)); rwa [World.size_alloc] at this
  have def1 : W1.heap[w.heap.size]? = some (.deferred (some [])) := by
    rw [← hw1]; exact (Below.heap_alloc _ _ _ hlen).trans (World.alloc_heap_new w _)
  have keep2 : ∀ {A B : World} {k : Nat} {o : Obj}, Below A.heap.size A B → A.heap[k]? = some o → B.heap[k]? = some o := fun hb hk => (hb.block _ (Array.getElem?_eq_some_iff.1 hk).1).trans hk
  refine ⟨w.heap.size + 1, [{ target := .collected w.heap.size, args := #[] }], W1, { target := .fn (.func gf) lb, args := #[.func (.yield (w.heap.size + 1)) #[] #[]] }, W1, gf,
    #[.func (.yield (w.heap.size + 1)) #[] #[]] ++ lb, W1, ?_, ?_, ?_, ?_, fun _ => h1, ?_⟩
  · rw [← hw1, ← hr0]; exact run_enterLoop_outer _ _ _ _ _
  · simp only [resolve, hg]
    simp [go_sem]
  · intro f' hf'
    simp [Target.leads] at hf'
    subst hf'
    exact hFg
  · simp [invoke, go_sem, eg]
  refine (hit (w.heap.size + 1)
    (fun pre W => I pre W ∧ W.heap[w.heap.size + 1]? = some (.loop (mk .ready none)) ∧ W.heap[w.heap.size]? = some (.deferred (some [])))
    (fun pre W => ∃ c, Ix c pre W ∧ W.heap[w.heap.size + 1]? = some (.loop (mk .done (some c))) ∧ W.heap[w.heap.size]? = some (.deferred (some [])))
    W1 (fun s A B h hb => ⟨hI s A B h.1 hb, keep2 hb h.2.1, keep2 hb h.2.2⟩) (fun s W h => hInv s W h.1) ?round ⟨hI [] w W1 h0 below1, rec1, def1⟩).mono ?after
  case after =>
    rintro e W2 ⟨⟨v, rfl⟩, (⟨xs, hS, hi, hl, hk⟩ | ⟨pre, hSp, c, hi, hl, hk⟩)⟩
    · have he := mkEnd _ _ _ _ (by simp) hl
      exact ⟨none, _, he, hdone _ xs _ hS (hIp _ _ _ _ _ hi (by omega) hl rfl) ((World.putObj_heap_other (by omega)).trans hk) (Nat.le_refl _)⟩
    · have he := mkEnd _ _ _ _ (by simp) hl
      exact ⟨some c, _, he, hstop _ c pre _ hSp (hIxp c _ _ _ _ _ hi (by omega) hl rfl) ((World.putObj_heap_other (by omega)).trans hk) (Nat.le_refl _)⟩
  case round =>
    rintro pre x W ⟨hi, hl, hk⟩ hR
    have hlt : w.heap.size + 1 < W.heap.size := (Array.getElem?_eq_some_iff.1 hl).1
    have hy := run_yield (P := P) (args := encs x) hl (by rw [mkps]; exact hps x)
    have hyy : (Instr.yield (w.heap.size + 1) (encs x)).run P W = .ok (.round (w.heap.size + 1) fn ((ps.zip (encs x)).foldl (fun t (p, v) => t.setIfInBounds p v) a.tmps) assign body) W := by
      rw [hy, ← hr0]
    refine ⟨fn, _, assign, body, hyy, roundIn_of_wpIn hfn (hassign _ x W _ ⟨_, mkBegin _ _ _ hl, ?_⟩)⟩
    generalize hwb : W.putObj (w.heap.size + 1) (.loop (mk .busy none)) = Wb
    have hlb : Wb.heap[w.heap.size + 1]? = some (.loop (mk .busy none)) := by rw [← hwb]; exact World.putObj_heap_same hlt
    have hkb : Wb.heap[w.heap.size]? = some (.deferred (some [])) := by rw [← hwb]; exact (World.putObj_heap_other (by omega)).trans hk
    have hib : I pre Wb := by rw [← hwb]; exact hIp _ _ _ _ _ hi (by omega) hl rfl
    have hRb : R pre x Wb := by rw [← hwb]; exact hRput _ _ _ _ _ _ hR hl rfl
    refine wpIn_mono (hbody _ pre x Wb hib hRb) ?_
    have fin : ∀ (jump : Option Code) (W3 : World), KeepsOthers Wb W3 → ∃ W4, (Instr.endRound (w.heap.size + 1) jump).run P W3 = .ok (.bool jump.isNone) W4 ∧ W4 = W3.putObj (w.heap.size + 1) (.loop (mk (if jump.isNone then .ready else .done) jump)) ∧
        W3.heap[w.heap.size + 1]? = some (.loop (mk .busy none)) ∧
        W4.heap[w.heap.size + 1]? = some (.loop (mk (if jump.isNone then .ready else .done) jump)) ∧ W4.heap[w.heap.size]? = some (.deferred (some [])) := by
      intro jump W3 hk3
      have hl3 := hk3.same _ _ hlb rfl
      have he := mkRound _ _ _ jump hl3
      exact ⟨_, he, rfl, hl3, World.putObj_heap_same (Array.getElem?_eq_some_iff.1 hl3).1, (World.putObj_heap_other (by omega)).trans (hk3.same _ _ hkb rfl)⟩
    rintro e a3 W3 hp
    cases e with
    | normal =>
      obtain ⟨hk3, hi3⟩ := hp
      obtain ⟨W4, hr, h4, hl3, hl4, hk4⟩ := fin none W3 hk3
      exact ⟨_, _, hr, .inl ⟨rfl, by rw [h4]; exact hIp _ _ _ _ _ hi3 (by omega) hl3 rfl, hl4, hk4⟩⟩
    | ret =>
      obtain ⟨hk3, hi3⟩ := hp
      obtain ⟨W4, hr, h4, hl3, hl4, hk4⟩ := fin (some .ret) W3 hk3
      exact ⟨_, _, hr, .inr ⟨rfl, .ret, by rw [h4]; exact hIxp _ _ _ _ _ _ hi3 (by omega) hl3 rfl, hl4, hk4⟩⟩
    | exit id =>
      obtain ⟨hk3, hi3⟩ := hp
      obtain ⟨W4, hr, h4, hl3, hl4, hk4⟩ := fin (some (.exit id)) W3 hk3
      exact ⟨_, _, hr, .inr ⟨rfl, .exit id, by rw [h4]; exact hIxp _ _ _ _ _ _ hi3 (by omega) hl3 rfl, hl4, hk4⟩⟩
    | goto t =>
      obtain ⟨hk3, hi3⟩ := hp
      obtain ⟨W4, hr, h4, hl3, hl4, hk4⟩ := fin (some (.goto t)) W3 hk3
      exact ⟨_, _, hr, .inr ⟨rfl, .goto t, by rw [h4]; exact hIxp _ _ _ _ _ _ hi3 (by omega) hl3 rfl, hl4, hk4⟩⟩
    | panic ch => exact hp.elim
    | outgrown => exact hp.elim

theorem getD_lt {listed : Array Bool} {i : Nat} (h : listed.getD i true = false) : ∃ hlt : i < listed.toList.length, listed.toList[i] = false := by
  by_cases hlt : i < listed.size
  · refine ⟨by simpa using hlt, ?_⟩
    simpa [Array.getD, hlt] using h
  · simp [Array.getD, hlt] at h
theorem count_set_one {l : List Bool} {i : Nat} (hlt : i < l.length) (hf : l[i] = false) : (l.set i true).count false + 1 = l.count false := by
  rw [List.count_set hlt, hf]
  have : 0 < l.count false := List.count_pos_iff.2 (by rw [← hf]; exact List.getElem_mem hlt)
  simp
  omega
/-- A REGION THAT DRAWS ITS ORDER, BY AN INVARIANT: what holds when the operations marked in 'listed' have run, whatever their order was. -/
theorem wpAnyIn_inv {ops : Array Oper} {Q : Exit → Act → World → Prop} (Inv : Array Bool → Act → World → Prop)
    (hstep : ∀ (listed : Array Bool) (i : Nat) (a : Act) (w : World), Inv listed a w → i ∈ Region.ready .any ops listed → wpOpIn F n P ops Q i (fun a' w' => Inv (listed.setIfInBounds i true) a' w') a w)
    (hend : ∀ (listed : Array Bool) (a : Act) (w : World), Inv listed a w → Region.ready .any ops listed = [] → Q .normal a w) :
    ∀ (fuel : Nat) (listed : Array Bool) (a : Act) (w : World), listed.toList.count false ≤ fuel → Inv listed a w → wpAnyIn F n P .any ops Q fuel listed a w := by
  intro fuel
  induction fuel with
  | zero =>
    intro listed a w hc hi
    have hr : Region.ready .any ops listed = [] := by
      cases h : Region.ready .any ops listed with
      | nil => rfl
      | cons i r =>
        have hm : i ∈ Region.ready .any ops listed := by rw [h]; simp
        obtain ⟨hlt, hf⟩ := getD_lt (mem_ready.1 hm).1
        have := count_set_one hlt hf
        omega
    exact ⟨hr, hend listed a w hi hr⟩
  | succ fuel ih =>
    intro listed a w hc hi
    refine ⟨fun hr => hend listed a w hi hr, fun i hm => ?_⟩
    refine wpOpIn_mono (fun a' w' h' => ih _ a' w' ?_ h') (hstep listed i a w hi hm)
    obtain ⟨hlt, hf⟩ := getD_lt (mem_ready.1 hm).1
    have := count_set_one hlt hf
    simp only [Array.toList_setIfInBounds]
    omega
/-- what has run has run behind what it waits for -/
def Ordered (ops : Array Oper) (listed : Array Bool) : Prop := listed.size = ops.size ∧ ∀ i o, ops[i]? = some o → listed.getD i false = true → ∀ e ∈ o.after, Region.binds .any e = true → listed.getD e.on false = true
theorem getD_set_true' {listed : Array Bool} {i j : Nat} (h : (listed.setIfInBounds i true).getD j false = true) : j = i ∨ listed.getD j false = true := by
  by_cases hij : j = i
  · exact .inl hij
  · exact .inr (by rw [getD_set_ne false (Ne.symm hij)] at h; exact h)
/-- every operation waits for earlier ones alone: asked of the region's own text -/
def lineUp (ops : Array Oper) : Bool := (List.range ops.size).all fun i => (ops.getD i default).after.all fun e => !Region.binds .any e || decide (e.on < i)
theorem all_listed {ops : Array Oper} {listed : Array Bool} (hl : lineUp ops = true) (hsz : listed.size = ops.size) (hr : Region.ready .any ops listed = []) : ∀ i, i < ops.size → listed.getD i false = true := by
  intro i
  induction i using Nat.strongRecOn with
  | _ i ih =>
    intro hi
    cases hf : listed.getD i false with
    | true => rfl
    | false =>
      exfalso
      have hf' : listed.getD i true = false := by
        have : i < listed.size := by omega
        simp [Array.getD, this] at hf ⊢
        exact hf
      have ho : ops[i]? = some ops[i] := by simp [hi]
      have hm : i ∈ Region.ready .any ops listed := mem_ready.2 ⟨hf', ops[i], ho, fun e he hb => by
        have h1 := List.all_eq_true.1 hl i (List.mem_range.2 hi)
        have h2 : (ops.getD i default) = ops[i] := by simp [Array.getD, hi]
        rw [h2] at h1
        have h3 := (Array.all_eq_true_iff_forall_mem.1 h1) e he
        rw [hb] at h3
        have h4 : e.on < i := by simpa using h3
        exact ih e.on h4 (by omega)⟩
      rw [hr] at hm
      cases hm
theorem wpIn_region_inv {ops : Array Oper} {Q : Exit → Act → World → Prop} {id : Nat} {a : Act} {w : World} (hm : P.follows .mixedOrders = true) (hline : lineUp ops = true) (Inv : (Nat → Bool) → Act → World → Prop)
    (h0 : Inv (fun _ => false) a w.drew)
    (hstep : ∀ (d d' : Nat → Bool) (i : Nat) (o : Oper) (a : Act) (w : World), (∀ j u, ops[j]? = some u → d j = true → ∀ e ∈ u.after, Region.binds .any e = true → d e.on = true) → Inv d a w →
      ops[i]? = some o → d i = false → d' i = true → (∀ j, j ≠ i → d' j = d j) → (∀ e ∈ o.after, Region.binds .any e = true → d e.on = true) → wpOpIn F n P ops Q i (Inv d') a w)
    (hend : ∀ (d : Nat → Bool) (a : Act) (w : World), Inv d a w → (∀ i, i < ops.size → d i = true) → Q .normal a w) : (Code.region id ops true).wpIn F n P Q a w := by
  refine wpIn_region_any hm (wpAnyIn_inv (fun listed a w => Ordered ops listed ∧ Inv (fun j => listed.getD j false) a w) ?_ ?_ _ _ _ _ (by simp) ⟨⟨by simp, fun i o _ h => ?_⟩, ?_⟩)
  · rintro listed i a w ⟨hO, hI⟩ hr
    obtain ⟨hf, o, ho, hpre⟩ := mem_ready.1 hr
    obtain ⟨hlt, hfl⟩ := getD_lt hf
    have hsz : i < listed.size := by simpa using hlt
    have hdi : (listed.setIfInBounds i true).getD i false = true := by simp [Array.getD, hsz]
    have hdf : listed.getD i false = false := by simp [Array.getD, hsz]; simpa using hfl
    have hdn : ∀ j, j ≠ i → (listed.setIfInBounds i true).getD j false = listed.getD j false := fun _ h => getD_set_ne false (Ne.symm h)
    refine wpOpIn_mono (fun a' w' h' => ⟨⟨by simpa using hO.1, fun j u hu hj e he hb => ?_⟩, h'⟩) (hstep _ (fun j => (listed.setIfInBounds i true).getD j false) i o a w hO.2 hI ho hdf hdi hdn hpre)
    rcases getD_set_true' hj with rfl | hj'
    · rw [ho] at hu
      cases hu
      exact getD_set_true (hpre e he hb)
    · exact getD_set_true (hO.2 j u hu hj' e he hb)
  · rintro listed a w ⟨hO, hI⟩ hr
    exact hend _ _ _ hI (all_listed hline hO.1 hr)
  · exfalso; revert h; simp [Array.getD]
  · have : (fun j => (Array.replicate ops.size false).getD j false) = fun _ => false := by
      funext j; simp [Array.getD]
    rw [this]
    exact h0

theorem wide_room (n : Nat) : Fence.wide.depth.isSome = true → 1 ≤ n := fun h => by cases h
/-- a scope that is gone through without a goto, at the wide fence -/
theorem wpIn_scope_wide {c : Code} {Q : Exit → Act → World → Prop} {a : Act} {w : World} (h : c.wpIn Fence.wide n P (Exit.noGoto Q) a w) : (Code.scope c).wpIn Fence.wide n P Q a w :=
  wpIn_wide.2 (wp_scope_straight (wpIn_wide.1 h))

end Go.Proofs.Ytenilbofncfbdaa

namespace Go.Proofs.Ytenilbofncfbdaa
open Go.RowKit

variable {F : Fence} {n : Nat} {P : Program}

/-- as wpIn_range; what takes an element in may make blocks and store (Ax: what it leaves) -/
theorem wpIn_range_as {α : Type} {g : Operand} {ps : Array Tmp} {assign body : Code} {Q : Exit → Act → World → Prop} {a : Act} {w : World}
    (hro : F.round = none) (h1 : 1 ≤ n) {gf : Nat} {lb : Array Value} (hg : a.eval g = .func (.func gf) #[] lb) (hFg : F.fn gf) (eg : ∀ args w, (callFunc gf args).run P w = .ok (.enter gf args) w)
    {encs : α → Array Value} {Inv : World → Prop} {R : List α → α → World → Prop} {S Sp : List α → Prop} (hit : Iterates F (n - 1) P gf lb encs Inv R S Sp)
    (hps : ∀ x, (encs x).size = ps.size)
    (hRput : ∀ pre x W l (o o' : Obj), R pre x W → W.heap[l]? = some o → o.isCells = false → R pre x (W.putObj l o'))
    (I : List α → World → Prop) (Ix : Code → List α → World → Prop) (hI : StaysGrown I) (hIp : StaysPut w.heap.size I) (hIxp : ∀ c, StaysPut w.heap.size (Ix c)) (hInv : ∀ s W, I s W → Inv W) (h0 : I [] w) {β₁ β₂ β₃ β₄ β₅ β₆ : Type} (A : β₁ → β₂ → β₃ → β₄ → β₅ → β₆ → Act) (Ax : α → β₁ → β₂ → β₃ → β₄ → β₅ → β₆ → World → Prop) (hAxp : ∀ x b₁ b₂ b₃ b₄ b₅ b₆ W l (o o' : Obj), Ax x b₁ b₂ b₃ b₄ b₅ b₆ W → w.heap.size ≤ l → W.heap[l]? = some o → o.isCells = false → Ax x b₁ b₂ b₃ b₄ b₅ b₆ (W.putObj l o'))
    (hassign : ∀ (l : Nat) (pre : List α) (x : α) (W : World) (K : Act → World → Prop), I pre W → R pre x W → (∀ b₁ b₂ b₃ b₄ b₅ b₆ W', KeepsOthers W W' → I pre W' → R pre x W' → Ax x b₁ b₂ b₃ b₄ b₅ b₆ W' → K (A b₁ b₂ b₃ b₄ b₅ b₆) W') →
      assign.wpIn (F.inRound l) (n - 1 - 1) P (Exit.then K (fun _ _ _ => False)) { tmps := (ps.zip (encs x)).foldl (fun t (p, v) => t.setIfInBounds p v) a.tmps, defers := [] } W)
    (hbody : ∀ (l : Nat) (pre : List α) (x : α) b₁ b₂ b₃ b₄ b₅ b₆ (W : World), I pre W → R pre x W → Ax x b₁ b₂ b₃ b₄ b₅ b₆ W → body.wpIn (F.inRound l) (n - 1 - 1) P (ownPost I Ix (pre ++ [x]) W) (A b₁ b₂ b₃ b₄ b₅ b₆) W)
    (hdone : ∀ (D : Nat) (xs : List α) (W : World), S xs → I xs W → W.heap[D]? = some (.deferred (some [])) → w.heap.size ≤ D → Q .normal { a with defers := { target := .collected D, args := #[] } :: a.defers } W)
    (hstop : ∀ (D : Nat) (c : Code) (pre : List α) (W : World), Sp pre → Ix c pre W → W.heap[D]? = some (.deferred (some [])) → w.heap.size ≤ D → c.wpIn F n P Q { a with defers := { target := .collected D, args := #[] } :: a.defers } W) :
    (Code.rangeFunc g ps assign body).wpIn F n P Q a w := by
  refine wpIn_rangeFunc fun fn hfn => ?_
  rw [hro]
  have hlen : w.heap.size < (w.alloc (.deferred (some []))).heap.size := by simp
  generalize hr0 : (fun (st : LoopState) (pe : Option Code) => ({ state := st, pending := pe, fn, tmps := a.tmps, params := ps, assign, body, defers := w.heap.size } : Loop)) = mk
  have mkps : ∀ st pe, (mk st pe).params = ps := fun st pe => by rw [← hr0]
  have mkEnd : ∀ (W : World) (l : Nat) (st : LoopState) (pe : Option Code), st ≠ .busy → W.heap[l]? = some (.loop (mk st pe)) → (Instr.endLoop l).run P W = .ok pe (W.putObj l (.loop (mk .exhausted pe))) :=
    fun W l st pe hst hl => by subst hr0; exact run_endLoop hl hst
  have mkBegin : ∀ (W : World) (l : Nat) (pe : Option Code), W.heap[l]? = some (.loop (mk .ready pe)) → (Instr.beginRound l).run P W = .ok () (W.putObj l (.loop (mk .busy pe))) :=
    fun W l pe hl => by subst hr0; exact run_beginRound hl rfl
  have mkRound : ∀ (W : World) (l : Nat) (pe jump : Option Code), W.heap[l]? = some (.loop (mk .busy pe)) → (Instr.endRound l jump).run P W = .ok (.bool jump.isNone) (W.putObj l (.loop (mk (if jump.isNone then .ready else .done) jump))) :=
    fun W l pe jump hl => by subst hr0; exact run_endRound jump hl
  generalize hw1 : (w.alloc (.deferred (some []))).alloc (.loop (mk .ready none)) = W1
  have below1 : Below w.heap.size w W1 := by
    rw [← hw1]; exact ((Below.refl _ w).alloc (Nat.le_refl _) _).alloc (by simp) _
  have rec1 : W1.heap[w.heap.size + 1]? = some (.loop (mk .ready none)) := by
    rw [← hw1]; have := World.alloc_heap_new (w.alloc (.deferred (some []))) (.loop (mk .ready none)); rwa [World.size_alloc] at this
  have def1 : W1.heap[w.heap.size]? = some (.deferred (some [])) := by
    rw [← hw1]; exact (Below.heap_alloc _ _ _ hlen).trans (World.alloc_heap_new w _)
  have keep2 : ∀ {A B : World} {k : Nat} {o : Obj}, Below A.heap.size A B → A.heap[k]? = some o → B.heap[k]? = some o := fun hb hk => (hb.block _ (Array.getElem?_eq_some_iff.1 hk).1).trans hk
  refine ⟨w.heap.size + 1, [{ target := .collected w.heap.size, args := #[] }], W1, { target := .fn (.func gf) lb, args := #[.func (.yield (w.heap.size + 1)) #[] #[]] }, W1, gf,
    #[.func (.yield (w.heap.size + 1)) #[] #[]] ++ lb, W1, ?_, ?_, ?_, ?_, fun _ => h1, ?_⟩
  · rw [← hw1, ← hr0]; exact run_enterLoop_outer _ _ _ _ _
  · simp only [resolve, hg]
    simp [go_sem]
  · intro f' hf'
    simp [Target.leads] at hf'
    subst hf'
    exact hFg
  · simp [invoke, go_sem, eg]
  refine (hit (w.heap.size + 1)
    (fun pre W => I pre W ∧ W.heap[w.heap.size + 1]? = some (.loop (mk .ready none)) ∧ W.heap[w.heap.size]? = some (.deferred (some [])))
    (fun pre W => ∃ c, Ix c pre W ∧ W.heap[w.heap.size + 1]? = some (.loop (mk .done (some c))) ∧ W.heap[w.heap.size]? = some (.deferred (some [])))
    W1 (fun s A B h hb => ⟨hI s A B h.1 hb, keep2 hb h.2.1, keep2 hb h.2.2⟩) (fun s W h => hInv s W h.1) ?round ⟨hI [] w W1 h0 below1, rec1, def1⟩).mono ?after
  case after =>
    rintro e W2 ⟨⟨v, rfl⟩, (⟨xs, hS, hi, hl, hk⟩ | ⟨pre, hSp, c, hi, hl, hk⟩)⟩
    · have he := mkEnd _ _ _ _ (by simp) hl
      exact ⟨none, _, he, hdone _ xs _ hS (hIp _ _ _ _ _ hi (by omega) hl rfl) ((World.putObj_heap_other (by omega)).trans hk) (Nat.le_refl _)⟩
    · have he := mkEnd _ _ _ _ (by simp) hl
      exact ⟨some c, _, he, hstop _ c pre _ hSp (hIxp c _ _ _ _ _ hi (by omega) hl rfl) ((World.putObj_heap_other (by omega)).trans hk) (Nat.le_refl _)⟩
  case round =>
    rintro pre x W ⟨hi, hl, hk⟩ hR
    have hlt : w.heap.size + 1 < W.heap.size := (Array.getElem?_eq_some_iff.1 hl).1
    have hy := run_yield (P := P) (args := encs x) hl (by rw [mkps]; exact hps x)
    have hyy : (Instr.yield (w.heap.size + 1) (encs x)).run P W = .ok (.round (w.heap.size + 1) fn ((ps.zip (encs x)).foldl (fun t (p, v) => t.setIfInBounds p v) a.tmps) assign body) W := by
      rw [hy, ← hr0]
    refine ⟨fn, _, assign, body, hyy, roundIn_of_wpIn hfn (hassign _ pre x W _ hi hR fun b₁ b₂ b₃ b₄ b₅ b₆ W' hko hi' hR' hAx => ⟨_, mkBegin _ _ _ (hko.same _ _ hl rfl), ?_⟩)⟩
    replace hl := hko.same _ _ hl rfl
    replace hk := hko.same _ _ hk rfl
    replace hi := hi'
    replace hR := hR'
    have hlt : w.heap.size + 1 < W'.heap.size := (Array.getElem?_eq_some_iff.1 hl).1
    have hAb := hAxp _ _ _ _ _ _ _ _ (w.heap.size + 1) _ (.loop (mk .busy none)) hAx (by omega) hl rfl
    generalize hwb : W'.putObj (w.heap.size + 1) (.loop (mk .busy none)) = Wb at *
    have hlb : Wb.heap[w.heap.size + 1]? = some (.loop (mk .busy none)) := by rw [← hwb]; exact World.putObj_heap_same hlt
    have hkb : Wb.heap[w.heap.size]? = some (.deferred (some [])) := by rw [← hwb]; exact (World.putObj_heap_other (by omega)).trans hk
    have hib : I pre Wb := by rw [← hwb]; exact hIp _ _ _ _ _ hi (by omega) hl rfl
    have hRb : R pre x Wb := by rw [← hwb]; exact hRput _ _ _ _ _ _ hR hl rfl
    refine wpIn_mono (hbody _ pre x _ _ _ _ _ _ Wb hib hRb hAb) ?_
    have fin : ∀ (jump : Option Code) (W3 : World), KeepsOthers Wb W3 → ∃ W4, (Instr.endRound (w.heap.size + 1) jump).run P W3 = .ok (.bool jump.isNone) W4 ∧ W4 = W3.putObj (w.heap.size + 1) (.loop (mk (if jump.isNone then .ready else .done) jump)) ∧
        W3.heap[w.heap.size + 1]? = some (.loop (mk .busy none)) ∧
        W4.heap[w.heap.size + 1]? = some (.loop (mk (if jump.isNone then .ready else .done) jump)) ∧ W4.heap[w.heap.size]? = some (.deferred (some [])) := by
      intro jump W3 hk3
      have hl3 := hk3.same _ _ hlb rfl
      have he := mkRound _ _ _ jump hl3
      exact ⟨_, he, rfl, hl3, World.putObj_heap_same (Array.getElem?_eq_some_iff.1 hl3).1, (World.putObj_heap_other (by omega)).trans (hk3.same _ _ hkb rfl)⟩
    rintro e a3 W3 hp
    cases e with
    | normal =>
      obtain ⟨hk3, hi3⟩ := hp
      obtain ⟨W4, hr, h4, hl3, hl4, hk4⟩ := fin none W3 hk3
      exact ⟨_, _, hr, .inl ⟨rfl, by rw [h4]; exact hIp _ _ _ _ _ hi3 (by omega) hl3 rfl, hl4, hk4⟩⟩
    | ret =>
      obtain ⟨hk3, hi3⟩ := hp
      obtain ⟨W4, hr, h4, hl3, hl4, hk4⟩ := fin (some .ret) W3 hk3
      exact ⟨_, _, hr, .inr ⟨rfl, .ret, by rw [h4]; exact hIxp _ _ _ _ _ _ hi3 (by omega) hl3 rfl, hl4, hk4⟩⟩
    | exit id =>
      obtain ⟨hk3, hi3⟩ := hp
      obtain ⟨W4, hr, h4, hl3, hl4, hk4⟩ := fin (some (.exit id)) W3 hk3
      exact ⟨_, _, hr, .inr ⟨rfl, .exit id, by rw [h4]; exact hIxp _ _ _ _ _ _ hi3 (by omega) hl3 rfl, hl4, hk4⟩⟩
    | goto t =>
      obtain ⟨hk3, hi3⟩ := hp
      obtain ⟨W4, hr, h4, hl3, hl4, hk4⟩ := fin (some (.goto t)) W3 hk3
      exact ⟨_, _, hr, .inr ⟨rfl, .goto t, by rw [h4]; exact hIxp _ _ _ _ _ _ hi3 (by omega) hl3 rfl, hl4, hk4⟩⟩
    | panic ch => exact hp.elim
    | outgrown => exact hp.elim

end Go.Proofs.Ytenilbofncfbdaa

namespace Go.Proofs.Ytenilbofncfbdaa
open Go.RowKit

/-- nothing that is there turns, but block b -/
structure Turns (b : Nat) (W W' : World) : Prop where
  os : W'.os = W.os
  tape : W'.tape = W.tape
  output : W'.output = W.output
  size : W.heap.size ≤ W'.heap.size
  block : ∀ k, k < W.heap.size → k ≠ b → W'.heap[k]? = W.heap[k]?
theorem Turns.trans {b : Nat} {A B C : World} (h : Turns b A B) (k : Turns b B C) : Turns b A C :=
  ⟨k.os.trans h.os, k.tape.trans h.tape, k.output.trans h.output, Nat.le_trans h.size k.size, fun j hj hb => (k.block j (Nat.lt_of_lt_of_le hj h.size) hb).trans (h.block j hj hb)⟩
theorem Turns.set {b i : Nat} {A B : World} {v : Value} (h : Turns b A B) : Turns b A (B.setCell ⟨b, i, none⟩ v) :=
  ⟨h.os, h.tape, h.output, by simpa [World.setCell] using h.size, fun j hj hb => (Below.heap_setCell _ _ _ _ hb).trans (h.block j hj hb)⟩
theorem Turns.below {b B : Nat} {W W' : World} (h : Turns b W W') (hb : B ≤ b) (hB : B ≤ W.heap.size) : Below B W W' := ⟨h.os, h.tape, h.output, h.size, fun k hk => h.block k (Nat.lt_of_lt_of_le hk hB) (by omega)⟩
variable {F : Fence} {n : Nat} {P : Program}

end Go.Proofs.Ytenilbofncfbdaa

namespace Go.Proofs.Ytenilbofncfbdaa
open Go.RowKit

/-- a row stays under a turn of a block that is no row -/
theorem row_put {W : World} {k l : Nat} {cs : Array Value} {t : TypeId} {fr : Nat × Nat} {o : Obj} (o' : Obj) (h : W.heap[k]? = some (.cells cs t fr)) (hl : W.heap[l]? = some o) (hc : o.isCells = false) : (W.putObj l o').heap[k]? = some (.cells cs t fr) := by
  have : l ≠ k := by rintro rfl; rw [h] at hl; cases hl; simp [Obj.isCells] at hc
  rw [World.putObj_heap_other (by omega)]; exact h

end Go.Proofs.Ytenilbofncfbdaa

namespace Go.Proofs.Ytenilbofncfbdaa
open Go.RowKit

variable {F : Fence} {n : Nat} {P : Program}

/-- as wpIn_range_as; the round is told of its own record; what takes an element in may make blocks and store (Ax: what it leaves) -/
theorem wpIn_range_H {α : Type} {g : Operand} {ps : Array Tmp} {assign body : Code} {Q : Exit → Act → World → Prop} {a : Act} {w : World}
    (hro : F.round = none) (h1 : 1 ≤ n) {gf : Nat} {lb : Array Value} (hg : a.eval g = .func (.func gf) #[] lb) (hFg : F.fn gf) (eg : ∀ args w, (callFunc gf args).run P w = .ok (.enter gf args) w)
    {encs : α → Array Value} {Inv : World → Prop} {R : List α → α → World → Prop} {S Sp : List α → Prop} (hit : Iterates F (n - 1) P gf lb encs Inv R S Sp)
    (hps : ∀ x, (encs x).size = ps.size)
    (hRput : ∀ pre x W l (o o' : Obj), R pre x W → W.heap[l]? = some o → o.isCells = false → R pre x (W.putObj l o'))
    (I : List α → World → Prop) (Ix : Code → List α → World → Prop) (hI : StaysGrown I) (hIp : StaysPut w.heap.size I) (hIxp : ∀ c, StaysPut w.heap.size (Ix c)) (hInv : ∀ s W, I s W → Inv W) (h0 : I [] w) {β₁ β₂ β₃ β₄ β₅ β₆ : Type} (A : β₁ → β₂ → β₃ → β₄ → β₅ → β₆ → Act) (Ax : α → β₁ → β₂ → β₃ → β₄ → β₅ → β₆ → World → Prop) (hAxp : ∀ x b₁ b₂ b₃ b₄ b₅ b₆ W l (o o' : Obj), Ax x b₁ b₂ b₃ b₄ b₅ b₆ W → w.heap.size ≤ l → W.heap[l]? = some o → o.isCells = false → Ax x b₁ b₂ b₃ b₄ b₅ b₆ (W.putObj l o'))
    (hassign : ∀ (l : Nat) (pre : List α) (x : α) (W : World) (K : Act → World → Prop), I pre W → R pre x W → (∀ b₁ b₂ b₃ b₄ b₅ b₆ W', KeepsOthers W W' → I pre W' → R pre x W' → Ax x b₁ b₂ b₃ b₄ b₅ b₆ W' → K (A b₁ b₂ b₃ b₄ b₅ b₆) W') →
      assign.wpIn (F.inRound l) (n - 1 - 1) P (Exit.then K (fun _ _ _ => False)) { tmps := (ps.zip (encs x)).foldl (fun t (p, v) => t.setIfInBounds p v) a.tmps, defers := [] } W)
    (hbody : ∀ (l : Nat) (pre : List α) (x : α) b₁ b₂ b₃ b₄ b₅ b₆ (W : World), w.heap.size ≤ l → (∃ r, W.heap[l]? = some (.loop r)) → I pre W → R pre x W → Ax x b₁ b₂ b₃ b₄ b₅ b₆ W → body.wpIn (F.inRound l) (n - 1 - 1) P (ownPost I Ix (pre ++ [x]) W) (A b₁ b₂ b₃ b₄ b₅ b₆) W)
    (hdone : ∀ (D : Nat) (xs : List α) (W : World), S xs → I xs W → W.heap[D]? = some (.deferred (some [])) → w.heap.size ≤ D → Q .normal { a with defers := { target := .collected D, args := #[] } :: a.defers } W)
    (hstop : ∀ (D : Nat) (c : Code) (pre : List α) (W : World), Sp pre → Ix c pre W → W.heap[D]? = some (.deferred (some [])) → w.heap.size ≤ D → c.wpIn F n P Q { a with defers := { target := .collected D, args := #[] } :: a.defers } W) :
    (Code.rangeFunc g ps assign body).wpIn F n P Q a w := by
  refine wpIn_rangeFunc fun fn hfn => ?_
  rw [hro]
  have hlen : w.heap.size < (w.alloc (.deferred (some []))).heap.size := by simp
  generalize hr0 : (fun (st : LoopState) (pe : Option Code) => ({ state := st, pending := pe, fn, tmps := a.tmps, params := ps, assign, body, defers := w.heap.size } : Loop)) = mk
  have mkps : ∀ st pe, (mk st pe).params = ps := fun st pe => by rw [← hr0]
  have mkEnd : ∀ (W : World) (l : Nat) (st : LoopState) (pe : Option Code), st ≠ .busy → W.heap[l]? = some (.loop (mk st pe)) → (Instr.endLoop l).run P W = .ok pe (W.putObj l (.loop (mk .exhausted pe))) :=
    fun W l st pe hst hl => by subst hr0; exact run_endLoop hl hst
  have mkBegin : ∀ (W : World) (l : Nat) (pe : Option Code), W.heap[l]? = some (.loop (mk .ready pe)) → (Instr.beginRound l).run P W = .ok () (W.putObj l (.loop (mk .busy pe))) :=
    fun W l pe hl => by subst hr0; exact run_beginRound hl rfl
  have mkRound : ∀ (W : World) (l : Nat) (pe jump : Option Code), W.heap[l]? = some (.loop (mk .busy pe)) → (Instr.endRound l jump).run P W = .ok (.bool jump.isNone) (W.putObj l (.loop (mk (if jump.isNone then .ready else .done) jump))) :=
    fun W l pe jump hl => by subst hr0; exact run_endRound jump hl
  generalize hw1 : (w.alloc (.deferred (some []))).alloc (.loop (mk .ready none)) = W1
  have below1 : Below w.heap.size w W1 := by
    rw [← hw1]; exact ((Below.refl _ w).alloc (Nat.le_refl _) _).alloc (by simp) _
  have rec1 : W1.heap[w.heap.size + 1]? = some (.loop (mk .ready none)) := by
    rw [← hw1]; have := World.alloc_heap_new (w.alloc (.deferred (some []))) (.loop (mk .ready none)); rwa [World.size_alloc] at this
  have def1 : W1.heap[w.heap.size]? = some (.deferred (some [])) := by
    rw [← hw1]; exact (Below.heap_alloc _ _ _ hlen).trans (World.alloc_heap_new w _)
  have keep2 : ∀ {A B : World} {k : Nat} {o : Obj}, Below A.heap.size A B → A.heap[k]? = some o → B.heap[k]? = some o := fun hb hk => (hb.block _ (Array.getElem?_eq_some_iff.1 hk).1).trans hk
  refine ⟨w.heap.size + 1, [{ target := .collected w.heap.size, args := #[] }], W1, { target := .fn (.func gf) lb, args := #[.func (.yield (w.heap.size + 1)) #[] #[]] }, W1, gf,
    #[.func (.yield (w.heap.size + 1)) #[] #[]] ++ lb, W1, ?_, ?_, ?_, ?_, fun _ => h1, ?_⟩
  · rw [← hw1, ← hr0]; exact run_enterLoop_outer _ _ _ _ _
  · simp only [resolve, hg]
    simp [go_sem]
  · intro f' hf'
    simp [Target.leads] at hf'
    subst hf'
    exact hFg
  · simp [invoke, go_sem, eg]
  refine (hit (w.heap.size + 1)
    (fun pre W => I pre W ∧ W.heap[w.heap.size + 1]? = some (.loop (mk .ready none)) ∧ W.heap[w.heap.size]? = some (.deferred (some [])))
    (fun pre W => ∃ c, Ix c pre W ∧ W.heap[w.heap.size + 1]? = some (.loop (mk .done (some c))) ∧ W.heap[w.heap.size]? = some (.deferred (some [])))
    W1 (fun s A B h hb => ⟨hI s A B h.1 hb, keep2 hb h.2.1, keep2 hb h.2.2⟩) (fun s W h => hInv s W h.1) ?round ⟨hI [] w W1 h0 below1, rec1, def1⟩).mono ?after
  case after =>
    rintro e W2 ⟨⟨v, rfl⟩, (⟨xs, hS, hi, hl, hk⟩ | ⟨pre, hSp, c, hi, hl, hk⟩)⟩
    · have he := mkEnd _ _ _ _ (by simp) hl
      exact ⟨none, _, he, hdone _ xs _ hS (hIp _ _ _ _ _ hi (by omega) hl rfl) ((World.putObj_heap_other (by omega)).trans hk) (Nat.le_refl _)⟩
    · have he := mkEnd _ _ _ _ (by simp) hl
      exact ⟨some c, _, he, hstop _ c pre _ hSp (hIxp c _ _ _ _ _ hi (by omega) hl rfl) ((World.putObj_heap_other (by omega)).trans hk) (Nat.le_refl _)⟩
  case round =>
    rintro pre x W ⟨hi, hl, hk⟩ hR
    have hlt : w.heap.size + 1 < W.heap.size := (Array.getElem?_eq_some_iff.1 hl).1
    have hy := run_yield (P := P) (args := encs x) hl (by rw [mkps]; exact hps x)
    have hyy : (Instr.yield (w.heap.size + 1) (encs x)).run P W = .ok (.round (w.heap.size + 1) fn ((ps.zip (encs x)).foldl (fun t (p, v) => t.setIfInBounds p v) a.tmps) assign body) W := by
      rw [hy, ← hr0]
    refine ⟨fn, _, assign, body, hyy, roundIn_of_wpIn hfn (hassign _ pre x W _ hi hR fun b₁ b₂ b₃ b₄ b₅ b₆ W' hko hi' hR' hAx => ⟨_, mkBegin _ _ _ (hko.same _ _ hl rfl), ?_⟩)⟩
    replace hl := hko.same _ _ hl rfl
    replace hk := hko.same _ _ hk rfl
    replace hi := hi'
    replace hR := hR'
    have hlt : w.heap.size + 1 < W'.heap.size := (Array.getElem?_eq_some_iff.1 hl).1
    have hAb := hAxp _ _ _ _ _ _ _ _ (w.heap.size + 1) _ (.loop (mk .busy none)) hAx (by omega) hl rfl
    generalize hwb : W'.putObj (w.heap.size + 1) (.loop (mk .busy none)) = Wb at *
    have hlb : Wb.heap[w.heap.size + 1]? = some (.loop (mk .busy none)) := by rw [← hwb]; exact World.putObj_heap_same hlt
    have hkb : Wb.heap[w.heap.size]? = some (.deferred (some [])) := by rw [← hwb]; exact (World.putObj_heap_other (by omega)).trans hk
    have hib : I pre Wb := by rw [← hwb]; exact hIp _ _ _ _ _ hi (by omega) hl rfl
    have hRb : R pre x Wb := by rw [← hwb]; exact hRput _ _ _ _ _ _ hR hl rfl
    refine wpIn_mono (hbody _ pre x _ _ _ _ _ _ Wb (Nat.le_succ _) ⟨_, hlb⟩ hib hRb hAb) ?_
    have fin : ∀ (jump : Option Code) (W3 : World), KeepsOthers Wb W3 → ∃ W4, (Instr.endRound (w.heap.size + 1) jump).run P W3 = .ok (.bool jump.isNone) W4 ∧ W4 = W3.putObj (w.heap.size + 1) (.loop (mk (if jump.isNone then .ready else .done) jump)) ∧
        W3.heap[w.heap.size + 1]? = some (.loop (mk .busy none)) ∧
        W4.heap[w.heap.size + 1]? = some (.loop (mk (if jump.isNone then .ready else .done) jump)) ∧ W4.heap[w.heap.size]? = some (.deferred (some [])) := by
      intro jump W3 hk3
      have hl3 := hk3.same _ _ hlb rfl
      have he := mkRound _ _ _ jump hl3
      exact ⟨_, he, rfl, hl3, World.putObj_heap_same (Array.getElem?_eq_some_iff.1 hl3).1, (World.putObj_heap_other (by omega)).trans (hk3.same _ _ hkb rfl)⟩
    rintro e a3 W3 hp
    cases e with
    | normal =>
      obtain ⟨hk3, hi3⟩ := hp
      obtain ⟨W4, hr, h4, hl3, hl4, hk4⟩ := fin none W3 hk3
      exact ⟨_, _, hr, .inl ⟨rfl, by rw [h4]; exact hIp _ _ _ _ _ hi3 (by omega) hl3 rfl, hl4, hk4⟩⟩
    | ret =>
      obtain ⟨hk3, hi3⟩ := hp
      obtain ⟨W4, hr, h4, hl3, hl4, hk4⟩ := fin (some .ret) W3 hk3
      exact ⟨_, _, hr, .inr ⟨rfl, .ret, by rw [h4]; exact hIxp _ _ _ _ _ _ hi3 (by omega) hl3 rfl, hl4, hk4⟩⟩
    | exit id =>
      obtain ⟨hk3, hi3⟩ := hp
      obtain ⟨W4, hr, h4, hl3, hl4, hk4⟩ := fin (some (.exit id)) W3 hk3
      exact ⟨_, _, hr, .inr ⟨rfl, .exit id, by rw [h4]; exact hIxp _ _ _ _ _ _ hi3 (by omega) hl3 rfl, hl4, hk4⟩⟩
    | goto t =>
      obtain ⟨hk3, hi3⟩ := hp
      obtain ⟨W4, hr, h4, hl3, hl4, hk4⟩ := fin (some (.goto t)) W3 hk3
      exact ⟨_, _, hr, .inr ⟨rfl, .goto t, by rw [h4]; exact hIxp _ _ _ _ _ _ hi3 (by omega) hl3 rfl, hl4, hk4⟩⟩
    | panic ch => exact hp.elim
    | outgrown => exact hp.elim


end Go.Proofs.Ytenilbofncfbdaa

