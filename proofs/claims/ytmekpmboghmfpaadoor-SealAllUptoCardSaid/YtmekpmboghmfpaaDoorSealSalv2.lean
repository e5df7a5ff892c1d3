/- Salvage's loop body: 'l, places = append(l, body), append(places, at)', whatever the order of its operations. -/
import Derived.Test.YtmekpmboghmfpaaDoorSealSalv
namespace Go.Proofs.YtmekpmboghmfpaaDoor
open Go.RowKit

attribute [local go_sem] Oper.semAt_some

theorem info_bytes : (Tryd.prog.info? 22).map (fun i => (i.zero, i.size, i.bytes)) = some (some (.slice none 0 0), 1, 24) := by kernel_rfl
theorem info_int : (Tryd.prog.info? 3).map (fun i => (i.zero, i.size, i.bytes)) = some (some (.int .i64 0), 1, 8) := by kernel_rfl

abbrev OwnL (W : World) (base : Nat) (v : Value) (xs : List Value) : Prop := W.ownsRow base 22 1 v xs.length xs
abbrev OwnP (W : World) (base : Nat) (v : Value) (xs : List Value) : Prop := W.ownsRow base 3 1 v xs.length xs

/-- what the statement leaves as it was: all but the two boxes and rows of the call's own of the two element types -/
structure FrL (base bL bP : Nat) (W0 W : World) : Prop where
  os : W.os = W0.os
  tape : W.tape = W0.tape
  output : W.output = W0.output
  size : W0.heap.size ≤ W.heap.size
  block : ∀ k, k < W0.heap.size → k ≠ bL → k ≠ bP → (∀ c fr, W0.heap[k]? = some (.cells c 22 fr) → k < base) → (∀ c fr, W0.heap[k]? = some (.cells c 3 fr) → k < base) → W.heap[k]? = W0.heap[k]?

theorem FrL.refl (base bL bP : Nat) (W : World) : FrL base bL bP W W := ⟨rfl, rfl, rfl, Nat.le_refl _, fun _ _ _ _ _ _ => rfl⟩
theorem FrL.below {base bL bP : Nat} {W0 W W' : World} (h : FrL base bL bP W0 W) (hb : Below W.heap.size W W') : FrL base bL bP W0 W' :=
  ⟨hb.os.trans h.os, hb.tape.trans h.tape, hb.output.trans h.output, Nat.le_trans h.size hb.size, fun k hk h1 h2 h3 h4 => (hb.block k (Nat.lt_of_lt_of_le hk h.size)).trans (h.block k hk h1 h2 h3 h4)⟩
theorem FrL.store {base bL bP : Nat} {W0 W : World} (h : FrL base bL bP W0 W) (b o : Nat) (v : Value) (hb : b = bL ∨ b = bP) : FrL base bL bP W0 (W.setCell ⟨b, o, none⟩ v) :=
  ⟨h.os, h.tape, h.output, by simpa [World.setCell] using h.size, fun k hk h1 h2 h3 h4 => by
    rw [Below.heap_setCell _ _ _ _ (by rcases hb with rfl | rfl <;> assumption)]; exact h.block k hk h1 h2 h3 h4⟩
theorem FrL.grown {base bL bP : Nat} {W0 W W' : World} (h : FrL base bL bP W0 W) {e : TypeId} {v : Value} {n : Nat} {xs : List Value} (hown : W.ownsRow base e 1 v n xs) (he : e = 22 ∨ e = 3) (hg : W.grownBy W' v.ownBlock) : FrL base bL bP W0 W' := by
  refine ⟨hg.os.trans h.os, hg.tape.trans h.tape, hg.output.trans h.output, Nat.le_trans h.size hg.size, fun k hk h1 h2 h3 h4 => ?_⟩
  have hW := h.block k hk h1 h2 h3 h4
  rw [hg.block k (Nat.lt_of_lt_of_le hk h.size) ?_, hW]
  intro hkv
  rcases hown.2 with ⟨rfl, _⟩ | ⟨g, cap, cur, rfl, hbg, hgg, _⟩
  · cases hkv
  · simp [Value.ownBlock] at hkv
    subst hkv
    rw [hW] at hgg
    rcases he with rfl | rfl
    · have := h3 _ _ hgg; omega
    · have := h4 _ _ hgg; omega

/-- a block of another element type than a row's stays as it was while the row grows -/
theorem block_apart {base g : Nat} {W W' : World} {e e' : TypeId} {v : Value} {n : Nat} {xs : List Value} {c : Array Value} {fr : Nat × Nat} (hown : W.ownsRow base e 1 v n xs) (hg : W.grownBy W' v.ownBlock)
    (hb : W.heap[g]? = some (.cells c e' fr)) (hne : e ≠ e') : W'.heap[g]? = some (.cells c e' fr) := by
  rw [hg.block g (Array.getElem?_eq_some_iff.1 hb).1 ?_]
  · exact hb
  · intro hgv
    rcases hown.2 with ⟨rfl, _⟩ | ⟨g', cap, cur, rfl, hbg, hgg, _⟩
    · cases hgv
    · simp [Value.ownBlock] at hgv
      subst hgv
      rw [hgg] at hb
      cases hb
      exact hne rfl
theorem owns_apart {base : Nat} {W W' : World} {e e' : TypeId} {v v2 : Value} {n n2 : Nat} {xs xs2 : List Value} (hown : W.ownsRow base e 1 v n xs) (hg : W.grownBy W' v.ownBlock)
    (h2 : W.ownsRow base e' 1 v2 n2 xs2) (hne : e ≠ e') : W'.ownsRow base e' 1 v2 n2 xs2 := by
  refine ⟨h2.1, ?_⟩
  rcases h2.2 with h | ⟨g, cap, cur, hv, hbg, hgg, r⟩
  · exact .inl h
  · exact .inr ⟨g, cap, cur, hv, hbg, block_apart hown hg hgg hne, r⟩
theorem owns_grown {base : Nat} {W W' : World} {e : TypeId} {v : Value} {n : Nat} {xs : List Value} (h2 : W.ownsRow base e 1 v n xs) (hb : Below W.heap.size W W') : W'.ownsRow base e 1 v n xs := by
  refine ⟨h2.1, ?_⟩
  rcases h2.2 with h | ⟨g, cap, cur, hv, hbg, hgg, r⟩
  · exact .inl h
  · exact .inr ⟨g, cap, cur, hv, hbg, by rw [hb.block g (Array.getElem?_eq_some_iff.1 hgg).1]; exact hgg, r⟩
theorem owns_store {base : Nat} {W : World} {e e' : TypeId} {v : Value} {n : Nat} {xs : List Value} (h2 : W.ownsRow base e 1 v n xs) {b : Nat} {c : Array Value} {fr : Nat × Nat} (hb : W.heap[b]? = some (.cells c e' fr)) (hne : e ≠ e') (o : Nat) (u : Value) : (W.setCell ⟨b, o, none⟩ u).ownsRow base e 1 v n xs := by
  refine ⟨h2.1, ?_⟩
  rcases h2.2 with h | ⟨g, cap, cur, hv, hbg, hgg, r⟩
  · exact .inl h
  · refine .inr ⟨g, cap, cur, hv, hbg, ?_, r⟩
    rw [Below.heap_setCell _ _ _ _ ?_]
    · exact hgg
    · rintro rfl
      rw [hb] at hgg; cases hgg; exact hne rfl

/-- the frame of a round, with its eight scratch slots -/
def actL (t0 t8 t9 : Value) (bL bP : Nat) (at_ v t12 t13 t14 t15 t16 t17 t18 t19 : Value) : Act :=
  { tmps := #[t0, undef, .slice none 0 0, .slice none 0 0, .pointer (some ⟨bL, 0, none⟩), .pointer (some ⟨bP, 0, none⟩), at_, v, t8, t9, at_, v, t12, t13, t14, t15, t16, t17, t18, t19, undef, undef], defers := [] }

structure SInv (base bL bP : Nat) (W0 : World) (lv pv : Value) (xs ks : List Value) (at_ v : Value) (t12 t13 t14 t15 t16 t17 t18 t19 : Value) (d : Nat → Bool) (W : World) : Prop where
  fr : FrL base bL bP W0 W
  hbase : base ≤ W.heap.size
  s0 : d 0 = true → t12 = lv
  s1 : d 1 = true → t13 = v
  s2 : d 2 = true → ∃ g, t14 = .slice (some ⟨g, 0, none⟩) 1 1 ∧ (d 3 = false → W.cell? ⟨g, 0, none⟩ = some v)
  s3 : d 3 = true → OwnL W base t15 (xs ++ [v])
  s3' : d 3 = false → OwnL W base lv xs
  s4 : d 4 = true → t16 = pv
  s5 : d 5 = true → t17 = at_
  s6 : d 6 = true → ∃ g, t18 = .slice (some ⟨g, 0, none⟩) 1 1 ∧ (d 7 = false → W.heap[g]? = some (.cells #[at_] 3 (0, 0)))
  s7 : d 7 = true → OwnP W base t19 (ks ++ [at_])
  s7' : d 7 = false → OwnP W base pv ks
  s8 : d 8 = true → W.heap[bL]? = some (.cells #[t15] 33 (0, 0))
  s8' : d 8 = false → W.heap[bL]? = some (.cells #[lv] 33 (0, 0))
  s9 : d 9 = true → W.heap[bP]? = some (.cells #[t19] 44 (0, 0))
  s9' : d 9 = false → W.heap[bP]? = some (.cells #[pv] 44 (0, 0))
  o8 : d 8 = true → d 3 = true
  o9 : d 9 = true → d 7 = true

theorem wpIn_op {F : Fence} {n : Nat} {P : Program} {o : Oper} {a : Act} {w w' : World} {K : Act → World → Prop} {Q : Exit → Act → World → Prop} {v : Value} {l : Nat} (hd : ∀ c, o.op ≠ .defer c)
    (hrun : (execOp a.eval o).run P w = .ok (.value v) w') (hab : ∀ f, F.fn f) (hK : K (a.put o.dst v) w') : o.wpIn (F.inRound l) n P a w K Q := by
  refine ⟨fun f _ => hab f, ?_⟩
  rw [Fence.inRound_round, Oper.semAt_some _ _ _ hd, hrun]
  exact hK

theorem wpIn_op_skip {F : Fence} {n : Nat} {P : Program} {o : Oper} {a : Act} {w w' : World} {K : Act → World → Prop} {Q : Exit → Act → World → Prop} {l : Nat} (hd : ∀ c, o.op ≠ .defer c)
    (hrun : (execOp a.eval o).run P w = .ok .skip w') (hab : ∀ f, F.fn f) (hK : K (a.put o.dst undef) w') : o.wpIn (F.inRound l) n P a w K Q := by
  refine ⟨fun f _ => hab f, ?_⟩
  rw [Fence.inRound_round, Oper.semAt_some _ _ _ hd, hrun]
  exact hK

theorem op_append (T E : TypeId) (i0 : TypeInfo) (z : Value) (bytes : Nat) (hT : Tryd.prog.underlying T = some (.slice E)) (hi : Tryd.prog.info? E = some i0) (hz0 : i0.zero = some z) (hz1 : i0.size = 1) (hz2 : i0.bytes = bytes) (hzc : z.cells.size = 1)
    (s x : Nat) (a : Act) (w : World) (base : Nat) (v u : Value) (xs : List Value) (g : Nat)
    (hs : a.tmps.getD s undef = v) (hx : a.tmps.getD x undef = .slice (some ⟨g, 0, none⟩) 1 1) (hown : w.ownsRow base E 1 v xs.length xs) (hc : w.cell? ⟨g, 0, none⟩ = some u) (hu : u.oneCell' = true)
    (h63 : xs.length + 1 ≤ maxLen) (hb : (xs.length + 1) * bytes ≤ 140737488355328) (hbase : base ≤ w.heap.size) :
    ∃ v' w', (∀ (dst : Option Tmp) (pos : String) (aft : Array Edge), (execOp a.eval { dst := dst, op := Op.call { callee := Callee.builtin Builtin.append, args := #[Operand.tmp s, Operand.tmp x], argTypes := #[T, T] }, type := T, pos := pos, after := aft, guard := none }).run Tryd.prog w = .ok (.value v') w') ∧ w'.ownsRow base E 1 v' (xs ++ [u]).length (xs ++ [u]) ∧ w.grownBy w' v.ownBlock := by
  obtain ⟨v', w', hr, h2, h3, _⟩ := run_append_own (P := Tryd.prog) w base T T E i0 z 1 bytes hT hi hz0 hz1 hz2 hzc (by decide) v xs.length xs hown ⟨g, 0, none⟩ 1 1 [u] rfl
    (by intro j y hj; match j, hj with | 0, hj => simp at hj; subst hj; simpa [Addr.add] using hc) (by intro y hy; simp at hy; subst hy; exact hu) h63 hb hbase
  refine ⟨v', w', fun dst pos aft => ?_, by simpa using h2, h3⟩
  unfold execOp
  simp only [resolve, invoke, builtin, Sem.run_bind, Sem.run_pure, Result.andThen_ok, List.map_toArray, List.map_cons, List.map_nil, Act.eval, hs, hx, hr]

theorem SInv.below {base bL bP : Nat} {W0 : World} {lv pv : Value} {xs ks : List Value} {at_ v : Value} {t12 t13 t14 t15 t16 t17 t18 t19 : Value} {d : Nat → Bool} {W : World} {W' : World} (h : SInv base bL bP W0 lv pv xs ks at_ v t12 t13 t14 t15 t16 t17 t18 t19 d W) (hb : Below W.heap.size W W') : SInv base bL bP W0 lv pv xs ks at_ v t12 t13 t14 t15 t16 t17 t18 t19 d W' := by
  have hk : ∀ {k : Nat} {o : Obj}, W.heap[k]? = some o → W'.heap[k]? = some o := fun hk => (hb.block _ (Array.getElem?_eq_some_iff.1 hk).1).trans hk
  exact {
    fr := h.fr.below hb, hbase := Nat.le_trans h.hbase hb.size, s0 := h.s0, s1 := h.s1, s4 := h.s4, s5 := h.s5,
    s2 := fun e => by obtain ⟨g, h1, h2⟩ := h.s2 e; exact ⟨g, h1, fun e3 => by have := h2 e3; exact (hb.cell (p := ⟨g, 0, none⟩) (World.block_lt_of_cell? W _ this)).trans this⟩,
    s3 := fun e => owns_grown (h.s3 e) hb, s3' := fun e => owns_grown (h.s3' e) hb,
    s6 := fun e => by obtain ⟨g, h1, h2⟩ := h.s6 e; exact ⟨g, h1, fun e7 => hk (h2 e7)⟩,
    s7 := fun e => owns_grown (h.s7 e) hb, s7' := fun e => owns_grown (h.s7' e) hb,
    s8 := fun e => hk (h.s8 e), s8' := fun e => hk (h.s8' e), s9 := fun e => hk (h.s9 e), s9' := fun e => hk (h.s9' e), o8 := h.o8, o9 := h.o9 }

theorem SInv.op0 {base bL bP : Nat} {W0 : World} {lv pv : Value} {xs ks : List Value} {at_ v : Value} {t12 t13 t14 t15 t16 t17 t18 t19 : Value} {d d' : Nat → Bool} {W : World} (h : SInv base bL bP W0 lv pv xs ks at_ v t12 t13 t14 t15 t16 t17 t18 t19 d W) (hd : ∀ j, j ≠ 0 → d' j = d j) (_hi : d' 0 = true)  : SInv base bL bP W0 lv pv xs ks at_ v lv t13 t14 t15 t16 t17 t18 t19 d' W :=
  { fr := h.fr, hbase := h.hbase, s0 := fun _ => rfl, s1 := fun e => h.s1 (by rw [← hd 1 (by decide)]; exact e), s3 := fun e => h.s3 (by rw [← hd 3 (by decide)]; exact e), s4 := fun e => h.s4 (by rw [← hd 4 (by decide)]; exact e), s5 := fun e => h.s5 (by rw [← hd 5 (by decide)]; exact e), s7 := fun e => h.s7 (by rw [← hd 7 (by decide)]; exact e), s8 := fun e => h.s8 (by rw [← hd 8 (by decide)]; exact e), s9 := fun e => h.s9 (by rw [← hd 9 (by decide)]; exact e), s3' := fun e => h.s3' (by rw [← hd 3 (by decide)]; exact e), s7' := fun e => h.s7' (by rw [← hd 7 (by decide)]; exact e), s8' := fun e => h.s8' (by rw [← hd 8 (by decide)]; exact e), s9' := fun e => h.s9' (by rw [← hd 9 (by decide)]; exact e), s2 := fun e => by obtain ⟨g, h1, h2⟩ := h.s2 (by rw [← hd 2 (by decide)]; exact e); exact ⟨g, h1, fun e3 => h2 (by rw [← hd 3 (by decide)]; exact e3)⟩, s6 := fun e => by obtain ⟨g, h1, h2⟩ := h.s6 (by rw [← hd 6 (by decide)]; exact e); exact ⟨g, h1, fun e3 => h2 (by rw [← hd 7 (by decide)]; exact e3)⟩, o8 := (fun e => by rw [hd 3 (by decide)]; exact h.o8 (by rw [← hd 8 (by decide)]; exact e)), o9 := (fun e => by rw [hd 7 (by decide)]; exact h.o9 (by rw [← hd 9 (by decide)]; exact e)) }

theorem SInv.op1 {base bL bP : Nat} {W0 : World} {lv pv : Value} {xs ks : List Value} {at_ v : Value} {t12 t13 t14 t15 t16 t17 t18 t19 : Value} {d d' : Nat → Bool} {W : World} (h : SInv base bL bP W0 lv pv xs ks at_ v t12 t13 t14 t15 t16 t17 t18 t19 d W) (hd : ∀ j, j ≠ 1 → d' j = d j) (_hi : d' 1 = true)  : SInv base bL bP W0 lv pv xs ks at_ v t12 v t14 t15 t16 t17 t18 t19 d' W :=
  { fr := h.fr, hbase := h.hbase, s1 := fun _ => rfl, s0 := fun e => h.s0 (by rw [← hd 0 (by decide)]; exact e), s3 := fun e => h.s3 (by rw [← hd 3 (by decide)]; exact e), s4 := fun e => h.s4 (by rw [← hd 4 (by decide)]; exact e), s5 := fun e => h.s5 (by rw [← hd 5 (by decide)]; exact e), s7 := fun e => h.s7 (by rw [← hd 7 (by decide)]; exact e), s8 := fun e => h.s8 (by rw [← hd 8 (by decide)]; exact e), s9 := fun e => h.s9 (by rw [← hd 9 (by decide)]; exact e), s3' := fun e => h.s3' (by rw [← hd 3 (by decide)]; exact e), s7' := fun e => h.s7' (by rw [← hd 7 (by decide)]; exact e), s8' := fun e => h.s8' (by rw [← hd 8 (by decide)]; exact e), s9' := fun e => h.s9' (by rw [← hd 9 (by decide)]; exact e), s2 := fun e => by obtain ⟨g, h1, h2⟩ := h.s2 (by rw [← hd 2 (by decide)]; exact e); exact ⟨g, h1, fun e3 => h2 (by rw [← hd 3 (by decide)]; exact e3)⟩, s6 := fun e => by obtain ⟨g, h1, h2⟩ := h.s6 (by rw [← hd 6 (by decide)]; exact e); exact ⟨g, h1, fun e3 => h2 (by rw [← hd 7 (by decide)]; exact e3)⟩, o8 := (fun e => by rw [hd 3 (by decide)]; exact h.o8 (by rw [← hd 8 (by decide)]; exact e)), o9 := (fun e => by rw [hd 7 (by decide)]; exact h.o9 (by rw [← hd 9 (by decide)]; exact e)) }

theorem SInv.op4 {base bL bP : Nat} {W0 : World} {lv pv : Value} {xs ks : List Value} {at_ v : Value} {t12 t13 t14 t15 t16 t17 t18 t19 : Value} {d d' : Nat → Bool} {W : World} (h : SInv base bL bP W0 lv pv xs ks at_ v t12 t13 t14 t15 t16 t17 t18 t19 d W) (hd : ∀ j, j ≠ 4 → d' j = d j) (_hi : d' 4 = true)  : SInv base bL bP W0 lv pv xs ks at_ v t12 t13 t14 t15 pv t17 t18 t19 d' W :=
  { fr := h.fr, hbase := h.hbase, s4 := fun _ => rfl, s0 := fun e => h.s0 (by rw [← hd 0 (by decide)]; exact e), s1 := fun e => h.s1 (by rw [← hd 1 (by decide)]; exact e), s3 := fun e => h.s3 (by rw [← hd 3 (by decide)]; exact e), s5 := fun e => h.s5 (by rw [← hd 5 (by decide)]; exact e), s7 := fun e => h.s7 (by rw [← hd 7 (by decide)]; exact e), s8 := fun e => h.s8 (by rw [← hd 8 (by decide)]; exact e), s9 := fun e => h.s9 (by rw [← hd 9 (by decide)]; exact e), s3' := fun e => h.s3' (by rw [← hd 3 (by decide)]; exact e), s7' := fun e => h.s7' (by rw [← hd 7 (by decide)]; exact e), s8' := fun e => h.s8' (by rw [← hd 8 (by decide)]; exact e), s9' := fun e => h.s9' (by rw [← hd 9 (by decide)]; exact e), s2 := fun e => by obtain ⟨g, h1, h2⟩ := h.s2 (by rw [← hd 2 (by decide)]; exact e); exact ⟨g, h1, fun e3 => h2 (by rw [← hd 3 (by decide)]; exact e3)⟩, s6 := fun e => by obtain ⟨g, h1, h2⟩ := h.s6 (by rw [← hd 6 (by decide)]; exact e); exact ⟨g, h1, fun e3 => h2 (by rw [← hd 7 (by decide)]; exact e3)⟩, o8 := (fun e => by rw [hd 3 (by decide)]; exact h.o8 (by rw [← hd 8 (by decide)]; exact e)), o9 := (fun e => by rw [hd 7 (by decide)]; exact h.o9 (by rw [← hd 9 (by decide)]; exact e)) }

theorem SInv.op5 {base bL bP : Nat} {W0 : World} {lv pv : Value} {xs ks : List Value} {at_ v : Value} {t12 t13 t14 t15 t16 t17 t18 t19 : Value} {d d' : Nat → Bool} {W : World} (h : SInv base bL bP W0 lv pv xs ks at_ v t12 t13 t14 t15 t16 t17 t18 t19 d W) (hd : ∀ j, j ≠ 5 → d' j = d j) (_hi : d' 5 = true)  : SInv base bL bP W0 lv pv xs ks at_ v t12 t13 t14 t15 t16 at_ t18 t19 d' W :=
  { fr := h.fr, hbase := h.hbase, s5 := fun _ => rfl, s0 := fun e => h.s0 (by rw [← hd 0 (by decide)]; exact e), s1 := fun e => h.s1 (by rw [← hd 1 (by decide)]; exact e), s3 := fun e => h.s3 (by rw [← hd 3 (by decide)]; exact e), s4 := fun e => h.s4 (by rw [← hd 4 (by decide)]; exact e), s7 := fun e => h.s7 (by rw [← hd 7 (by decide)]; exact e), s8 := fun e => h.s8 (by rw [← hd 8 (by decide)]; exact e), s9 := fun e => h.s9 (by rw [← hd 9 (by decide)]; exact e), s3' := fun e => h.s3' (by rw [← hd 3 (by decide)]; exact e), s7' := fun e => h.s7' (by rw [← hd 7 (by decide)]; exact e), s8' := fun e => h.s8' (by rw [← hd 8 (by decide)]; exact e), s9' := fun e => h.s9' (by rw [← hd 9 (by decide)]; exact e), s2 := fun e => by obtain ⟨g, h1, h2⟩ := h.s2 (by rw [← hd 2 (by decide)]; exact e); exact ⟨g, h1, fun e3 => h2 (by rw [← hd 3 (by decide)]; exact e3)⟩, s6 := fun e => by obtain ⟨g, h1, h2⟩ := h.s6 (by rw [← hd 6 (by decide)]; exact e); exact ⟨g, h1, fun e3 => h2 (by rw [← hd 7 (by decide)]; exact e3)⟩, o8 := (fun e => by rw [hd 3 (by decide)]; exact h.o8 (by rw [← hd 8 (by decide)]; exact e)), o9 := (fun e => by rw [hd 7 (by decide)]; exact h.o9 (by rw [← hd 9 (by decide)]; exact e)) }

theorem SInv.op2 {base bL bP : Nat} {W0 : World} {lv pv : Value} {xs ks : List Value} {at_ v : Value} {t12 t13 t14 t15 t16 t17 t18 t19 : Value} {d d' : Nat → Bool} {W : World} (h : SInv base bL bP W0 lv pv xs ks at_ v t12 t13 t14 t15 t16 t17 t18 t19 d W) (hd : ∀ j, j ≠ 2 → d' j = d j) (_hi : d' 2 = true) {u : Value} (hu : ∃ g, u = .slice (some ⟨g, 0, none⟩) 1 1 ∧ W.cell? ⟨g, 0, none⟩ = some v) : SInv base bL bP W0 lv pv xs ks at_ v t12 t13 u t15 t16 t17 t18 t19 d' W :=
  { fr := h.fr, hbase := h.hbase, s2 := fun _ => by obtain ⟨g, h1, h2⟩ := hu; exact ⟨g, h1, fun _ => h2⟩, s0 := fun e => h.s0 (by rw [← hd 0 (by decide)]; exact e), s1 := fun e => h.s1 (by rw [← hd 1 (by decide)]; exact e), s3 := fun e => h.s3 (by rw [← hd 3 (by decide)]; exact e), s4 := fun e => h.s4 (by rw [← hd 4 (by decide)]; exact e), s5 := fun e => h.s5 (by rw [← hd 5 (by decide)]; exact e), s7 := fun e => h.s7 (by rw [← hd 7 (by decide)]; exact e), s8 := fun e => h.s8 (by rw [← hd 8 (by decide)]; exact e), s9 := fun e => h.s9 (by rw [← hd 9 (by decide)]; exact e), s3' := fun e => h.s3' (by rw [← hd 3 (by decide)]; exact e), s7' := fun e => h.s7' (by rw [← hd 7 (by decide)]; exact e), s8' := fun e => h.s8' (by rw [← hd 8 (by decide)]; exact e), s9' := fun e => h.s9' (by rw [← hd 9 (by decide)]; exact e), s6 := fun e => by obtain ⟨g, h1, h2⟩ := h.s6 (by rw [← hd 6 (by decide)]; exact e); exact ⟨g, h1, fun e3 => h2 (by rw [← hd 7 (by decide)]; exact e3)⟩, o8 := (fun e => by rw [hd 3 (by decide)]; exact h.o8 (by rw [← hd 8 (by decide)]; exact e)), o9 := (fun e => by rw [hd 7 (by decide)]; exact h.o9 (by rw [← hd 9 (by decide)]; exact e)) }

theorem SInv.op6 {base bL bP : Nat} {W0 : World} {lv pv : Value} {xs ks : List Value} {at_ v : Value} {t12 t13 t14 t15 t16 t17 t18 t19 : Value} {d d' : Nat → Bool} {W : World} (h : SInv base bL bP W0 lv pv xs ks at_ v t12 t13 t14 t15 t16 t17 t18 t19 d W) (hd : ∀ j, j ≠ 6 → d' j = d j) (_hi : d' 6 = true) {u : Value} (hu : ∃ g, u = .slice (some ⟨g, 0, none⟩) 1 1 ∧ W.heap[g]? = some (.cells #[at_] 3 (0, 0))) : SInv base bL bP W0 lv pv xs ks at_ v t12 t13 t14 t15 t16 t17 u t19 d' W :=
  { fr := h.fr, hbase := h.hbase, s6 := fun _ => by obtain ⟨g, h1, h2⟩ := hu; exact ⟨g, h1, fun _ => h2⟩, s0 := fun e => h.s0 (by rw [← hd 0 (by decide)]; exact e), s1 := fun e => h.s1 (by rw [← hd 1 (by decide)]; exact e), s3 := fun e => h.s3 (by rw [← hd 3 (by decide)]; exact e), s4 := fun e => h.s4 (by rw [← hd 4 (by decide)]; exact e), s5 := fun e => h.s5 (by rw [← hd 5 (by decide)]; exact e), s7 := fun e => h.s7 (by rw [← hd 7 (by decide)]; exact e), s8 := fun e => h.s8 (by rw [← hd 8 (by decide)]; exact e), s9 := fun e => h.s9 (by rw [← hd 9 (by decide)]; exact e), s3' := fun e => h.s3' (by rw [← hd 3 (by decide)]; exact e), s7' := fun e => h.s7' (by rw [← hd 7 (by decide)]; exact e), s8' := fun e => h.s8' (by rw [← hd 8 (by decide)]; exact e), s9' := fun e => h.s9' (by rw [← hd 9 (by decide)]; exact e), s2 := fun e => by obtain ⟨g, h1, h2⟩ := h.s2 (by rw [← hd 2 (by decide)]; exact e); exact ⟨g, h1, fun e3 => h2 (by rw [← hd 3 (by decide)]; exact e3)⟩, o8 := (fun e => by rw [hd 3 (by decide)]; exact h.o8 (by rw [← hd 8 (by decide)]; exact e)), o9 := (fun e => by rw [hd 7 (by decide)]; exact h.o9 (by rw [← hd 9 (by decide)]; exact e)) }

theorem SInv.op3 {base bL bP : Nat} {W0 : World} {lv pv : Value} {xs ks : List Value} {at_ v : Value} {t12 t13 t14 t15 t16 t17 t18 t19 : Value} {d d' : Nat → Bool} {W : World} {W' : World} {u : Value} (h : SInv base bL bP W0 lv pv xs ks at_ v t12 t13 t14 t15 t16 t17 t18 t19 d W) (hd : ∀ j, j ≠ 3 → d' j = d j) (hi : d' 3 = true) (h3 : d 3 = false) (h8 : d 8 = false)
    (hg : W.grownBy W' lv.ownBlock) (hown : OwnL W' base u (xs ++ [v])) : SInv base bL bP W0 lv pv xs ks at_ v t12 t13 t14 u t16 t17 t18 t19 d' W' := by
  have ho := h.s3' h3
  exact {
    fr := h.fr.grown ho (.inl rfl) hg, hbase := Nat.le_trans h.hbase hg.size,
    s0 := fun e => h.s0 (by rw [← hd 0 (by decide)]; exact e), s1 := fun e => h.s1 (by rw [← hd 1 (by decide)]; exact e),
    s2 := fun e => by obtain ⟨g, h1, h2⟩ := h.s2 (by rw [← hd 2 (by decide)]; exact e); exact ⟨g, h1, fun e3 => absurd e3 (by rw [hi]; simp)⟩,
    s3 := fun _ => hown, s3' := fun e => absurd e (by rw [hi]; simp),
    s4 := fun e => h.s4 (by rw [← hd 4 (by decide)]; exact e), s5 := fun e => h.s5 (by rw [← hd 5 (by decide)]; exact e),
    s6 := fun e => by obtain ⟨g, h1, h2⟩ := h.s6 (by rw [← hd 6 (by decide)]; exact e); exact ⟨g, h1, fun e7 => block_apart ho hg (h2 (by rw [← hd 7 (by decide)]; exact e7)) (by decide)⟩,
    s7 := fun e => owns_apart ho hg (h.s7 (by rw [← hd 7 (by decide)]; exact e)) (by decide), s7' := fun e => owns_apart ho hg (h.s7' (by rw [← hd 7 (by decide)]; exact e)) (by decide),
    s8 := fun e => absurd e (by rw [hd 8 (by decide), h8]; simp), s8' := fun _ => block_apart ho hg (h.s8' h8) (by decide),
    s9 := fun e => block_apart ho hg (h.s9 (by rw [← hd 9 (by decide)]; exact e)) (by decide), s9' := fun e => block_apart ho hg (h.s9' (by rw [← hd 9 (by decide)]; exact e)) (by decide), o8 := fun _ => hi, o9 := (fun e => by rw [hd 7 (by decide)]; exact h.o9 (by rw [← hd 9 (by decide)]; exact e)) }
theorem SInv.op7 {base bL bP : Nat} {W0 : World} {lv pv : Value} {xs ks : List Value} {at_ v : Value} {t12 t13 t14 t15 t16 t17 t18 t19 : Value} {d d' : Nat → Bool} {W : World} {W' : World} {u : Value} (h : SInv base bL bP W0 lv pv xs ks at_ v t12 t13 t14 t15 t16 t17 t18 t19 d W) (hd : ∀ j, j ≠ 7 → d' j = d j) (hi : d' 7 = true) (h7 : d 7 = false) (h9 : d 9 = false) (h3 : d 3 = true)
    (hg : W.grownBy W' pv.ownBlock) (hown : OwnP W' base u (ks ++ [at_])) : SInv base bL bP W0 lv pv xs ks at_ v t12 t13 t14 t15 t16 t17 t18 u d' W' := by
  have ho := h.s7' h7
  exact {
    fr := h.fr.grown ho (.inr rfl) hg, hbase := Nat.le_trans h.hbase hg.size,
    s0 := fun e => h.s0 (by rw [← hd 0 (by decide)]; exact e), s1 := fun e => h.s1 (by rw [← hd 1 (by decide)]; exact e),
    s2 := fun e => by obtain ⟨g, h1, h2⟩ := h.s2 (by rw [← hd 2 (by decide)]; exact e); exact ⟨g, h1, fun e3 => absurd e3 (by rw [hd 3 (by decide), h3]; simp)⟩,
    s3 := fun e => owns_apart ho hg (h.s3 (by rw [← hd 3 (by decide)]; exact e)) (by decide), s3' := fun e => owns_apart ho hg (h.s3' (by rw [← hd 3 (by decide)]; exact e)) (by decide),
    s4 := fun e => h.s4 (by rw [← hd 4 (by decide)]; exact e), s5 := fun e => h.s5 (by rw [← hd 5 (by decide)]; exact e),
    s6 := fun e => by obtain ⟨g, h1, h2⟩ := h.s6 (by rw [← hd 6 (by decide)]; exact e); exact ⟨g, h1, fun e7 => absurd e7 (by rw [hi]; simp)⟩,
    s7 := fun _ => hown, s7' := fun e => absurd e (by rw [hi]; simp),
    s8 := fun e => block_apart ho hg (h.s8 (by rw [← hd 8 (by decide)]; exact e)) (by decide), s8' := fun e => block_apart ho hg (h.s8' (by rw [← hd 8 (by decide)]; exact e)) (by decide),
    s9 := fun e => absurd e (by rw [hd 9 (by decide), h9]; simp), s9' := fun _ => block_apart ho hg (h.s9' h9) (by decide), o8 := (fun e => by rw [hd 3 (by decide)]; exact h.o8 (by rw [← hd 8 (by decide)]; exact e)), o9 := fun _ => hi }
theorem heap_store {W : World} {b : Nat} {t : TypeId} {u x : Value} (h : W.heap[b]? = some (.cells #[x] t (0, 0))) : (W.setCell ⟨b, 0, none⟩ u).heap[b]? = some (.cells #[u] t (0, 0)) := by
  rw [heap_setCell_same W b 0 #[x] t u h]; rfl
theorem SInv.op8 {base bL bP : Nat} {W0 : World} {lv pv : Value} {xs ks : List Value} {at_ v : Value} {t12 t13 t14 t15 t16 t17 t18 t19 : Value} {d d' : Nat → Bool} {W : World} (h : SInv base bL bP W0 lv pv xs ks at_ v t12 t13 t14 t15 t16 t17 t18 t19 d W) (hbb : bL ≠ bP) (hd : ∀ j, j ≠ 8 → d' j = d j) (hi : d' 8 = true) (h8 : d 8 = false) (h3 : d 3 = true) (h7 : d 7 = true) : SInv base bL bP W0 lv pv xs ks at_ v t12 t13 t14 t15 t16 t17 t18 t19 d' (W.setCell ⟨bL, 0, none⟩ t15) := by
  have hb := h.s8' h8
  have hP : ∀ {o : Obj}, W.heap[bP]? = some o → (W.setCell ⟨bL, 0, none⟩ t15).heap[bP]? = some o := fun hk => by rw [Below.heap_setCell _ _ _ _ (Ne.symm hbb)]; exact hk
  exact {
    fr := h.fr.store _ _ _ (.inl rfl), hbase := by simpa [World.setCell] using h.hbase,
    s0 := fun e => h.s0 (by rw [← hd 0 (by decide)]; exact e), s1 := fun e => h.s1 (by rw [← hd 1 (by decide)]; exact e),
    s2 := fun e => by obtain ⟨g, h1, h2⟩ := h.s2 (by rw [← hd 2 (by decide)]; exact e); exact ⟨g, h1, fun e3 => absurd e3 (by rw [hd 3 (by decide), h3]; simp)⟩,
    s3 := fun e => owns_store (h.s3 h3) hb (by decide) _ _, s3' := fun e => absurd e (by rw [hd 3 (by decide), h3]; simp),
    s4 := fun e => h.s4 (by rw [← hd 4 (by decide)]; exact e), s5 := fun e => h.s5 (by rw [← hd 5 (by decide)]; exact e),
    s6 := fun e => by obtain ⟨g, h1, h2⟩ := h.s6 (by rw [← hd 6 (by decide)]; exact e); exact ⟨g, h1, fun e7 => absurd e7 (by rw [hd 7 (by decide), h7]; simp)⟩,
    s7 := fun e => owns_store (h.s7 h7) hb (by decide) _ _, s7' := fun e => absurd e (by rw [hd 7 (by decide), h7]; simp),
    s8 := fun _ => heap_store hb, s8' := fun e => absurd e (by rw [hi]; simp),
    s9 := fun e => hP (h.s9 (by rw [← hd 9 (by decide)]; exact e)), s9' := fun e => hP (h.s9' (by rw [← hd 9 (by decide)]; exact e)), o8 := fun _ => (hd 3 (by decide)).trans h3, o9 := (fun e => by rw [hd 7 (by decide)]; exact h.o9 (by rw [← hd 9 (by decide)]; exact e)) }
theorem SInv.op9 {base bL bP : Nat} {W0 : World} {lv pv : Value} {xs ks : List Value} {at_ v : Value} {t12 t13 t14 t15 t16 t17 t18 t19 : Value} {d d' : Nat → Bool} {W : World} (h : SInv base bL bP W0 lv pv xs ks at_ v t12 t13 t14 t15 t16 t17 t18 t19 d W) (hbb : bL ≠ bP) (hd : ∀ j, j ≠ 9 → d' j = d j) (hi : d' 9 = true) (h9 : d 9 = false) (h3 : d 3 = true) (h7 : d 7 = true) (h8 : d 8 = true) : SInv base bL bP W0 lv pv xs ks at_ v t12 t13 t14 t15 t16 t17 t18 t19 d' (W.setCell ⟨bP, 0, none⟩ t19) := by
  have hb := h.s9' h9
  have hP : ∀ {o : Obj}, W.heap[bL]? = some o → (W.setCell ⟨bP, 0, none⟩ t19).heap[bL]? = some o := fun hk => by rw [Below.heap_setCell _ _ _ _ hbb]; exact hk
  exact {
    fr := h.fr.store _ _ _ (.inr rfl), hbase := by simpa [World.setCell] using h.hbase,
    s0 := fun e => h.s0 (by rw [← hd 0 (by decide)]; exact e), s1 := fun e => h.s1 (by rw [← hd 1 (by decide)]; exact e),
    s2 := fun e => by obtain ⟨g, h1, h2⟩ := h.s2 (by rw [← hd 2 (by decide)]; exact e); exact ⟨g, h1, fun e3 => absurd e3 (by rw [hd 3 (by decide), h3]; simp)⟩,
    s3 := fun e => owns_store (h.s3 h3) hb (by decide) _ _, s3' := fun e => absurd e (by rw [hd 3 (by decide), h3]; simp),
    s4 := fun e => h.s4 (by rw [← hd 4 (by decide)]; exact e), s5 := fun e => h.s5 (by rw [← hd 5 (by decide)]; exact e),
    s6 := fun e => by obtain ⟨g, h1, h2⟩ := h.s6 (by rw [← hd 6 (by decide)]; exact e); exact ⟨g, h1, fun e7 => absurd e7 (by rw [hd 7 (by decide), h7]; simp)⟩,
    s7 := fun e => owns_store (h.s7 h7) hb (by decide) _ _, s7' := fun e => absurd e (by rw [hd 7 (by decide), h7]; simp),
    s8 := fun _ => hP (h.s8 h8), s8' := fun e => absurd e (by rw [hd 8 (by decide), h8]; simp),
    s9 := fun _ => heap_store hb, s9' := fun e => absurd e (by rw [hi]; simp), o8 := fun _ => (hd 3 (by decide)).trans h3, o9 := fun _ => (hd 7 (by decide)).trans h7 }

section
variable (t0 t8 t9 : Value) (bL bP : Nat) (at_ v t12 t13 t14 t15 t16 t17 t18 t19 : Value) (W : World) (pos : String) (aft : Array Edge)
theorem run6_0 (x : Value) (h : W.heap[bL]? = some (.cells #[x] 33 (0, 0))) :
    (execOp (actL t0 t8 t9 bL bP at_ v t12 t13 t14 t15 t16 t17 t18 t19).eval { dst := some 12, op := Op.load 33 (Operand.tmp 4), type := 33, pos := pos, after := aft, guard := none }).run Tryd.prog W = .ok (.value x) W := by
  have hc : W.cell? ⟨bL, 0, none⟩ = some x := by rw [cell_of_row W bL 0 _ _ _ h]; rfl
  simp [actL, go_sem, hc]
theorem run6_4 (x : Value) (h : W.heap[bP]? = some (.cells #[x] 44 (0, 0))) :
    (execOp (actL t0 t8 t9 bL bP at_ v t12 t13 t14 t15 t16 t17 t18 t19).eval { dst := some 16, op := Op.load 44 (Operand.tmp 5), type := 44, pos := pos, after := aft, guard := none }).run Tryd.prog W = .ok (.value x) W := by
  have hc : W.cell? ⟨bP, 0, none⟩ = some x := by rw [cell_of_row W bP 0 _ _ _ h]; rfl
  simp [actL, go_sem, hc]
theorem run6_1 : (execOp (actL t0 t8 t9 bL bP at_ v t12 t13 t14 t15 t16 t17 t18 t19).eval { dst := some 13, op := Op.move (Operand.tmp 7), type := 22, pos := pos, after := aft, guard := none }).run Tryd.prog W = .ok (.value v) W := by
  simp [actL, go_sem]
theorem run6_5 : (execOp (actL t0 t8 t9 bL bP at_ v t12 t13 t14 t15 t16 t17 t18 t19).eval { dst := some 17, op := Op.move (Operand.tmp 6), type := 3, pos := pos, after := aft, guard := none }).run Tryd.prog W = .ok (.value at_) W := by
  simp [actL, go_sem]
theorem run6_2 (ao : Option Addr) (n c : Nat) : (execOp (actL t0 t8 t9 bL bP at_ v t12 (.slice ao n c) t14 t15 t16 t17 t18 t19).eval { dst := some 14, op := Op.buildSlice 33 1 #[(0, Operand.tmp 13)], type := 33, pos := pos, after := aft, guard := none }).run Tryd.prog W =
    .ok (.value (.slice (some ⟨W.heap.size, 0, none⟩) 1 1)) (W.alloc (.cells #[.slice ao n c] 22)) := by
  simp [actL, go_sem]
theorem run6_6 (k : Int) : (execOp (actL t0 t8 t9 bL bP at_ v t12 t13 t14 t15 t16 (.int .i64 k) t18 t19).eval { dst := some 18, op := Op.buildSlice 44 1 #[(0, Operand.tmp 17)], type := 44, pos := pos, after := aft, guard := none }).run Tryd.prog W =
    .ok (.value (.slice (some ⟨W.heap.size, 0, none⟩) 1 1)) (W.alloc (.cells #[.int .i64 k] 3)) := by
  simp [actL, go_sem]
theorem run6_8 (x : Value) (ao : Option Addr) (n c : Nat) (h : W.heap[bL]? = some (.cells #[x] 33 (0, 0))) :
    (execOp (actL t0 t8 t9 bL bP at_ v t12 t13 t14 (.slice ao n c) t16 t17 t18 t19).eval { dst := none, op := Op.store 33 (Operand.tmp 4) (Operand.tmp 15), type := 0, pos := pos, after := aft, guard := none }).run Tryd.prog W = .ok .skip (W.setCell ⟨bL, 0, none⟩ (.slice ao n c)) := by
  have hc : W.cell? ⟨bL, 0, none⟩ = some x := by rw [cell_of_row W bL 0 _ _ _ h]; rfl
  have hf : W.frozen? ⟨bL, 0, none⟩ = false := frozen_of_row W bL 0 _ _ h
  simp [actL, go_sem, hc, hf]
theorem run6_9 (x : Value) (ao : Option Addr) (n c : Nat) (h : W.heap[bP]? = some (.cells #[x] 44 (0, 0))) :
    (execOp (actL t0 t8 t9 bL bP at_ v t12 t13 t14 t15 t16 t17 t18 (.slice ao n c)).eval { dst := none, op := Op.store 44 (Operand.tmp 5) (Operand.tmp 19), type := 0, pos := pos, after := aft, guard := none }).run Tryd.prog W = .ok .skip (W.setCell ⟨bP, 0, none⟩ (.slice ao n c)) := by
  have hc : W.cell? ⟨bP, 0, none⟩ = some x := by rw [cell_of_row W bP 0 _ _ _ h]; rfl
  have hf : W.frozen? ⟨bP, 0, none⟩ = false := frozen_of_row W bP 0 _ _ h
  simp [actL, go_sem, hc, hf]
end

theorem SInv.start (base bL bP : Nat) (W : World) (lv pv : Value) (xs ks : List Value) (at_ v : Value) (d : Nat → Bool) (hd : ∀ j, d j = false) (hbase : base ≤ W.heap.size) (hl : OwnL W base lv xs) (hp : OwnP W base pv ks)
    (hL : W.heap[bL]? = some (.cells #[lv] 33 (0, 0))) (hP : W.heap[bP]? = some (.cells #[pv] 44 (0, 0))) : SInv base bL bP W lv pv xs ks at_ v undef undef undef undef undef undef undef undef d W.drew := by
  have no : ∀ {j : Nat} {p : Prop}, d j = true → p := fun {j} {_} h => absurd h (by rw [hd j]; simp)
  exact { fr := ⟨rfl, rfl, rfl, Nat.le_refl _, fun _ _ _ _ _ _ => rfl⟩, hbase := hbase, s0 := no, s1 := no, s2 := no, s3 := no, s3' := fun _ => hl, s4 := no, s5 := no, s6 := no, s7 := no, s7' := fun _ => hp, s8 := no, s8' := fun _ => hL, s9 := no, s9' := fun _ => hP, o8 := no, o9 := no }

end Go.Proofs.YtmekpmboghmfpaaDoor
