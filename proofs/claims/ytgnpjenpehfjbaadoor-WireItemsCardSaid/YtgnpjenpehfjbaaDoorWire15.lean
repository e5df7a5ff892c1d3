/- Wire: a packet's fields and bytes (by program: wip/tools/gen_wire15.py). -/
import Derived.Test.YtgnpjenpehfjbaaDoorWire14
import Derived.Test.YtgnpjenpehfjbaaDoorWire8
import Derived.Test.YtgnpjenpehfjbaaDoorCodeFields
import Derived.Test.YtgnpjenpehfjbaaDoorSealOpen2
namespace Go.Proofs.YtgnpjenpehfjbaaDoor
open Go.RowKit

def nF (k : Int) (x : Int) : Fld := ⟨k, x, [], false⟩
def headF (p : Pkt) : List Fld := [nF 1 p.kind, nF 1 p.frm, nF 1 p.to, nF 1 p.boot, nF 1 p.life, nF 1 p.echo, nF 1 p.elife, nF 1 p.items.length]
def itemF (x : Itm) : List Fld := [⟨3, 0, x.name, false⟩, nF 1 x.epoch, nF 1 x.maker, ⟨4, 0, [], x.alive⟩, nF 1 x.kind, nF 1 x.scale, nF 1 x.ver, nF 1 x.writer, nF 2 x.flow, ⟨4, 0, [], x.hasRest⟩, nF 2 x.rest,
  ⟨4, 0, [], x.mn.has⟩, nF 2 x.mn.val, nF 1 x.mn.org, nF 1 x.mn.age, ⟨4, 0, [], x.mx.has⟩, nF 2 x.mx.val, nF 1 x.mx.org, nF 1 x.mx.age]
def bodyB (p : Pkt) : List UInt8 := (headF p).flatMap fbytes ++ p.items.flatMap fun x => (itemF x).flatMap fbytes
def encB (p : Pkt) : List UInt8 := if fitP p then frameOf (bodyB p) else []
theorem nF_right {x : Int} (h : 0 ≤ x) : rightB (nF 1 x) = true := by simp [rightB, nF, h]
theorem nF_ok {k x : Int} (h0 : -9223372036854775808 ≤ x) (h1 : x < 9223372036854775808) : FldOk (nF k x) := ⟨h0, h1, by simp [nF]⟩
theorem fit_bounds {p : Pkt} (h : fitP p = true) : (1 ≤ p.kind ∧ p.kind ≤ 5) ∧ (0 ≤ p.frm ∧ p.frm < 16) ∧ (0 ≤ p.to ∧ p.to < 16) ∧ (1 ≤ p.boot ∧ p.boot ≤ 1099511627776) ∧ (0 ≤ p.life ∧ p.life ≤ 1099511627776) ∧ (0 ≤ p.echo ∧ p.echo ≤ 1099511627776) ∧ (0 ≤ p.elife ∧ p.elife ≤ 1099511627776) ∧ p.items.length ≤ 8 := by
  unfold fitP hdrB echoB tailP at h
  simp only [Bool.and_eq_true, decide_eq_true_eq, nodeB_iff, inB_iff] at h
  obtain ⟨⟨h1, h2, h3, h4, -, h5, h6⟩, h7, h8⟩ := h
  have he : (0 ≤ p.echo ∧ p.echo ≤ 1099511627776) ∧ (0 ≤ p.elife ∧ p.elife ≤ 1099511627776) := by
    by_cases hk : p.kind = 1
    · rw [if_pos hk] at h7
      simp at h7
      omega
    · rw [if_neg hk] at h7
      simp only [Bool.and_eq_true, inB_iff] at h7
      omega
  have hl : p.items.length ≤ 8 := by
    by_cases hk : p.kind = 3 ∨ p.kind = 4
    · rw [if_pos hk] at h8
      simp at h8
      omega
    · rw [if_neg hk] at h8
      simp at h8
      rw [h8]; simp
  exact ⟨⟨h1, h2⟩, h3, h4, h5, h6, he.1, he.2, hl⟩
theorem headF_ok {p : Pkt} (h : fitP p = true) : (∀ f ∈ headF p, rightB f = true) ∧ ∀ f ∈ headF p, FldOk f := by
  obtain ⟨h1, h2, h3, h4, h5, h6, h7, h8⟩ := fit_bounds h
  constructor
  · intro f hf
    simp only [headF, List.mem_cons, List.not_mem_nil, or_false] at hf
    rcases hf with rfl | rfl | rfl | rfl | rfl | rfl | rfl | rfl <;> exact nF_right (by omega)
  · intro f hf
    simp only [headF, List.mem_cons, List.not_mem_nil, or_false] at hf
    rcases hf with rfl | rfl | rfl | rfl | rfl | rfl | rfl | rfl <;> exact nF_ok (by omega) (by omega)
theorem nF_len {x : Int} (h0 : 0 ≤ x) (h1 : x < 9223372036854775808) : (fbytes (nF 1 x)).length ≤ 10 := by
  have := (vint_len x.toNat (by omega)).2
  simpa [fbytes, nF] using this
theorem headF_len {p : Pkt} (h : fitP p = true) : ((headF p).flatMap fbytes).length ≤ 80 := by
  obtain ⟨h1, h2, h3, h4, h5, h6, h7, h8⟩ := fit_bounds h
  simp only [headF, List.flatMap_cons, List.flatMap_nil, List.length_append, List.length_nil]
  have e1 := nF_len (x := p.kind) (by omega) (by omega)
  have e2 := nF_len (x := p.frm) (by omega) (by omega)
  have e3 := nF_len (x := p.to) (by omega) (by omega)
  have e4 := nF_len (x := p.boot) (by omega) (by omega)
  have e5 := nF_len (x := p.life) (by omega) (by omega)
  have e6 := nF_len (x := p.echo) (by omega) (by omega)
  have e7 := nF_len (x := p.elife) (by omega) (by omega)
  have e8 := nF_len (x := (p.items.length : Int)) (by omega) (by omega)
  omega
theorem headF_bytes {p : Pkt} (h : fitP p = true) : fieldsB (headF p) = (headF p).flatMap fbytes := by
  unfold fieldsB
  rw [if_pos (List.all_eq_true.2 (headF_ok h).1)]
theorem InvV.below {q g cap : Nat} {ps : List Plc} {W W' : World} (h : InvV q g cap ps W) (hb : Below W.heap.size W W') : InvV q g cap ps W' :=
  ⟨stays h.1 hb, Nat.lt_of_lt_of_le h.2.1 hb.size, h.2.2.below h.2.1 hb⟩
/-- the head's places, read -/
theorem head_gets (p : Pkt) (v : Value) (pb cb : Nat) (W : World) (hp : W.heap[pb]? = some (.cells (p.cells v).toArray 24 (0, 0))) (hc : W.heap[cb]? = some (.cells #[.int .i64 (p.items.length : Int)] 3 (0, 0))) (k : Nat) (hk : k < (headP pb cb).length) :
    Calls Tryd.prog 57 #[((headP pb cb).getD k nilP).val] W fun e w' => e = .returned ((headF p).getD k nilF).val ∧ Below W.heap.size W w' := by
  have hpl := (Array.getElem?_eq_some_iff.1 hp).1
  have hcl := (Array.getElem?_eq_some_iff.1 hc).1
  have hk8 : k < 8 := hk
  rcases (show k = 0 ∨ k = 1 ∨ k = 2 ∨ k = 3 ∨ k = 4 ∨ k = 5 ∨ k = 6 ∨ k = 7 by omega) with rfl | rfl | rfl | rfl | rfl | rfl | rfl | rfl
  · exact get_1 1 p.kind pb 0 W hpl (cell_of_row _ _ 0 _ _ _ hp)
  · exact get_1 1 p.frm pb 1 W hpl (cell_of_row _ _ 1 _ _ _ hp)
  · exact get_1 1 p.to pb 2 W hpl (cell_of_row _ _ 2 _ _ _ hp)
  · exact get_0 1 p.boot pb 3 W hpl (cell_of_row _ _ 3 _ _ _ hp)
  · exact get_0 1 p.life pb 4 W hpl (cell_of_row _ _ 4 _ _ _ hp)
  · exact get_0 1 p.echo pb 5 W hpl (cell_of_row _ _ 5 _ _ _ hp)
  · exact get_0 1 p.elife pb 6 W hpl (cell_of_row _ _ 6 _ _ _ hp)
  · exact get_1 1 p.items.length cb 0 W hcl (cell_of_row _ _ 0 _ _ _ hc)
/-- the head's fields, out of the head's iterator -/
theorem head_fields (p : Pkt) (v : Value) (pb cb q g : Nat) (w : World) (hp : w.heap[pb]? = some (.cells (p.cells v).toArray 24 (0, 0))) (hc : w.heap[cb]? = some (.cells #[.int .i64 (p.items.length : Int)] 3 (0, 0))) (hi : InvV q g 8 (headP pb cb) w) :
    Calls Tryd.prog 33 #[.func (.func 76) #[] #[.pointer (some ⟨q, 0, none⟩)]] w fun e w' => ∃ v, e = .returned v ∧ OwnF w' w.heap.size v (headF p) ∧ Below w.heap.size w w' :=
  fields_any _ _ (headP pb cb) (headF p) (InvV q g 8 (headP pb cb)) _ (enters_of Tryd.func76 (by kernel_rfl) rfl) (fun m => (values1_iter q g 8 (headP pb cb) (by simp [headP]) m).toT) w rfl (by simp [headP])
    (fun W hb => hi.below hb) (fun W k hb hk => head_gets p v pb cb W (stays hp hb) (stays hc hb) k hk)

end Go.Proofs.YtgnpjenpehfjbaaDoor
