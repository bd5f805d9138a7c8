/- Blocks known whole; what stays where one block is written. No program. -/
import Derived.Test.YtjhnnnklfhbebaaOwn
import Derived.Deep.MidRow
import Derived.Deep.Cut
namespace Go.Proofs.Ytjhnnnklfhbebaa
open Go.RowKit
set_option linter.unusedVariables false

/-! ### blocks known whole -/
def BK (w : World) (g : Nat) (t : TypeId) (cs : List Value) : Prop := w.heap[g]? = some (.cells cs.toArray t)
section
variable {w w' : World} {g : Nat} {t : TypeId} {cs : List Value}
theorem BK.lt (h : BK w g t cs) : g < w.heap.size := (Array.getElem?_eq_some_iff.1 h).1
theorem BK.cell (h : BK w g t cs) {i : Nat} {v : Value} (hi : cs[i]? = some v) : w.cell? ⟨g, i, none⟩ = some v := by
  unfold World.cell?
  simp only [show w.heap[g]? = _ from h]
  simp [hi]
theorem BK.frozen (h : BK w g t cs) (i : Nat) : w.frozen? ⟨g, i, none⟩ = false := by
  unfold World.frozen?
  simp only [show w.heap[g]? = _ from h]
  simp
theorem BK.same (h : BK w g t cs) (e : w'.heap[g]? = w.heap[g]?) : BK w' g t cs := e.trans h
theorem BK.ext (h : BK w g t cs) (e : Below w.heap.size w w') : BK w' g t cs := (e.block g h.lt).trans h
theorem BK.set (h : BK w g t cs) (j : Nat) (v : Value) : BK (w.setCell ⟨g, j, none⟩ v) g t (cs.set j v) := by
  unfold BK at h ⊢
  unfold World.setCell
  simp [Array.getElem?_modify, h]
theorem BK.new (w : World) (t : TypeId) (cs : List Value) : BK (w.alloc (.cells cs.toArray t)) w.heap.size t cs := heap_new _ _ rfl
theorem BK.drew (h : BK w g t cs) : BK w.drew g t cs := h
end
theorem heap_setCells_ne (g k : Nat) (h : k ≠ g) : ∀ (vs : List Value) (o : Nat) (w : World), (w.setCells g o vs).heap[k]? = w.heap[k]?
  | [], _, _ => rfl
  | v :: r, o, w => by
    rw [World.setCells, heap_setCells_ne g k h r (o + 1)]
    exact Below.heap_setCell w ⟨g, o, none⟩ v k h
theorem size_setCells (g : Nat) : ∀ (vs : List Value) (o : Nat) (w : World), (w.setCells g o vs).heap.size = w.heap.size
  | [], _, _ => rfl
  | v :: r, o, w => by
    rw [World.setCells, size_setCells g r (o + 1)]
    simp
theorem rest_setCells (g : Nat) : ∀ (vs : List Value) (o : Nat) (w : World), (w.setCells g o vs).os = w.os ∧ (w.setCells g o vs).tape = w.tape ∧ (w.setCells g o vs).output = w.output
  | [], _, _ => ⟨rfl, rfl, rfl⟩
  | v :: r, o, w => by
    rw [World.setCells]
    exact rest_setCells g r (o + 1) (w.setCell ⟨g, o, none⟩ v)
theorem BK.setCells {g : Nat} {t : TypeId} : ∀ (vs : List Value) (o : Nat) (cs : List Value) (w : World), BK w g t cs → o + vs.length ≤ cs.length → BK (w.setCells g o vs) g t (cs.take o ++ vs ++ cs.drop (o + vs.length))
  | [], o, cs, w, h, hl => by simpa [World.setCells] using h
  | v :: r, o, cs, w, h, hl => by
    rw [World.setCells]
    have := BK.setCells r (o + 1) (cs.set o v) _ (h.set o v) (by simp at hl ⊢; omega)
    have e : (cs.set o v).take (o + 1) ++ r ++ (cs.set o v).drop (o + 1 + r.length) = cs.take o ++ (v :: r) ++ cs.drop (o + (v :: r).length) := by
      rw [List.drop_set_of_lt (by omega), List.take_add_one, List.take_set_of_le (Nat.le_refl _)]
      simp at hl
      rw [List.getElem?_set_self (by omega)]
      simp [Nat.add_assoc, Nat.add_comm 1]
    rw [e] at this
    exact this

/-- Only new blocks, and one old one, differ. -/
theorem grown_refl (w : World) (row : Option Nat) : w.grownBy w row := World.grownBy.refl _ _
theorem grown_trans {a b c : World} {row : Option Nat} (h : a.grownBy b row) (k : b.grownBy c row) : a.grownBy c row :=
  ⟨k.os.trans h.os, k.tape.trans h.tape, k.output.trans h.output, Nat.le_trans h.size k.size, fun i hi hr => (k.block i (Nat.lt_of_lt_of_le hi h.size) hr).trans (h.block i hi hr)⟩
theorem grown_of_below {a b : World} (h : Below a.heap.size a b) (row : Option Nat) : a.grownBy b row := ⟨h.os, h.tape, h.output, h.size, fun i hi _ => h.block i hi⟩
theorem grown_setCells (w : World) (g o : Nat) (vs : List Value) : w.grownBy (w.setCells g o vs) (some g) :=
  ⟨(rest_setCells g vs o w).1, (rest_setCells g vs o w).2.1, (rest_setCells g vs o w).2.2, by rw [size_setCells]; exact Nat.le_refl _, fun i _ hr => heap_setCells_ne g i (fun e => hr (by rw [e])) vs o w⟩
/-- Out of what was there ahead of a call: one block of the call's own, from B on, may differ. -/
theorem below_grown {B : Nat} {a w w' : World} {g : Nat} (h : Below B a w) (hg : w.grownBy w' (some g)) (hB : B ≤ w.heap.size) (hgB : B ≤ g) : Below B a w' := h.grown hg hB fun k hk => by cases hk; exact hgB
/-- A slice does not lie in block g. -/
def Off (g : Nat) (R : Option Addr) : Prop := ∀ b o, R = some ⟨b, o, none⟩ → b ≠ g
/-- A slice lies in a block from B on. -/
def From (B : Nat) (R : Option Addr) : Prop := ∀ b o, R = some ⟨b, o, none⟩ → B ≤ b
theorem From.off {B g : Nat} {R : Option Addr} (h : From B R) (hg : g < B) : Off g R := fun b o e => by have := h b o e; omega
theorem From.mono {B B' : Nat} {R : Option Addr} (h : From B R) (hB : B' ≤ B) : From B' R := fun b o e => Nat.le_trans hB (h b o e)
theorem RB.grown {w w' : World} {A : Option Addr} {l : List UInt8} {g : Nat} (h : RB w A l) (e : w.grownBy w' (some g)) (ho : 0 < l.length → Off g A) : RB w' A l := fun i hi => by
  obtain ⟨b, o, rfl, hc⟩ := h i hi
  have hlt := World.block_lt_of_cell? w _ hc
  have hne := ho (by omega) b o rfl
  exact ⟨b, o, rfl, (World.cell?_of_block (e.block b hlt (fun k => hne (by cases k; rfl)))).trans hc⟩
theorem RBB.grown {w w' : World} {A : Option Addr} {ls : List (List UInt8)} {g : Nat} (h : RBB w A ls) (e : w.grownBy w' (some g)) (hlt : w.heap.size ≤ g ∨ True) (ho : ∀ b, b < w.heap.size → b ≠ g) : RBB w' A ls := fun i hi => by
  obtain ⟨b, o, A', c, rfl, hc, hr, hl⟩ := h i hi
  have hb := World.block_lt_of_cell? w _ hc
  refine ⟨b, o, A', c, rfl, (World.cell?_of_block (e.block b hb (fun k => ho b hb (by cases k; rfl)))).trans hc, ?_, hl⟩
  intro j hj
  obtain ⟨b', o', e', hc'⟩ := hr j hj
  have hb' := World.block_lt_of_cell? w _ hc'
  exact ⟨b', o', e', (World.cell?_of_block (e.block b' hb' (fun k => ho b' hb' (by cases k; rfl)))).trans hc'⟩
theorem RB.off {w : World} {A : Option Addr} {l : List UInt8} (h : RB w A l) {g : Nat} (hg : w.heap.size ≤ g) (h0 : 0 < l.length) : Off g A := fun b1 o1 e1 => by
  obtain ⟨b2, o2, e2, hc2⟩ := h 0 h0
  have hlt := World.block_lt_of_cell? w _ hc2
  rw [e2] at e1
  cases e1
  simp only at hlt
  omega
theorem RBB.part {w wr : World} {A : Option Addr} {ls : List (List UInt8)} (h : RBB w A ls) (e : Below w.heap.size w wr) {k : Nat} (hk : k < ls.length) :
    ∃ b o A' c', A = some ⟨b, o, none⟩ ∧ wr.cell? ⟨b, o + k, none⟩ = some (.slice A' (ls.getD k []).length c') ∧ RB wr A' (ls.getD k []) ∧ (ls.getD k []).length ≤ c' ∧ ∀ g, w.heap.size ≤ g → 0 < (ls.getD k []).length → Off g A' := by
  obtain ⟨b, o, A', c', rfl, hc, hr, hl⟩ := h k hk
  exact ⟨b, o, A', c', rfl, (e.cell (p := ⟨b, o + k, none⟩) (World.block_lt_of_cell? w _ hc)).trans hc, hr.ext e, hl, fun g hg h0 => hr.off hg h0⟩
/-- The world under a name of its own, with what is known of it. -/
theorem name_world {P : Program} {c : Code} {Q : Exit → Act → World → Prop} {a : Act} {w : World} (F : World → Prop) (hF : F w) (h : ∀ w', F w' → Code.wp P c Q a w') : Code.wp P c Q a w := h w hF
theorem name_world_list {P : Program} {ops : Array Oper} {Q : Exit → Act → World → Prop} {rest : List Oper} {a : Act} {w : World} (F : World → Prop) (hF : F w) (h : ∀ w', F w' → wpList P ops Q rest a w') : wpList P ops Q rest a w := h w hF
theorem Below.setRow {B : Nat} {a w : World} (h : Below B a w) {g : Nat} (hg : B ≤ g) (cs : Array Value) : Below B a (w.setRow g cs) :=
  ⟨h.os, h.tape, h.output, by simpa [World.setRow] using h.size, fun k hk => (setRow_other w g k cs (by omega)).trans (h.block k hk)⟩
theorem size_setRow (w : World) (g : Nat) (cs : Array Value) : (w.setRow g cs).heap.size = w.heap.size := by simp [World.setRow]
/-- A whole store into a block: the world behind it under a name of its own. -/
theorem wpList_store_bk {P : Program} {ops : Array Oper} {rest : List Oper} {o : Oper} {a : Act} {w : World} {Q : Exit → Act → World → Prop} (hgd : o.guard = none) (ty : TypeId) (x y : Operand) (ho : o.op = .store ty x y)
    (g : Nat) (cs : List Value) (hx : a.eval x = .pointer (some ⟨g, 0, none⟩)) (hy : a.eval y = .agg cs.toArray)
    (t : TypeId) (old : Array Value) (hg : w.heap[g]? = some (.cells old t (0, 0))) (hi : (P.info? ty).map (·.size) = some cs.toArray.size) (hold : old.size = cs.toArray.size) (h1 : cs.toArray.all (·.oneCell') = true)
    (h : ∀ w', BK w' g t cs → w.grownBy w' (some g) → w'.heap.size = w.heap.size → wpList P ops Q rest (a.put o.dst undef) w') : wpList P ops Q (o :: rest) a w :=
  wpList_store_row hgd ty x y ho g _ hx hy t old hg hi hold h1 (h _ (setRow_heap w g _ _ _ _ hg)
    ⟨rfl, rfl, rfl, by rw [size_setRow]; exact Nat.le_refl _, fun k _ hk => setRow_other w g k _ (fun e => hk (by rw [e]))⟩ (size_setRow _ _ _))
theorem cell_heap {w : World} {g : Nat} {cs : Array Value} {t : TypeId} {fr : Nat × Nat} (h : w.heap[g]? = some (.cells cs t fr)) {i : Nat} {v : Value} (hi : cs[i]? = some v) : w.cell? ⟨g, i, none⟩ = some v := by
  unfold World.cell?
  simp only [h]
  simp [hi]
end Go.Proofs.Ytjhnnnklfhbebaa
