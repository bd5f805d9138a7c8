/- Arrays of 32-bit words in a block of their own: cells, stores, whole loads. No program. -/
import Derived.Test.YtchbnablefoemaaDoorOwn
namespace Go.Proofs.YtchbnablefoemaaDoor
open Go.RowKit

/-- A word. -/
def vw (x : Nat) : Value := .int .u32 (x : Int)
def gw (l : List Nat) (i : Nat) : Nat := l.getD i 0
/-- Words at the cells from a place on. -/
def WAt (w : World) (g o : Nat) (l : List Nat) : Prop := ∀ i, i < l.length → w.cell? ⟨g, o + i, none⟩ = some (vw (gw l i)) ∧ w.frozen? ⟨g, o + i, none⟩ = false
theorem WAt.ext {w w' : World} {g o : Nat} {l : List Nat} (h : WAt w g o l) (hg : g < w.heap.size) (e : Below w.heap.size w w') : WAt w' g o l := fun i hi =>
  ⟨(e.cell (p := ⟨g, o + i, none⟩) hg).trans (h i hi).1, (e.frozen (p := ⟨g, o + i, none⟩) hg).trans (h i hi).2⟩
/-- A block of words. -/
def WA (w : World) (g : Nat) (t : TypeId) (l : List Nat) : Prop := w.heap[g]? = some (.cells (l.map vw).toArray t)
theorem WA.lt {w : World} {g : Nat} {t : TypeId} {l : List Nat} (h : WA w g t l) : g < w.heap.size := (Array.getElem?_eq_some_iff.1 h).1
theorem WA.cell {w : World} {g : Nat} {t : TypeId} {l : List Nat} (h : WA w g t l) (i : Nat) (hi : i < l.length) : w.cell? ⟨g, i, none⟩ = some (.int .u32 (gw l i : Int)) := by
  unfold World.cell?
  simp only [show w.heap[g]? = _ from h]
  simp [gw, vw, List.getD_eq_getElem?_getD, List.getElem?_eq_getElem hi]
theorem WA.frozen {w : World} {g : Nat} {t : TypeId} {l : List Nat} (h : WA w g t l) (i : Nat) : w.frozen? ⟨g, i, none⟩ = false := by
  unfold World.frozen?
  simp only [show w.heap[g]? = _ from h]
  simp
theorem WA.at {w : World} {g : Nat} {t : TypeId} {l : List Nat} (h : WA w g t l) : WAt w g 0 l := fun i hi => by
  rw [Nat.zero_add]
  exact ⟨h.cell i hi, h.frozen i⟩
theorem WA.ext {w w' : World} {g : Nat} {t : TypeId} {l : List Nat} (h : WA w g t l) (e : Below w.heap.size w w') : WA w' g t l := (e.block g h.lt).trans h
theorem WA.set {w : World} {g : Nat} {t : TypeId} {l : List Nat} (h : WA w g t l) (j x : Nat) : WA (w.setCell ⟨g, j, none⟩ (.int .u32 (x : Int))) g t (l.set j x) := by
  have hg := h.lt
  unfold WA at h ⊢
  rw [List.map_set]
  unfold World.setCell
  simp [Array.getElem?_modify, h, vw]
theorem WA.other {w : World} {g g' : Nat} {t : TypeId} {l : List Nat} (h : WA w g t l) (j : Nat) (v : Value) (hne : ¬ g = g') : WA (w.setCell ⟨g', j, none⟩ v) g t l :=
  (Below.heap_setCell w ⟨g', j, none⟩ v g hne).trans h
theorem WA.drew {w : World} {g : Nat} {t : TypeId} {l : List Nat} (h : WA w g t l) : WA w.drew g t l := h
theorem WA.new (w : World) (t : TypeId) (l : List Nat) : WA (w.alloc (.cells (l.map vw).toArray t)) w.heap.size t l := heap_new _ _ rfl
theorem gw_set (l : List Nat) (j x i : Nat) (hj : j < l.length) : gw (l.set j x) i = if j = i then x else gw l i := by
  unfold gw
  by_cases h : j = i
  · subst h; simp [List.getD_eq_getElem?_getD, hj]
  · simp [List.getD_eq_getElem?_getD, h]
end Go.Proofs.YtchbnablefoemaaDoor
