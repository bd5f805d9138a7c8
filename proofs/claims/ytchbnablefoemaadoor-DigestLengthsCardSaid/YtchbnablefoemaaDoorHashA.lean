/- Blocks known whole; the digest's object in memory; the state over many blocks. -/
import Derived.Test.YtchbnablefoemaaDoorDigD
import Derived.Test.YtchbnablefoemaaDoorBlk
namespace Go.Proofs.YtchbnablefoemaaDoor
open Go.RowKit
set_option linter.unusedVariables false

theorem Tabs.grown {w w' : World} {g : Nat} (h : Tabs w) (e : w.grownBy w' (some g)) (h1 : g ≠ 0) (h2 : g ≠ 1) : Tabs w' :=
  ⟨fun j hj => (World.cell?_of_block (e.block _ (World.block_lt_of_cell? w _ (h.1 j hj)) (fun k => h1 (by cases k; rfl)))).trans (h.1 j hj),
   fun j hj => (World.cell?_of_block (e.block _ (World.block_lt_of_cell? w _ (h.2 j hj)) (fun k => h2 (by cases k; rfl)))).trans (h.2 j hj)⟩
theorem Tabs.lt {w : World} (h : Tabs w) : 0 < w.heap.size ∧ 1 < w.heap.size :=
  ⟨World.block_lt_of_cell? w _ (h.1 0 (by decide)), World.block_lt_of_cell? w _ (h.2 0 (by decide))⟩

/-! ### many blocks -/
def hashTo (x : List Nat) (T : List UInt8) : Nat → List Nat
  | 0 => x
  | j + 1 => stirL (hashTo x T j) ((T.drop (64 * j)).take 64)
theorem stirL_length (x : List Nat) (l : List UInt8) : (stirL x l).length = 8 := stirTo_length _ _ 8
theorem stirTo_words (x y : List Nat) (k : Nat) : Words (stirTo x y k) := by
  induction k with
  | zero => intro i; simp [stirTo, gw]
  | succ k ih =>
    intro i
    unfold gw
    rw [stirTo, List.getD_eq_getElem?_getD, List.getElem?_append]
    split
    · have := ih i; unfold gw at this; rwa [List.getD_eq_getElem?_getD] at this
    · rw [List.getElem?_cons]
      split
      · exact Nat.mod_lt _ (by decide)
      · simp
theorem hashTo_length {x : List Nat} (T : List UInt8) (hx : x.length = 8) (j : Nat) : (hashTo x T j).length = 8 := by cases j with
  | zero => exact hx
  | succ j => exact stirL_length _ _
theorem hashTo_words {x : List Nat} (T : List UInt8) (hx : Words x) (j : Nat) : Words (hashTo x T j) := by cases j with
  | zero => exact hx
  | succ j => exact stirTo_words _ _ 8
theorem hashTo_add (x : List Nat) (T : List UInt8) (i j : Nat) : hashTo x T (i + j) = hashTo (hashTo x T i) (T.drop (64 * i)) j := by
  induction j with
  | zero => rfl
  | succ j ih => rw [← Nat.add_assoc, hashTo, hashTo, ih, List.drop_drop, show 64 * i + 64 * j = 64 * (i + j) by omega]
theorem hashTo_append (x : List Nat) (T b : List UInt8) (i : Nat) (h : 64 * i ≤ T.length) : hashTo x (T ++ b) i = hashTo x T i := by
  induction i with
  | zero => rfl
  | succ i ih =>
    rw [hashTo, hashTo, ih (by omega), List.drop_append_of_le_length (by omega), List.take_append_of_le_length (by rw [List.length_drop]; omega)]
def hashL (L : List UInt8) : List Nat := hashTo firstL L (L.length / 64)
def restL (L : List UInt8) : List UInt8 := L.drop (64 * (L.length / 64))
theorem restL_length (L : List UInt8) : (restL L).length = L.length % 64 := by unfold restL; rw [List.length_drop]; omega
theorem more_div (L b : List UInt8) : (L ++ b).length / 64 = L.length / 64 + (restL L ++ b).length / 64 := by
  rw [List.length_append, List.length_append, restL_length]; omega
theorem drop_more (L b : List UInt8) : (L ++ b).drop (64 * (L.length / 64)) = restL L ++ b := by
  unfold restL
  rw [List.drop_append_of_le_length (by omega)]
theorem hashL_more (L b : List UInt8) : hashTo (hashL L) (restL L ++ b) ((restL L ++ b).length / 64) = hashL (L ++ b) := by
  unfold hashL
  rw [more_div L b, hashTo_add, drop_more, hashTo_append firstL L b (L.length / 64) (by omega)]
theorem restL_more (L b : List UInt8) : (restL L ++ b).drop (64 * ((restL L ++ b).length / 64)) = restL (L ++ b) := by
  conv => rhs; rw [restL, more_div L b]
  rw [show 64 * (L.length / 64 + (restL L ++ b).length / 64) = 64 * (L.length / 64) + 64 * ((restL L ++ b).length / 64) by omega, ← List.drop_drop, drop_more]
theorem firstL_words : Words firstL := fun i => by
  have h : ∀ x ∈ firstL, x < 4294967296 := by decide
  unfold gw
  by_cases hi : i < firstL.length
  · rw [List.getD_eq_getElem?_getD, List.getElem?_eq_getElem hi]; exact h _ (List.getElem_mem hi)
  · rw [List.getD_eq_getElem?_getD, List.getElem?_eq_none (by omega)]; exact (by decide : (0 : Nat) < 4294967296)
theorem hashL_words (L : List UInt8) : Words (hashL L) := hashTo_words _ firstL_words _
theorem hashL_length (L : List UInt8) : (hashL L).length = 8 := hashTo_length _ rfl _

/-! ### the object -/
/-- The cells of a digest.Hash that a call made. -/
def hcs (x : List Nat) (R : Value) (n : Nat) : List Value := x.map vw ++ [R, .int .i64 (n : Int), .bool true]
theorem hcs_8 {x : List Nat} (hx : x.length = 8) (R : Value) (n : Nat) : (hcs x R n)[8]? = some R ∧ (hcs x R n)[9]? = some (.int .i64 (n : Int)) ∧ (hcs x R n)[10]? = some (.bool true) := by
  simp [hcs, hx]
theorem hcs_set8 {x : List Nat} (hx : x.length = 8) (R R' : Value) (n : Nat) : (hcs x R n).set 8 R' = hcs x R' n := by simp [hcs, hx]
theorem hcs_set9 {x : List Nat} (hx : x.length = 8) (R : Value) (n m : Nat) : (hcs x R n).set 9 (.int .i64 (m : Int)) = hcs x R m := by simp [hcs, hx]
theorem hcs_words {x y : List Nat} (hx : x.length = 8) (hy : y.length = 8) (R : Value) (n : Nat) : (hcs x R n).take 0 ++ y.map vw ++ (hcs x R n).drop (0 + (y.map vw).length) = hcs y R n := by
  simp [hcs, hx, hy]
theorem hcs_at {w : World} {g : Nat} {x : List Nat} {R : Value} {n : Nat} (h : BK w g 29 (hcs x R n)) : WAt w g 0 x := fun i hi => by
  rw [Nat.zero_add]
  refine ⟨h.cell ?_, h.frozen i⟩
  simp [hcs, List.getElem?_append, hi, gw, List.getD_eq_getElem?_getD]
/-- A hash at g that was given L; its rest lies at R. -/
def HashIs (w : World) (g : Nat) (R : Option Addr) (L : List UInt8) : Prop :=
  ∃ c, BK w g 29 (hcs (hashL L) (.slice R (restL L).length c) L.length) ∧ RB w R (restL L) ∧ (restL L).length ≤ c
theorem HashIs.lt {w : World} {g : Nat} {R : Option Addr} {L : List UInt8} (h : HashIs w g R L) : g < w.heap.size := by obtain ⟨c, hK, _⟩ := h; exact hK.lt
theorem HashIs.ext {w w' : World} {g : Nat} {R : Option Addr} {L : List UInt8} (h : HashIs w g R L) (e : Below w.heap.size w w') : HashIs w' g R L := by
  obtain ⟨c, hK, hR, hc⟩ := h; exact ⟨c, hK.ext e, hR.ext e, hc⟩
theorem HashIs.other {w w' : World} {g g' : Nat} {R : Option Addr} {L : List UInt8} (h : HashIs w g R L) (e : w.grownBy w' (some g')) (hne : g ≠ g') (ho : Off g' R) : HashIs w' g R L := by
  obtain ⟨c, hK, hR, hc⟩ := h
  exact ⟨c, hK.same (e.block g hK.lt (fun k => hne (by cases k; rfl))), hR.grown e (fun _ => ho), hc⟩
end Go.Proofs.YtchbnablefoemaaDoor
