/- digest: rotations, the schedule. -/
import Derived.Test.YtchbnablefoemaaDoorArr
import Derived.Test.YtchbnablefoemaaDoorChecked
import Derived.Test.YtchbnablefoemaaDoorAny
import Derived.BigRegion
import Derived.Deep.QuietTactic
import Derived.BigQuiet
namespace Go.Proofs.YtchbnablefoemaaDoor
open Go.RowKit
set_option linter.unusedVariables false

def M32 : Nat := 4294967296
def rotr (x n : Nat) : Nat := (x * 2 ^ (32 - n)) % 4294967296 ||| x / 2 ^ n
theorem or_lt32 {a b : Nat} (h : a < 4294967296) (k : b < 4294967296) : a ||| b < 4294967296 := Nat.or_lt_two_pow (n := 32) h k
theorem xor_lt32 {a b : Nat} (h : a < 4294967296) (k : b < 4294967296) : a ^^^ b < 4294967296 := Nat.xor_lt_two_pow (n := 32) h k
theorem and_lt32 {a b : Nat} (h : a < 4294967296) : a &&& b < 4294967296 := Nat.lt_of_le_of_lt Nat.and_le_left h
theorem rotr_lt (x n : Nat) (h : x < 4294967296) : rotr x n < 4294967296 := or_lt32 (Nat.mod_lt _ (by decide)) (Nat.lt_of_le_of_lt (Nat.div_le_self _ _) h)

set_option maxHeartbeats 1000000 in
theorem rot_calls (x r : Nat) (hx : x < 4294967296) (h1 : 1 ≤ r) (h2 : r ≤ 31) (w : World) :
    Calls Tryd.prog 24 #[.int .u32 (x : Int), .int .i64 (-(r : Int))] w fun e w' => e = .returned (.int .u32 (rotr x r : Nat)) ∧ w = w' := by
  obtain ⟨s, hs⟩ : ∃ s, 32 - r = s := ⟨_, rfl⟩
  have hw : IntKind.u64.wrap (-(r : Int)) = ((18446744073709551616 - r : Nat) : Int) := by
    have h : ∀ y : Int, IntKind.u64.wrap y = y % 18446744073709551616 := fun y => by simp [IntKind.wrap, IntKind.bits, IntKind.signed]
    rw [h]; omega
  have ha : bits BinOp.and IntKind.u64 (IntKind.u64.wrap (-(r : Int))) 31 = (s : Int) := by
    rw [hw]
    have e := and_u64 (18446744073709551616 - r) 31 (by omega) (by decide)
    have e2 : (18446744073709551616 - r) &&& 31 = (18446744073709551616 - r) % 32 := Nat.and_two_pow_sub_one_eq_mod _ 5
    rw [e2] at e
    rw [show (31 : Int) = ((31 : Nat) : Int) from rfl, e]
    congr 1
    omega
  have hr : (32 : Int) - (s : Int) = (r : Int) := by omega
  have hs0 : (0 : Int) ≤ s := by omega
  have hr0 : (0 : Int) ≤ r := by omega
  have hs1 : (s : Int) ≤ 32 := by omega
  have HS := Lib.hid hs
  clear hs hw
  go_enter Tryd.func24, Tryd.ntmps24
  go_wp2_with fail
  go_ret
  refine ⟨?_, rfl⟩
  have e := or_u32 (x * 2 ^ s % 4294967296) (x / 2 ^ r) (Nat.mod_lt _ (by decide)) (Nat.lt_of_le_of_lt (Nat.div_le_self _ _) hx)
  have e1 : ((x * 2 ^ s % 4294967296 : Nat) : Int) = (x : Int) * 2 ^ s % 4294967296 := by simp
  have e2 : ((x / 2 ^ r : Nat) : Int) = (x : Int) / 2 ^ r := by simp
  rw [e1, e2] at e
  rw [← HS.out] at e ⊢
  exact ret_int e

def be4 (l : List UInt8) (i : Nat) : Nat := gb l (4 * i) * 16777216 ||| gb l (4 * i + 1) * 65536 ||| gb l (4 * i + 2) * 256 ||| gb l (4 * i + 3)
def sg0 (x : Nat) : Nat := rotr x 7 ^^^ rotr x 18 ^^^ x / 8
def sg1 (x : Nat) : Nat := rotr x 17 ^^^ rotr x 19 ^^^ x / 1024
def wNext (W : List Nat) (i : Nat) : Nat := (gw W (i - 16) + sg0 (gw W (i - 15)) + gw W (i - 7) + sg1 (gw W (i - 2))) % 4294967296
def spr1 (l : List UInt8) : Nat → List Nat
  | 0 => List.replicate 64 0
  | k + 1 => (spr1 l k).set k (be4 l k)
def spr2 (l : List UInt8) : Nat → List Nat
  | 0 => spr1 l 16
  | k + 1 => (spr2 l k).set (16 + k) (wNext (spr2 l k) (16 + k))
def spreadL (l : List UInt8) : List Nat := spr2 l 48
theorem spr1_length (l : List UInt8) (k : Nat) : (spr1 l k).length = 64 := by induction k with
  | zero => simp [spr1]
  | succ k ih => simp [spr1, ih]
theorem spr2_length (l : List UInt8) (k : Nat) : (spr2 l k).length = 64 := by induction k with
  | zero => exact spr1_length l 16
  | succ k ih => simp [spr2, ih]
def Words (l : List Nat) : Prop := ∀ i, gw l i < 4294967296
theorem Words.set {l : List Nat} (h : Words l) {j x : Nat} (hx : x < 4294967296) : Words (l.set j x) := fun i => by
  by_cases hj : j < l.length
  · rw [gw_set l j x i hj]; split
    · exact hx
    · exact h i
  · rw [List.set_eq_of_length_le (by omega)]; exact h i
theorem be4_lt (l : List UInt8) (i : Nat) : be4 l i < 4294967296 := by
  have h0 := gb_lt l (4 * i); have h1 := gb_lt l (4 * i + 1); have h2 := gb_lt l (4 * i + 2); have h3 := gb_lt l (4 * i + 3)
  exact or_lt32 (or_lt32 (or_lt32 (by omega) (by omega)) (by omega)) (by omega)
theorem wNext_lt (W : List Nat) (i : Nat) : wNext W i < 4294967296 := Nat.mod_lt _ (by decide)
theorem words_replicate : Words (List.replicate 64 0) := fun i => by
  unfold gw
  rw [List.getD_eq_getElem?_getD, List.getElem?_replicate]
  split <;> simp
theorem spr1_words (l : List UInt8) (k : Nat) : Words (spr1 l k) := by induction k with
  | zero => exact words_replicate
  | succ k ih => exact ih.set (be4_lt l k)
theorem spr2_words (l : List UInt8) (k : Nat) : Words (spr2 l k) := by induction k with
  | zero => exact spr1_words l 16
  | succ k ih => exact ih.set (wNext_lt _ _)
theorem sg0_lt (x : Nat) (h : x < 4294967296) : sg0 x < 4294967296 := xor_lt32 (xor_lt32 (rotr_lt x 7 h) (rotr_lt x 18 h)) (by omega)
theorem sg1_lt (x : Nat) (h : x < 4294967296) : sg1 x < 4294967296 := xor_lt32 (xor_lt32 (rotr_lt x 17 h) (rotr_lt x 19 h)) (by omega)
end Go.Proofs.YtchbnablefoemaaDoor
