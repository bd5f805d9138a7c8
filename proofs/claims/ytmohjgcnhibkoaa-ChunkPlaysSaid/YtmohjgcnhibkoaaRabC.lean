/- rabin's tables: what they hold, in numbers. No program. -/
import Derived.Test.YtmohjgcnhibkoaaPoly
import Derived.Test.YtmohjgcnhibkoaaBlk
namespace Go.Proofs.Ytmohjgcnhibkoaa
open Go.RowKit
set_option linter.unusedVariables false

/-- A word of 64 bits as a value. -/
def vq (x : Nat) : Value := .int .u64 (x : Int)
/-- Both tables are made so: a function's values as far as k, noughts behind. -/
def tabTo (f : Nat → Nat) (k : Nat) : List Nat := (List.range k).map f ++ List.replicate (256 - k) 0
theorem tabTo_length (f : Nat → Nat) (k : Nat) (h : k ≤ 256) : (tabTo f k).length = 256 := by simp [tabTo]; omega
theorem tabTo_set (f : Nat → Nat) (k : Nat) (h : k < 256) : (tabTo f k).set k (f k) = tabTo f (k + 1) := by
  obtain ⟨d, hd⟩ : ∃ d, 256 - k = d + 1 := ⟨255 - k, by omega⟩
  unfold tabTo
  rw [hd, show 256 - (k + 1) = d by omega, List.set_append, if_neg (by simp), List.replicate_succ, List.range_succ]
  simp
theorem tabTo_zero (f : Nat → Nat) : tabTo f 0 = List.replicate 256 0 := rfl
theorem tabTo_get (f : Nat → Nat) (i : Nat) (h : i < 256) : (tabTo f 256)[i]? = some (f i) := by
  unfold tabTo
  rw [List.getElem?_append_left (by simpa using h)]
  simp [h]
def upN (p i : Nat) : Nat := md (i * 2147483648) p
def outN (p i : Nat) : Nat := md (i * 2 ^ 120) p
def zs : List Nat := List.replicate 256 0
/-- The cells of a rabin.Table: the Once (done, the lock's state and sema), both tables, the polynomial. -/
def tcs (d st : Int) (up out : List Nat) (p : Nat) : List Value := .int .u32 d :: .int .i32 st :: .int .u32 0 :: (up.map vq ++ (out.map vq ++ [.int .u64 (p : Int)]))
section
variable {d st : Int} {up out : List Nat} {p : Nat} (hu : up.length = 256) (ho : out.length = 256)
theorem tcs_0 : (tcs d st up out p)[0]? = some (.int .u32 d) := rfl
theorem tcs_1 : (tcs d st up out p)[1]? = some (.int .i32 st) := rfl
theorem tcs_up {i x : Nat} (h : up[i]? = some x) : (tcs d st up out p)[3 + i]? = some (.int .u64 (x : Int)) := by
  have hi : i < up.length := (List.getElem?_eq_some_iff.1 h).1
  rw [show 3 + i = i + 1 + 1 + 1 by omega]
  simp only [tcs, List.getElem?_cons_succ]
  rw [List.getElem?_append_left (by simpa using hi), List.getElem?_map, h]
  rfl
include hu in
theorem tcs_out {i x : Nat} (h : out[i]? = some x) : (tcs d st up out p)[259 + i]? = some (.int .u64 (x : Int)) := by
  have hi : i < out.length := (List.getElem?_eq_some_iff.1 h).1
  rw [show 259 + i = (256 + i) + 1 + 1 + 1 by omega]
  simp only [tcs, List.getElem?_cons_succ]
  rw [List.getElem?_append_right (by simp [hu]), List.length_map, hu, Nat.add_sub_cancel_left, List.getElem?_append_left (by simpa using hi), List.getElem?_map, h]
  rfl
include hu ho in
theorem tcs_poly : (tcs d st up out p)[515]? = some (.int .u64 (p : Int)) := by
  rw [show (515 : Nat) = 512 + 1 + 1 + 1 by omega]
  simp only [tcs, List.getElem?_cons_succ]
  rw [List.getElem?_append_right (by simp [hu]), List.getElem?_append_right (by simp [hu, ho])]
  simp [hu, ho]
theorem tcs_set0 (d' : Int) : (tcs d st up out p).set 0 (.int .u32 d') = tcs d' st up out p := rfl
theorem tcs_set1 (s' : Int) : (tcs d st up out p).set 1 (.int .i32 s') = tcs d s' up out p := rfl
theorem tcs_setUp (i x : Nat) (h : i < up.length) : (tcs d st up out p).set (3 + i) (.int .u64 (x : Int)) = tcs d st (up.set i x) out p := by
  rw [show 3 + i = i + 1 + 1 + 1 by omega]
  simp only [tcs, List.set_cons_succ]
  rw [List.set_append, if_pos (by simpa using h), List.map_set]
  rfl
include hu in
theorem tcs_setOut (i x : Nat) (h : i < out.length) : (tcs d st up out p).set (259 + i) (.int .u64 (x : Int)) = tcs d st up (out.set i x) p := by
  rw [show 259 + i = (256 + i) + 1 + 1 + 1 by omega]
  simp only [tcs, List.set_cons_succ]
  rw [List.set_append, if_neg (by simp [hu]), List.length_map, hu, Nat.add_sub_cancel_left, List.set_append, if_pos (by simpa using h), List.map_set]
  rfl
end

/-! ### a byte more -/
def addN (p f b : Nat) : Nat := md (f * 256 + b) p
theorem xor_add {a b k : Nat} (h : b < 2 ^ k) : a * 2 ^ k ^^^ b = a * 2 ^ k + b := by
  have h1 := Nat.two_pow_add_eq_or_of_lt h a
  rw [Nat.mul_comm, h1]
  apply Nat.eq_of_testBit_eq
  intro i
  rw [Nat.testBit_xor, Nat.testBit_or]
  by_cases hi : i < k
  · have : (2 ^ k * a).testBit i = false := by
      rw [Nat.testBit_two_pow_mul]; simp; omega
    simp [this]
  · have : b.testBit i = false := Nat.testBit_lt_two_pow (Nat.lt_of_lt_of_le h (Nat.pow_le_pow_right (by decide) (by omega)))
    simp [this]
theorem or_add {a b k : Nat} (h : b < 2 ^ k) : a * 2 ^ k ||| b = a * 2 ^ k + b := by
  rw [Nat.mul_comm]; exact (Nat.two_pow_add_eq_or_of_lt h a).symm
theorem add_eq {p f b : Nat} (hp : bl p = 32) (hf : bl f ≤ 31) (hb : b < 256) : (f * 256 + b) % 2147483648 ^^^ upN p (f / 8388608) = addN p f b := by
  obtain ⟨h, hh⟩ : ∃ h, f / 8388608 = h := ⟨_, rfl⟩
  obtain ⟨l, hl⟩ : ∃ l, (f * 256 + b) % 2147483648 = l := ⟨_, rfl⟩
  have hsum : f * 256 + b = h * 2 ^ 31 + l := by omega
  have hl31 : l < 2 ^ 31 := by omega
  unfold addN upN
  rw [hh, hl, hsum, ← xor_add hl31, md_xor, Nat.xor_comm]
  congr 1
  exact (md_small (by have := bl_le.2 hl31; omega)).symm
theorem addN_lt {p : Nat} (hp : bl p = 32) (f b : Nat) : bl (addN p f b) ≤ 31 := by
  have := md_lt (f * 256 + b) p (by intro e; rw [e, bl_zero] at hp; omega)
  unfold addN; omega
/-- Fifteen noughts behind a byte. -/
theorem out_step (p i j : Nat) : addN p (md (i * 2 ^ (8 * j)) p) 0 = md (i * 2 ^ (8 * (j + 1))) p := by
  unfold addN
  rw [Nat.add_zero, show (256 : Nat) = 2 ^ 8 from rfl]
  by_cases hp : p = 0
  · subst hp
    rw [md_zero_right, md_zero_right, md_zero_right, Nat.mul_assoc, ← Nat.pow_add]
    rfl
  · rw [md_eq (((md_cg (i * 2 ^ (8 * j)) p hp).symm).pow 8), Nat.mul_assoc, ← Nat.pow_add]
    rfl
end Go.Proofs.Ytmohjgcnhibkoaa
