/- Base words of this seat: readings of byte slices, worlds, numbers. No program. -/
import Derived.WalkKit
import Derived.WalkSpells
import Derived.WalkLawsBesides
import Derived.Lib.Hide
import Derived.Deep.LoopGhost
import Derived.Deep.Draws
namespace Go.Proofs.Ytjhnnnklfhbebaa
open Go.RowKit

/-! ### numbers -/
theorem wrap_u8_nat (n : Nat) : IntKind.u8.wrap (n : Int) = ((n % 256 : Nat) : Int) := by rw [IntKind.wrap_u8]; omega
theorem wrap_u16_nat (n : Nat) : IntKind.u16.wrap (n : Int) = ((n % 65536 : Nat) : Int) := by
  simp [IntKind.wrap, IntKind.bits, IntKind.signed]
theorem wrap_u32_nat (n : Nat) : IntKind.u32.wrap (n : Int) = ((n % 4294967296 : Nat) : Int) := by rw [IntKind.wrap_u32]; omega
theorem wrap_u64_nat (n : Nat) : IntKind.u64.wrap (n : Int) = ((n % 18446744073709551616 : Nat) : Int) := by
  simp [IntKind.wrap, IntKind.bits, IntKind.signed]

theorem bits_xor_nat (k : IntKind) (j : Nat) (hj : j ≤ k.bits) (hk : ∀ n : Int, 0 ≤ n → n < 2 ^ j → k.wrap n = n) (a b : Nat) (ha : a < 2 ^ j) (hb : b < 2 ^ j) :
    bits .xor k a b = ((a ^^^ b : Nat) : Int) := by
  have hp : 2 ^ j ≤ 2 ^ k.bits := Nat.pow_le_pow_right (by decide) hj
  have ha' : a % 2 ^ k.bits = a := Nat.mod_eq_of_lt (Nat.lt_of_lt_of_le ha hp)
  have hb' : b % 2 ^ k.bits = b := Nat.mod_eq_of_lt (Nat.lt_of_lt_of_le hb hp)
  have cast : ∀ n : Nat, n < 2 ^ j → ((n : Nat) : Int) < 2 ^ j := fun n h => by exact_mod_cast h
  simp only [bits, BitVec.ofInt_natCast, BitVec.toNat_xor, BitVec.toNat_ofNat, ha', hb']
  exact hk _ (Int.natCast_nonneg _) (cast _ (Nat.xor_lt_two_pow ha hb))

theorem in_u8 (n : Int) (h0 : 0 ≤ n) (h1 : n < 2 ^ 8) : IntKind.u8.wrap n = n := IntWalk.u8_in n (by omega)
theorem in_u16 (n : Int) (h0 : 0 ≤ n) (h1 : n < 2 ^ 16) : IntKind.u16.wrap n = n := IntWalk.u16_in n (by omega)
theorem in_u32 (n : Int) (h0 : 0 ≤ n) (h1 : n < 2 ^ 32) : IntKind.u32.wrap n = n := IntWalk.u32_in n (by omega)
theorem in_u64 (n : Int) (h0 : 0 ≤ n) (h1 : n < 2 ^ 64) : IntKind.u64.wrap n = n := IntWalk.u64_in n (by omega)
theorem in_i64 (n : Int) (h0 : 0 ≤ n) (h1 : n < 2 ^ 63) : IntKind.i64.wrap n = n := IntWalk.i64_in n (by omega)

theorem xor_u8 (a b : Nat) (ha : a < 256) (hb : b < 256) : bits .xor .u8 a b = ((a ^^^ b : Nat) : Int) := bits_xor_nat .u8 8 (by decide) in_u8 a b (by simpa using ha) (by simpa using hb)
theorem xor_u16 (a b : Nat) (ha : a < 65536) (hb : b < 65536) : bits .xor .u16 a b = ((a ^^^ b : Nat) : Int) := bits_xor_nat .u16 16 (by decide) in_u16 a b (by simpa using ha) (by simpa using hb)
theorem xor_u32 (a b : Nat) (ha : a < 4294967296) (hb : b < 4294967296) : bits .xor .u32 a b = ((a ^^^ b : Nat) : Int) := bits_xor_nat .u32 32 (by decide) in_u32 a b (by simpa using ha) (by simpa using hb)
theorem xor_u64 (a b : Nat) (ha : a < 18446744073709551616) (hb : b < 18446744073709551616) : bits .xor .u64 a b = ((a ^^^ b : Nat) : Int) := bits_xor_nat .u64 64 (by decide) in_u64 a b (by simpa using ha) (by simpa using hb)
theorem and_u8 (a b : Nat) (ha : a < 256) (hb : b < 256) : bits .and .u8 a b = ((a &&& b : Nat) : Int) := (bits_nat .u8 8 (by decide) in_u8 a b (by simpa using ha) (by simpa using hb)).1
theorem and_u32 (a b : Nat) (ha : a < 4294967296) (hb : b < 4294967296) : bits .and .u32 a b = ((a &&& b : Nat) : Int) := (bits_nat .u32 32 (by decide) in_u32 a b (by simpa using ha) (by simpa using hb)).1
theorem and_u64 (a b : Nat) (ha : a < 18446744073709551616) (hb : b < 18446744073709551616) : bits .and .u64 a b = ((a &&& b : Nat) : Int) := (bits_nat .u64 64 (by decide) in_u64 a b (by simpa using ha) (by simpa using hb)).1
theorem and_i64 (a b : Nat) (ha : a < 9223372036854775808) (hb : b < 9223372036854775808) : bits .and .i64 a b = ((a &&& b : Nat) : Int) := (bits_nat .i64 63 (by decide) in_i64 a b (by simpa using ha) (by simpa using hb)).1
theorem or_u8 (a b : Nat) (ha : a < 256) (hb : b < 256) : bits .or .u8 a b = ((a ||| b : Nat) : Int) := (bits_nat .u8 8 (by decide) in_u8 a b (by simpa using ha) (by simpa using hb)).2
theorem or_u16 (a b : Nat) (ha : a < 65536) (hb : b < 65536) : bits .or .u16 a b = ((a ||| b : Nat) : Int) := (bits_nat .u16 16 (by decide) in_u16 a b (by simpa using ha) (by simpa using hb)).2
theorem or_u32 (a b : Nat) (ha : a < 4294967296) (hb : b < 4294967296) : bits .or .u32 a b = ((a ||| b : Nat) : Int) := (bits_nat .u32 32 (by decide) in_u32 a b (by simpa using ha) (by simpa using hb)).2
theorem or_i64 (a b : Nat) (ha : a < 9223372036854775808) (hb : b < 9223372036854775808) : bits .or .i64 a b = ((a ||| b : Nat) : Int) := (bits_nat .i64 63 (by decide) in_i64 a b (by simpa using ha) (by simpa using hb)).2

/-- Go's ^x of 16 and of 32 bits. -/
def notU16 (n : Int) : Int := bits .xor .u16 65535 n
def notU32 (n : Int) : Int := bits .xor .u32 4294967295 n
@[go_sem high] theorem unary_xor_u16 (n : Int) : Op.unary .xor (.int .u16 n) = pure (.int .u16 (notU16 n)) := rfl
@[go_sem high] theorem unary_xor_u32 (n : Int) : Op.unary .xor (.int .u32 n) = pure (.int .u32 (notU32 n)) := rfl
theorem not_u16 (a : Nat) (ha : a < 65536) : notU16 a = ((65535 - a : Nat) : Int) := by
  unfold notU16
  rw [show (65535 : Int) = ((65535 : Nat) : Int) from rfl, xor_u16 _ _ (by decide) ha]
  congr 1
  have := BitVec.toNat_not (x := BitVec.ofNat 16 a)
  rw [← BitVec.allOnes_xor, BitVec.toNat_xor, BitVec.toNat_allOnes, BitVec.toNat_ofNat, Nat.mod_eq_of_lt (by simpa using ha)] at this
  simpa using this
theorem not_u32 (a : Nat) (ha : a < 4294967296) : notU32 a = ((4294967295 - a : Nat) : Int) := by
  unfold notU32
  rw [show (4294967295 : Int) = ((4294967295 : Nat) : Int) from rfl, xor_u32 _ _ (by decide) ha]
  congr 1
  have := BitVec.toNat_not (x := BitVec.ofNat 32 a)
  rw [← BitVec.allOnes_xor, BitVec.toNat_xor, BitVec.toNat_allOnes, BitVec.toNat_ofNat, Nat.mod_eq_of_lt (by simpa using ha)] at this
  simpa using this

theorem ret_int {k : IntKind} {a b : Int} (h : a = b) : Ending.returned (.int k a) = .returned (.int k b) := by rw [h]
theorem ret_bool {a b : Bool} (h : a = b) : Ending.returned (.bool a) = .returned (.bool b) := by rw [h]

/-! ### bytes -/
/-- A byte as a value. -/
def vb (x : UInt8) : Value := .int .u8 (x.toNat : Int)
/-- Byte number i of a list, 0 behind its end. -/
def gb (l : List UInt8) (i : Nat) : Nat := (l.getD i 0).toNat
theorem gb_lt (l : List UInt8) (i : Nat) : gb l i ≤ 255 := by unfold gb; have := (l.getD i 0).toNat_lt; omega
/-- The list that a slice at A reads as. -/
def RB (w : World) (A : Option Addr) (l : List UInt8) : Prop :=
  ∀ i, i < l.length → ∃ b o, A = some ⟨b, o, none⟩ ∧ w.cell? ⟨b, o + i, none⟩ = some (.int .u8 (gb l i : Int))
theorem RB.ext {w w' : World} {A : Option Addr} {l : List UInt8} (h : RB w A l) (e : Below w.heap.size w w') : RB w' A l := fun i hi => by
  obtain ⟨b, o, rfl, hc⟩ := h i hi
  exact ⟨b, o, rfl, (e.cell (p := ⟨b, o + i, none⟩) (World.block_lt_of_cell? w _ hc)).trans hc⟩
theorem RB.nil (w : World) (A : Option Addr) : RB w A [] := fun i hi => absurd hi (by simp)
/-- Where there is an element, the address is known. -/
theorem RB.form {w : World} {A : Option Addr} {l : List UInt8} (h : RB w A l) (h0 : 0 < l.length) :
    ∃ b o, A = some ⟨b, o, none⟩ ∧ ∀ i, i < l.length → w.cell? ⟨b, o + i, none⟩ = some (.int .u8 (gb l i : Int)) := by
  obtain ⟨b, o, rfl, _⟩ := h 0 h0
  refine ⟨b, o, rfl, fun i hi => ?_⟩
  obtain ⟨b', o', e, hc⟩ := h i hi
  cases e
  exact hc

/-- A list of parts: the elements of a slice of slices. -/
def RBB (w : World) (A : Option Addr) (ls : List (List UInt8)) : Prop :=
  ∀ i, i < ls.length → ∃ b o A' c, A = some ⟨b, o, none⟩ ∧ w.cell? ⟨b, o + i, none⟩ = some (.slice A' (ls.getD i []).length c) ∧ RB w A' (ls.getD i []) ∧ (ls.getD i []).length ≤ c
theorem RBB.ext {w w' : World} {A : Option Addr} {ls : List (List UInt8)} (h : RBB w A ls) (e : Below w.heap.size w w') : RBB w' A ls := fun i hi => by
  obtain ⟨b, o, A', c, rfl, hc, hr, hl⟩ := h i hi
  exact ⟨b, o, A', c, rfl, (e.cell (p := ⟨b, o + i, none⟩) (World.block_lt_of_cell? w _ hc)).trans hc, hr.ext e, hl⟩

/-- A slice of ints. -/
def RZ (w : World) (A : Option Addr) (l : List Int) : Prop :=
  ∀ i, i < l.length → ∃ b o, A = some ⟨b, o, none⟩ ∧ w.cell? ⟨b, o + i, none⟩ = some (.int .i64 (l.getD i 0))
theorem RZ.ext {w w' : World} {A : Option Addr} {l : List Int} (h : RZ w A l) (e : Below w.heap.size w w') : RZ w' A l := fun i hi => by
  obtain ⟨b, o, rfl, hc⟩ := h i hi
  exact ⟨b, o, rfl, (e.cell (p := ⟨b, o + i, none⟩) (World.block_lt_of_cell? w _ hc)).trans hc⟩

/-! ### worlds -/
theorem ext_drewN {B : Nat} {a w : World} (h : Below B a w) (n : Nat) : Below B a (w.drewN n) := h.trans ⟨rfl, rfl, rfl, Nat.le_refl _, fun _ _ => rfl⟩
/-- Two calls, one behind the other. -/
theorem ext_trans {w w1 w2 : World} (h : Below w.heap.size w w1) (k : Below w1.heap.size w1 w2) : Below w.heap.size w w2 := h.trans (k.mono h.size)
theorem ext_alloc (w : World) (o : Obj) : Below w.heap.size w (w.alloc o) := (Below.refl _ _).alloc (Nat.le_refl _) o
theorem heap_alloc_if (w : World) (o : Obj) (k : Nat) : (w.alloc o).heap[k]? = if k = w.heap.size then some o else w.heap[k]? := by
  show (w.heap.push o)[k]? = _
  rw [Array.getElem?_push]
theorem size_alloc (w : World) (o : Obj) : (w.alloc o).heap.size = w.heap.size + 1 := by simp
theorem heap_new (w : World) (o : Obj) {k : Nat} (h : k = w.heap.size) : (w.alloc o).heap[k]? = some o := by rw [heap_alloc_if, if_pos h]
theorem heap_old {w : World} {o x : Obj} {k : Nat} (h : w.heap[k]? = some x) : (w.alloc o).heap[k]? = some x := by
  have := (Array.getElem?_eq_some_iff.1 h).1
  rw [heap_alloc_if, if_neg (by omega)]; exact h
end Go.Proofs.Ytjhnnnklfhbebaa
