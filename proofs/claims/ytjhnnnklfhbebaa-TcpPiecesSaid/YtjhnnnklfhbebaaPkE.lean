/- packet: read: the walk. -/
import Derived.Test.YtjhnnnklfhbebaaPkD
namespace Go.Proofs.Ytjhnnnklfhbebaa
open Go.RowKit
set_option linter.unusedVariables false
set_option linter.unusedSimpArgs false

/-! ### plain -/
def nb2 (l : List UInt8) (i : Nat) : Nat := gb l i * 256 + gb l (i + 1)
def nb4 (l : List UInt8) (i : Nat) : Nat := (gb l i * 256 + gb l (i + 1)) * 65536 + (gb l (i + 2) * 256 + gb l (i + 2 + 1))
theorem nb2_lt (l : List UInt8) (i : Nat) : nb2 l i < 65536 := by have := gb_lt l i; have := gb_lt l (i + 1); unfold nb2; omega
theorem nb4_lt (l : List UInt8) (i : Nat) : nb4 l i < 4294967296 := by have := gb_lt l i; have := gb_lt l (i + 1); have := gb_lt l (i + 2); have := gb_lt l (i + 2 + 1); unfold nb4; omega
/-- The probe that stands in options, as a number with a sign. -/
def prI (l : List UInt8) : Int := bits .or .i64 (IntKind.i64.wrap ((nb4 l 2 : Int) * 4294967296)) (nb4 l 6 : Int)
theorem prI_small (l : List UInt8) (h : nb4 l 2 < 2147483648) : prI l = ((nb4 l 2 * 4294967296 + nb4 l 6 : Nat) : Int) := by
  have h6 := nb4_lt l 6
  unfold prI
  have e : IntKind.i64.wrap ((nb4 l 2 : Int) * 4294967296) = ((nb4 l 2 * 4294967296 : Nat) : Int) := by rw [IntWalk.i64_in _ (by omega)]; simp
  rw [e, or_i64 _ _ (by omega) (by omega), show nb4 l 2 * 4294967296 = nb4 l 2 * 2 ^ 32 from rfl, or_add 32 _ _ (by simpa using h6)]
theorem prI_big (l : List UInt8) (h : 2147483648 ≤ nb4 l 2) : prI l < 0 := by
  have h2 := nb4_lt l 2
  have h6 := nb4_lt l 6
  unfold prI
  have e : IntKind.i64.wrap ((nb4 l 2 : Int) * 4294967296) = (nb4 l 2 : Int) * 4294967296 - 18446744073709551616 := by rw [IntKind.wrap_i64]; omega
  rw [e]
  have hm : ∃ a : Nat, (nb4 l 2 : Int) * 4294967296 - 18446744073709551616 = -(a : Int) ∧ a ≤ 9223372036854775808 ∧ 0 < a := ⟨(18446744073709551616 - nb4 l 2 * 4294967296), by omega, by omega, by omega⟩
  obtain ⟨a, ha, ha1, ha2⟩ := hm
  have hor : bits .or .i64 ((nb4 l 2 : Int) * 4294967296 - 18446744073709551616) (nb4 l 6 : Int) = IntKind.i64.wrap (((nb4 l 2 * 4294967296 + nb4 l 6 : Nat)) : Int) := by
    have b1 : BitVec.ofInt 64 ((nb4 l 2 : Int) * 4294967296 - 18446744073709551616) = BitVec.ofNat 64 (nb4 l 2 * 4294967296) := by
      apply BitVec.eq_of_toNat_eq
      rw [BitVec.toNat_ofInt, BitVec.toNat_ofNat]
      have : ((2 ^ 64 : Nat) : Int) = 18446744073709551616 := by decide
      rw [this]
      have e2 : (2 : Nat) ^ 64 = 18446744073709551616 := by decide
      rw [e2]
      omega
    show IntKind.i64.wrap (((BitVec.ofInt 64 ((nb4 l 2 : Int) * 4294967296 - 18446744073709551616) ||| BitVec.ofInt 64 (nb4 l 6 : Int)).toNat : Nat) : Int) = _
    rw [b1, BitVec.ofInt_natCast, BitVec.toNat_or, BitVec.toNat_ofNat, BitVec.toNat_ofNat, Nat.mod_eq_of_lt (by simp; omega), Nat.mod_eq_of_lt (by simp; omega), show nb4 l 2 * 4294967296 = nb4 l 2 * 2 ^ 32 from rfl, or_add 32 _ _ (by simpa using h6)]
  rw [hor, IntKind.wrap_i64]
  omega
def isPr (l : List UInt8) : Bool := decide (10 ≤ l.length) && decide (gb l 0 = 1)
def isOg (l : List UInt8) : Bool := decide (4 ≤ l.length) && decide (gb l 0 = 2)
def afterPr (l : List UInt8) : List UInt8 := if isPr l = true then l.drop 10 else l
/-- A packet's cells, with what is read of its options. -/
def readCs (cs : List Value) (l : List UInt8) : List Value :=
  let c1 := if isPr l = true then cs.set 8 (.int .i64 (prI l)) else cs
  if isOg (afterPr l) = true then c1.set 9 (.int .i64 (nb2 (afterPr l) 2 : Int)) else c1
theorem readCs_nn (cs : List Value) (l : List UInt8) (h : isPr l = false) (k : isOg l = false) : readCs cs l = cs := by unfold readCs afterPr; simp [h, k]
theorem readCs_ny (cs : List Value) (l : List UInt8) (h : isPr l = false) (k : isOg l = true) : readCs cs l = cs.set 9 (.int .i64 (nb2 l 2 : Int)) := by unfold readCs afterPr; simp [h, k]
theorem readCs_yn (cs : List Value) (l : List UInt8) (h : isPr l = true) (k : isOg (l.drop 10) = false) : readCs cs l = cs.set 8 (.int .i64 (prI l)) := by unfold readCs afterPr; simp [h, k]
theorem readCs_yy (cs : List Value) (l : List UInt8) (h : isPr l = true) (k : isOg (l.drop 10) = true) : readCs cs l = (cs.set 8 (.int .i64 (prI l))).set 9 (.int .i64 (nb2 (l.drop 10) 2 : Int)) := by unfold readCs afterPr; simp [h, k]
-- left out: flume/packet.read
end Go.Proofs.Ytjhnnnklfhbebaa
