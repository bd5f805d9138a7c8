/- packet: lay, two, four, get2, get4: the walks; numbers as bytes. -/
import Derived.Test.YtjhnnnklfhbebaaPkA
import Derived.BigRegion
import Derived.Deep.QuietTactic
import Derived.BigQuiet
import Derived.Deep.RegionWith
namespace Go.Proofs.Ytjhnnnklfhbebaa
open Go.RowKit
set_option linter.unusedVariables false

/-! ### numbers as bytes, the highest one first -/
def be (n : Nat) : Nat → List UInt8
  | 0 => []
  | k + 1 => UInt8.ofNat (n / 256 ^ k) :: be n k
theorem be_length (n k : Nat) : (be n k).length = k := by induction k with
  | zero => rfl
  | succ k ih => simp [be, ih]
theorem be_get (n : Nat) : ∀ (k i : Nat), i < k → (be n k).getD i 0 = UInt8.ofNat (n / 256 ^ (k - 1 - i))
  | 0, _, h => absurd h (by omega)
  | k + 1, 0, _ => by simp [be]
  | k + 1, i + 1, h => by
    rw [be, List.getD_cons_succ, be_get n k i (by omega)]
    congr 3
    omega
/-- What stands behind i rounds of laying. -/
def layTo (n k i : Nat) : List UInt8 := (be n k).take i ++ List.replicate (k - i) 0
theorem layTo_length (n k i : Nat) (h : i ≤ k) : (layTo n k i).length = k := by simp [layTo, be_length]; omega
theorem layTo_set (n k i : Nat) (h : i < k) : (layTo n k i).set i (UInt8.ofNat (n / 256 ^ (k - 1 - i))) = layTo n k (i + 1) := by
  unfold layTo
  obtain ⟨d, hd⟩ : ∃ d, k - i = d + 1 := ⟨k - i - 1, by omega⟩
  have hl : ((be n k).take i).length = i := by rw [List.length_take, be_length]; omega
  rw [List.set_append, if_neg (by omega), hl, Nat.sub_self, hd, show k - (i + 1) = d by omega, List.replicate_succ, List.set_cons_zero]
  rw [List.take_add_one, List.append_assoc]
  congr 1
  have := be_get n k i h
  rw [List.getD_eq_getElem?_getD] at this
  rw [List.getElem?_eq_getElem (by rw [be_length]; exact h)] at this ⊢
  simp only [Option.getD_some] at this
  rw [this]
  rfl
theorem vb_ofNat (n : Nat) : vb (UInt8.ofNat n) = .int .u8 ((n % 256 : Nat) : Int) := by simp [vb]
theorem pow_256 (k : Nat) : 2 ^ (8 * k) = 256 ^ k := by rw [Nat.pow_mul]

-- left out: flume/packet.lay[int]
-- left out: flume/packet.lay[uint32]
-- left out: flume/packet.two
-- left out: flume/packet.four
theorem or_add (n x y : Nat) (h : y < 2 ^ n) : x * 2 ^ n ||| y = x * 2 ^ n + y := by rw [Nat.mul_comm, Nat.two_pow_add_eq_or_of_lt h]
-- left out: flume/packet.get2
-- left out: flume/packet.get4
end Go.Proofs.Ytjhnnnklfhbebaa
