/- packet: options: the walk. -/
import Derived.Test.YtjhnnnklfhbebaaPkB
namespace Go.Proofs.Ytjhnnnklfhbebaa
open Go.RowKit
set_option linter.unusedVariables false
set_option linter.unusedSimpArgs false

def prL (n : Nat) : List UInt8 := if 0 < n then [1, 10] ++ be n 8 else []
def ogL (n : Nat) : List UInt8 := if 0 < n then [2, 4] ++ be n 2 else []
def optL (pr og : Nat) : List UInt8 := prL pr ++ ogL og
theorem be_mod (n : Nat) : ∀ k m, k ≤ m → be (n % 256 ^ m) k = be n k
  | 0, _, _ => rfl
  | k + 1, m, h => by
    rw [be, be, be_mod n k m (by omega)]
    congr 1
    have e : 256 ^ m = 256 ^ k * 256 ^ (m - k) := by rw [← Nat.pow_add]; congr 1; omega
    have e2 : n % 256 ^ m / 256 ^ k = n / 256 ^ k % 256 ^ (m - k) := by rw [e, Nat.mod_mul_right_div_self]
    have e3 : 256 ^ (m - k) = 256 * 256 ^ (m - k - 1) := by rw [← Nat.pow_succ']; congr 1; omega
    rw [e2, e3]
    have h1 : (UInt8.ofNat (n / 256 ^ k % (256 * 256 ^ (m - k - 1)))).toNat = (UInt8.ofNat (n / 256 ^ k)).toNat := by
      rw [UInt8.toNat_ofNat', UInt8.toNat_ofNat']
      exact Nat.mod_mul_right_mod _ _ _
    exact UInt8.toNat_inj.1 h1
theorem be_add (n : Nat) (b : Nat) : ∀ a, be n (a + b) = be (n / 256 ^ b) a ++ be n b
  | 0 => by simp [be]
  | a + 1 => by
    rw [show a + 1 + b = (a + b) + 1 by omega, be, be_add n b a, be, List.cons_append, Nat.div_div_eq_div_mul, ← Nat.pow_add, Nat.add_comm b a]
theorem be_eight (n : Nat) : be n 8 = be (n / 4294967296) 4 ++ be (n % 4294967296) 4 := by
  have h := be_add n 4 4
  have h2 := be_mod n 4 4 (Nat.le_refl _)
  rw [show (256 : Nat) ^ 4 = 4294967296 from rfl] at h h2
  rw [h2]
  exact h
theorem prL_length (n : Nat) : (prL n).length = if 0 < n then 10 else 0 := by unfold prL; split <;> simp [be_length]
theorem ogL_length (n : Nat) : (ogL n).length = if 0 < n then 4 else 0 := by unfold ogL; split <;> simp [be_length]
theorem RB.lit2 (w : World) (e : TypeId) (x y : UInt8) : RB (w.alloc (.cells #[.int .u8 (x.toNat : Int), .int .u8 (y.toNat : Int)] e)) (some ⟨w.heap.size, 0, none⟩) [x, y] := fun i hi => by
  have hb := BK.new w e [.int .u8 (x.toNat : Int), .int .u8 (y.toNat : Int)]
  have hi2 : i < 2 := hi
  by_cases h0 : i = 0
  · subst h0; exact ⟨_, _, rfl, hb.cell (i := 0) rfl⟩
  · obtain rfl : i = 1 := by omega
    exact ⟨_, _, rfl, hb.cell (i := 1) rfl⟩

-- left out: flume/packet.options
end Go.Proofs.Ytjhnnnklfhbebaa
