/- The walks of sums: fold, words, Inet, Valid, Update. -/
import Derived.Test.YtjhnnnklfhbebaaProg
import Derived.Test.YtjhnnnklfhbebaaBase
namespace Go.Proofs.Ytjhnnnklfhbebaa
open Go.RowKit

/-- folding of carries -/
def foldN (n : Nat) : Nat := if n = 0 then 0 else (n - 1) % 65535 + 1
theorem foldN_small (n : Nat) (h : n ≤ 65535) : foldN n = n := by unfold foldN; split <;> omega
theorem foldN_step (n : Nat) (h : 65535 < n) : foldN (n / 65536 + n % 65536) = foldN n := by unfold foldN; split <;> split <;> omega
theorem foldN_le (n : Nat) : foldN n ≤ 65535 := by unfold foldN; split <;> omega
theorem and_ffff (n : Nat) (h : n < 18446744073709551616) : bits .and .u64 (n : Int) 65535 = ((n % 65536 : Nat) : Int) := by
  rw [show (65535 : Int) = ((65535 : Nat) : Int) from rfl, and_u64 _ _ h (by decide)]
  congr 1
  exact Nat.and_two_pow_sub_one_eq_mod n 16

-- left out: flume/sums.fold
/-- What k bytes add as words. -/
def wordsTo (l : List UInt8) : Nat → Nat
  | 0 => 0
  | k + 1 => wordsTo l k + (if k % 2 = 0 then gb l k * 256 else gb l k)
theorem wordsTo_le (l : List UInt8) (k : Nat) : wordsTo l k ≤ 65280 * k := by
  induction k with
  | zero => simp [wordsTo]
  | succ k ih => have := gb_lt l k; simp only [wordsTo]; split <;> omega
theorem and_one_i64 (k : Nat) (h : k < 9223372036854775808) : bits .and .i64 (k : Int) 1 = ((k % 2 : Nat) : Int) := by
  rw [show (1 : Int) = ((1 : Nat) : Int) from rfl, and_i64 _ _ h (by decide)]
  congr 1
  exact Nat.and_two_pow_sub_one_eq_mod k 1

-- left out: flume/sums.words
/-- The sum of the parts' folded words. -/
def inetTo (ls : List (List UInt8)) : Nat → Nat
  | 0 => 0
  | k + 1 => inetTo ls k + foldN (wordsTo (ls.getD k []) (ls.getD k []).length)
theorem inetTo_le (ls : List (List UInt8)) (k : Nat) : inetTo ls k ≤ 65535 * k := by
  induction k with
  | zero => simp [inetTo]
  | succ k ih => have := foldN_le (wordsTo (ls.getD k []) (ls.getD k []).length); simp only [inetTo]; omega
def inetN (ls : List (List UInt8)) : Nat := 65535 - foldN (inetTo ls ls.length)

-- left out: flume/sums.Inet
-- left out: flume/sums.Valid
def updN (s o n : Nat) : Nat := 65535 - foldN (65535 - s + (65535 - o) + n)
-- left out: flume/sums.Update
end Go.Proofs.Ytjhnnnklfhbebaa
