/- packet: a byte that is another one makes the sum invalid: plain. -/
import Derived.Test.YtobkelpeenckeaaPkJ
namespace Go.Proofs.Ytobkelpeenckeaa
open Go.RowKit
set_option linter.unusedVariables false

theorem gb_set (l : List UInt8) (i j : Nat) (y : UInt8) (h : i < l.length) : gb (l.set i y) j = if j = i then y.toNat else gb l j := by
  unfold gb
  rw [List.getD_eq_getElem?_getD, List.getD_eq_getElem?_getD, List.getElem?_set]
  by_cases e : j = i
  · subst e
    simp [h]
  · rw [if_neg (fun h : i = j => e h.symm), if_neg e]
theorem wordsTo_set (l : List UInt8) (i : Nat) (y : UInt8) (h : i < l.length) : ∀ k, i < k → wordsTo (l.set i y) k + (if i % 2 = 0 then gb l i * 256 else gb l i) = wordsTo l k + (if i % 2 = 0 then y.toNat * 256 else y.toNat)
  | 0, hk => absurd hk (by omega)
  | k + 1, hk => by
    rw [wordsTo, wordsTo, gb_set l i k y h]
    by_cases e : k = i
    · subst e
      rw [if_pos rfl, wordsTo_congr (l.set k y) l k (fun j hj => by rw [gb_set l k j y h, if_neg (by omega)])]
      split <;> omega
    · rw [if_neg e]
      have := wordsTo_set l i y h k (by omega)
      omega
theorem turned_sum (l : List UInt8) (i : Nat) (y : UInt8) (h : i < l.length) (hy : y.toNat ≠ gb l i) (hs : inetN [l] = 0) : ¬ (inetN [l.set i y] = 65535 ∨ inetN [l.set i y] = 0) := by
  have e := wordsTo_set l i y h l.length h
  rw [inetN_one] at hs ⊢
  have e2 : wAll (l.set i y) = wordsTo (l.set i y) l.length := by unfold wAll; rw [List.length_set]
  have hg := gb_lt l i
  have hy2 : y.toNat < 256 := y.toNat_lt
  rw [e2]
  unfold wAll at hs
  unfold foldN at hs ⊢
  split at e <;> split at hs <;> split <;> omega
end Go.Proofs.Ytobkelpeenckeaa
