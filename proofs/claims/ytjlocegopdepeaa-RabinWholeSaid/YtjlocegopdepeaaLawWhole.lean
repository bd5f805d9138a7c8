/- The walk of the law RabinWhole. -/
import Derived.Test.YtjlocegopdepeaaRabH
import Derived.Test.YtjlocegopdepeaaPolyB
namespace Go.Proofs.Ytjlocegopdepeaa
open Go.RowKit
set_option linter.unusedVariables false

set_option maxHeartbeats 1000000 in
theorem whole_walk (w : World) (a : Nat) (ha : a ≤ 18446744073709551615) (b : Nat) (hb : b ≤ 18446744073709551615) (p : Nat) (hp : p ≤ 18446744073709551615) :
    Calls Try.prog 10 #[.int .u64 (a : Int), .int .u64 (b : Int), .int .u64 (p : Int)] w fun e w' => e = .returned (.bool true) ∧ Below w.heap.size w w' := by
  have HA := Lib.hid (U64.of ha)
  have HB := Lib.hid (U64.of hb)
  have HP := Lib.hid (U64.of hp)
  clear ha hb hp
  rcases hpr : primeN p with _ | _
  · have HPR := Lib.hid hpr
    clear hpr
    go_enter Try.func10, Try.ntmps10
    go_wp2_with fail
    refine (prime_calls p HP.out w).mono ?_
    rintro e w' ⟨rfl, rfl⟩
    rw [HPR.out]
    go_wp2_with fail
    refine (awake_calls w).mono ?_
    rintro e w1 ⟨rfl, hb⟩
    have HB1 := Lib.hid hb
    clear hb
    go_wp2
    go_ret
    exact ⟨rfl, HB1.out⟩
  · have hp0 : p ≠ 0 := (test_irr hpr).ne
    obtain ⟨x, hx⟩ : ∃ x, md a p = x := ⟨_, rfl⟩
    obtain ⟨y, hy⟩ : ∃ y, md b p = y := ⟨_, rfl⟩
    have hw := whole (a := x) (b := y) hpr (by rw [← hx]; exact md_lt a p hp0) (by rw [← hy]; exact md_lt b p hp0)
    have HX := Lib.hid hx
    have HY := Lib.hid hy
    have HXU : Hid (U64 x) := Lib.hid (by rw [← hx]; exact HA.out.md)
    have HYU : Hid (U64 y) := Lib.hid (by rw [← hy]; exact HB.out.md)
    have HPR := Lib.hid hpr
    obtain ⟨z, hz⟩ : ∃ z, mulN x y p = z := ⟨_, rfl⟩
    have HZ := Lib.hid hz
    rw [hz] at hw
    clear hpr hp0 hx hy hz
    go_enter Try.func10, Try.ntmps10
    go_wp2_with fail
    refine (prime_calls p HP.out w).mono ?_
    rintro e w' ⟨rfl, rfl⟩
    rw [HPR.out]
    go_wp2_with fail
    refine (mod_calls a p HA.out HP.out w).mono ?_
    rintro e w' ⟨rfl, rfl⟩
    rw [HX.out]
    go_wp2_with fail
    refine (mod_calls b p HB.out HP.out w).mono ?_
    rintro e w' ⟨rfl, rfl⟩
    rw [HY.out]
    go_wp2_with fail
    refine (mul_calls x y p HXU.out HYU.out HP.out w).mono ?_
    rintro e w' ⟨rfl, rfl⟩
    rw [HZ.out]
    by_cases hx0 : x = 0
    · subst hx0
      obtain rfl : z = 0 := hw.2 (.inl rfl)
      clear hw
      go_wp2_with fail
      refine (awake_calls w).mono ?_
      rintro e w1 ⟨rfl, hb⟩
      have HB1 := Lib.hid hb
      clear hb
      go_wp2
      go_ret
      exact ⟨rfl, HB1.out⟩
    have d1 : ((x : Int) == 0) = false := beq_eq_false_iff_ne.2 (by omega)
    by_cases hy0 : y = 0
    · subst hy0
      obtain rfl : z = 0 := hw.2 (.inr rfl)
      clear hw hx0
      go_wp2_with fail
      refine (awake_calls w).mono ?_
      rintro e w1 ⟨rfl, hb⟩
      have HB1 := Lib.hid hb
      clear hb
      go_wp2
      go_ret
      exact ⟨rfl, HB1.out⟩
    have d2 : ((y : Int) == 0) = false := beq_eq_false_iff_ne.2 (by omega)
    have d3 : ((z : Int) == 0) = false := beq_eq_false_iff_ne.2 (fun e => by
      rcases hw.1 (by omega) with k | k
      · exact hx0 k
      · exact hy0 k)
    clear hw hx0 hy0
    go_wp2_with fail
    refine (awake_calls w).mono ?_
    rintro e w1 ⟨rfl, hb⟩
    have HB1 := Lib.hid hb
    clear hb
    go_wp2
    go_ret
    exact ⟨rfl, HB1.out⟩
end Go.Proofs.Ytjlocegopdepeaa
