/- The walks of the laws RabinMods, RabinMuls, RabinGcds. -/
import Derived.Test.YtjlocegopdepeaaRabI
namespace Go.Proofs.Ytjlocegopdepeaa
open Go.RowKit
set_option linter.unusedVariables false

set_option maxHeartbeats 1000000 in
theorem mods_walk (w : World) (a : Nat) (ha : a ≤ 18446744073709551615) (p : Nat) (hp : p ≤ 18446744073709551615) :
    Calls Try.prog 3 #[.int .u64 (a : Int), .int .u64 (p : Int)] w fun e w' => e = .returned (.bool true) ∧ Below w.heap.size w w' := by
  have HA := Lib.hid (U64.of ha)
  have HP := Lib.hid (U64.of hp)
  have h64 : bl a ≤ 64 := HA.out
  obtain ⟨n, hn⟩ : ∃ n, bl a = n := ⟨_, rfl⟩
  rw [hn] at h64
  have HN := Lib.hid hn
  obtain ⟨x, hx⟩ : ∃ x, md a p = x := ⟨_, rfl⟩
  have HX := Lib.hid hx
  clear ha hp hn hx
  go_enter Try.func3, Try.ntmps3
  go_wp2_with fail
  refine (deg_calls a HA.out w).mono ?_
  rintro e w' ⟨rfl, rfl⟩
  rw [HN.out]
  go_wp2_with fail
  refine (rdeg_calls a HA.out w).mono ?_
  rintro e w' ⟨rfl, rfl⟩
  rw [HN.out]
  go_wp2_with fail
  refine (mod_calls a p HA.out HP.out w).mono ?_
  rintro e w' ⟨rfl, rfl⟩
  rw [HX.out]
  go_wp2_with fail
  refine (rmod_calls a p HA.out HP.out w).mono ?_
  rintro e w' ⟨rfl, rfl⟩
  rw [HX.out]
  go_wp2_with fail
  refine (awake_calls w).mono ?_
  rintro e w1 ⟨rfl, hb⟩
  have HB1 := Lib.hid hb
  clear hb
  go_wp2
  go_ret
  exact ⟨rfl, HB1.out⟩

theorem muls_walk (w : World) (a : Nat) (ha : a ≤ 18446744073709551615) (b : Nat) (hb : b ≤ 18446744073709551615) (p : Nat) (hp : p ≤ 18446744073709551615) :
    Calls Try.prog 4 #[.int .u64 (a : Int), .int .u64 (b : Int), .int .u64 (p : Int)] w fun e w' => e = .returned (.bool true) ∧ Below w.heap.size w w' := by
  have HA := Lib.hid (U64.of ha)
  have HB := Lib.hid (U64.of hb)
  have HP := Lib.hid (U64.of hp)
  obtain ⟨x, hx⟩ : ∃ x, mulN a b p = x := ⟨_, rfl⟩
  have HX := Lib.hid hx
  clear ha hb hp hx
  go_enter Try.func4, Try.ntmps4
  go_wp2_with fail
  refine (mul_calls a b p HA.out HB.out HP.out w).mono ?_
  rintro e w' ⟨rfl, rfl⟩
  rw [HX.out]
  go_wp2_with fail
  refine (rmul_calls a b p HA.out HB.out HP.out w).mono ?_
  rintro e w' ⟨rfl, rfl⟩
  rw [HX.out]
  go_wp2_with fail
  refine (awake_calls w).mono ?_
  rintro e w1 ⟨rfl, hb⟩
  have HB1 := Lib.hid hb
  clear hb
  go_wp2
  go_ret
  exact ⟨rfl, HB1.out⟩

theorem gcds_walk (w : World) (a : Nat) (ha : a ≤ 18446744073709551615) (b : Nat) (hb : b ≤ 18446744073709551615) :
    Calls Try.prog 5 #[.int .u64 (a : Int), .int .u64 (b : Int)] w fun e w' => e = .returned (.bool true) ∧ Below w.heap.size w w' := by
  have HA := Lib.hid (U64.of ha)
  have HB := Lib.hid (U64.of hb)
  obtain ⟨x, hx⟩ : ∃ x, gc a b = x := ⟨_, rfl⟩
  have HX := Lib.hid hx
  clear ha hb hx
  go_enter Try.func5, Try.ntmps5
  go_wp2_with fail
  refine (gcd_calls a b HA.out HB.out w).mono ?_
  rintro e w' ⟨rfl, rfl⟩
  rw [HX.out]
  go_wp2_with fail
  refine (rgcd_calls a b HA.out HB.out w).mono ?_
  rintro e w' ⟨rfl, rfl⟩
  rw [HX.out]
  go_wp2_with fail
  refine (awake_calls w).mono ?_
  rintro e w1 ⟨rfl, hb⟩
  have HB1 := Lib.hid hb
  clear hb
  go_wp2
  go_ret
  exact ⟨rfl, HB1.out⟩
end Go.Proofs.Ytjlocegopdepeaa
