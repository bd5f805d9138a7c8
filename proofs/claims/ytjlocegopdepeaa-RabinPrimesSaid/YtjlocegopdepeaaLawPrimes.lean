/- The walk of the law RabinPrimes. -/
import Derived.Test.YtjlocegopdepeaaRabJ
namespace Go.Proofs.Ytjlocegopdepeaa
open Go.RowKit
set_option linter.unusedVariables false

set_option maxHeartbeats 1000000 in
theorem primes_walk (w : World) (p : Nat) (hp : p ≤ 18446744073709551615) :
    Calls Try.prog 6 #[.int .u64 (p : Int)] w fun e w' => e = .returned (.bool true) ∧ Below w.heap.size w w' := by
  have HP := Lib.hid (U64.of hp)
  clear hp
  obtain ⟨b, hb⟩ : ∃ b, primeN p = b := ⟨_, rfl⟩
  have HPR := Lib.hid hb
  clear hb
  rcases hgd : goodN p with _ | _
  · have HG := Lib.hid hgd
    clear hgd
    go_enter Try.func6, Try.ntmps6
    go_wp2_with fail
    refine (new_bad p HP.out HG.out w).mono ?_
    rintro e w1 ⟨rfl, rfl⟩
    go_wp2_with fail
    refine (rgood_calls p HP.out w).mono ?_
    rintro e w1 ⟨rfl, rfl⟩
    rw [HG.out]
    go_wp2_with fail
    refine (prime_calls p HP.out w).mono ?_
    rintro e w1 ⟨rfl, rfl⟩
    rw [HPR.out]
    go_wp2_with fail
    refine (rprime_calls p HP.out w).mono ?_
    rintro e w1 ⟨rfl, rfl⟩
    rw [HPR.out]
    go_wp2_with fail
    refine (awake_calls w).mono ?_
    rintro e w1 ⟨rfl, hb⟩
    have HB1 := Lib.hid hb
    clear hb
    go_wp2
    go_ret
    exact ⟨rfl, HB1.out⟩
  · have HG := Lib.hid hgd
    clear hgd
    go_enter Try.func6, Try.ntmps6
    go_wp2_with fail
    refine (new_good p HP.out HG.out w).mono ?_
    rintro e w1 ⟨rfl, _, hb⟩
    have HB := Lib.hid hb
    clear hb
    go_wp2_with fail
    refine (rgood_calls p HP.out w1).mono ?_
    rintro e w2 ⟨rfl, rfl⟩
    rw [HG.out]
    go_wp2_with fail
    refine (prime_calls p HP.out w1).mono ?_
    rintro e w2 ⟨rfl, rfl⟩
    rw [HPR.out]
    go_wp2_with fail
    refine (rprime_calls p HP.out w1).mono ?_
    rintro e w2 ⟨rfl, rfl⟩
    rw [HPR.out]
    go_wp2_with fail
    refine (awake_calls w1).mono ?_
    rintro e w2 ⟨rfl, hb⟩
    have HB1 := Lib.hid (ext_trans HB.out hb)
    clear hb
    go_wp2
    go_ret
    exact ⟨rfl, HB1.out⟩
end Go.Proofs.Ytjlocegopdepeaa
