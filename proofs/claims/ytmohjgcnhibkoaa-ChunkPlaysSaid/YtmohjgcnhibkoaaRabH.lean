/- rabin: the example awake; table. -/
import Derived.Test.YtmohjgcnhibkoaaRabG
namespace Go.Proofs.Ytmohjgcnhibkoaa
open Go.RowKit
set_option linter.unusedVariables false

theorem tri_u64 : U64 2147483657 := U64.of (by decide)
theorem tri_bl : bl 2147483657 = 32 := goodN_bl tri_good
theorem new_tri (w : World) :
    Calls Try.prog 26 #[.int .u64 2147483657] w fun e w' => e = .returned (.tuple #[.pointer (some ⟨w.heap.size, 0, none⟩), .int .i64 0]) ∧ TabIs w' w.heap.size 2147483657 ∧ Below w.heap.size w w' :=
  new_good 2147483657 tri_u64 tri_good w
theorem mod_93 (w : World) : Calls Try.prog 41 #[.int .u64 9, .int .u64 3] w fun e w' => e = .returned (.int .u64 0) ∧ w = w' := by
  have h : md 9 3 = 0 := by decide +kernel
  have k := mod_calls 9 3 (U64.small (by decide)) (U64.small (by decide)) w
  rw [h] at k
  exact k
theorem mul_337 (w : World) : Calls Try.prog 42 #[.int .u64 3, .int .u64 3, .int .u64 7] w fun e w' => e = .returned (.int .u64 2) ∧ w = w' := by
  have h : mulN 3 3 7 = 2 := by decide +kernel
  have k := mul_calls 3 3 7 (U64.small (by decide)) (U64.small (by decide)) (U64.small (by decide)) w
  rw [h] at k
  exact k
theorem gcd_95 (w : World) : Calls Try.prog 43 #[.int .u64 9, .int .u64 5] w fun e w' => e = .returned (.int .u64 3) ∧ w = w' := by
  have h : gc 9 5 = 3 := by decide +kernel
  have k := gcd_calls 9 5 (U64.small (by decide)) (U64.small (by decide)) w
  rw [h] at k
  exact k
theorem prime_11 (w : World) : Calls Try.prog 36 #[.int .u64 11] w fun e w' => e = .returned (.bool true) ∧ w = w' := by
  have h : primeN 11 = true := by decide +kernel
  have k := prime_calls 11 (U64.small (by decide)) w
  rw [h] at k
  exact k
theorem prime_5 (w : World) : Calls Try.prog 36 #[.int .u64 5] w fun e w' => e = .returned (.bool false) ∧ w = w' := by
  have h : primeN 5 = false := by decide +kernel
  have k := prime_calls 5 (U64.small (by decide)) w
  rw [h] at k
  exact k
theorem pr_12 : prN 2147483657 [1, 2] = 258 := by decide +kernel

-- left out: flume/flumelaw05.awake
/-- The polynomial whose table it is. -/
def tabP (p : Nat) : Nat := if goodN p = true then p else 2147483657
theorem tabP_good (p : Nat) : goodN (tabP p) = true := by
  unfold tabP
  by_cases h : goodN p = true
  · rw [if_pos h]; exact h
  · rw [if_neg h]; exact tri_good
theorem tabP_bl (p : Nat) : bl (tabP p) = 32 := goodN_bl (tabP_good p)
set_option maxHeartbeats 800000 in
theorem table_calls (p : Nat) (hp : U64 p) (w : World) :
    Calls Try.prog 13 #[.int .u64 (p : Int)] w fun e w' => ∃ g, e = .returned (.tuple #[.pointer (some ⟨g, 0, none⟩), .int .u64 (tabP p : Nat)]) ∧ TabIs w' g (tabP p) ∧ w.heap.size ≤ g ∧ Below w.heap.size w w' := by
  have HP := Lib.hid hp
  clear hp
  by_cases h : goodN p = true
  · have HE : Hid (tabP p = p) := Lib.hid (by unfold tabP; rw [if_pos h])
    have H := Lib.hid h
    clear h
    go_enter Try.func13, Try.ntmps13
    go_wp2_with fail
    refine (new_good p HP.out H.out w).mono ?_
    rintro e w1 ⟨rfl, ht, hb⟩
    have HT := Lib.hid ht
    have HB := Lib.hid hb
    clear ht hb
    go_wp2
    go_ret2
    exact ⟨w.heap.size, by rw [HE.out]; rfl, by rw [HE.out]; exact HT.out, Nat.le_refl _, HB.out⟩
  · have hf : goodN p = false := by simpa using h
    have HE : Hid (tabP p = 2147483657) := Lib.hid (by unfold tabP; rw [if_neg h])
    have H := Lib.hid hf
    clear h hf
    go_enter Try.func13, Try.ntmps13
    go_wp2_with fail
    refine (new_bad p HP.out H.out w).mono ?_
    rintro e w1 ⟨rfl, rfl⟩
    go_wp2_with fail
    refine (new_tri w).mono ?_
    rintro e w1 ⟨rfl, ht, hb⟩
    have HT := Lib.hid ht
    have HB := Lib.hid hb
    clear ht hb
    go_wp2
    go_ret2
    exact ⟨w.heap.size, by rw [HE.out]; rfl, by rw [HE.out]; exact HT.out, Nat.le_refl _, HB.out⟩
end Go.Proofs.Ytmohjgcnhibkoaa
