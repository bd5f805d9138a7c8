/- rabin: the example awake; table. -/
import Derived.Test.YtjlocegopdepeaaRabG
namespace Go.Proofs.Ytjlocegopdepeaa
open Go.RowKit
set_option linter.unusedVariables false

theorem tri_u64 : U64 2147483657 := U64.of (by decide)
theorem tri_bl : bl 2147483657 = 32 := goodN_bl tri_good
theorem new_tri (w : World) :
    Calls Try.prog 24 #[.int .u64 2147483657] w fun e w' => e = .returned (.tuple #[.pointer (some ⟨w.heap.size, 0, none⟩), .int .i64 0]) ∧ TabIs w' w.heap.size 2147483657 ∧ Below w.heap.size w w' :=
  new_good 2147483657 tri_u64 tri_good w
theorem mod_93 (w : World) : Calls Try.prog 17 #[.int .u64 9, .int .u64 3] w fun e w' => e = .returned (.int .u64 0) ∧ w = w' := by
  have h : md 9 3 = 0 := by decide +kernel
  have k := mod_calls 9 3 (U64.small (by decide)) (U64.small (by decide)) w
  rw [h] at k
  exact k
theorem mul_337 (w : World) : Calls Try.prog 20 #[.int .u64 3, .int .u64 3, .int .u64 7] w fun e w' => e = .returned (.int .u64 2) ∧ w = w' := by
  have h : mulN 3 3 7 = 2 := by decide +kernel
  have k := mul_calls 3 3 7 (U64.small (by decide)) (U64.small (by decide)) (U64.small (by decide)) w
  rw [h] at k
  exact k
theorem gcd_95 (w : World) : Calls Try.prog 22 #[.int .u64 9, .int .u64 5] w fun e w' => e = .returned (.int .u64 3) ∧ w = w' := by
  have h : gc 9 5 = 3 := by decide +kernel
  have k := gcd_calls 9 5 (U64.small (by decide)) (U64.small (by decide)) w
  rw [h] at k
  exact k
theorem prime_11 (w : World) : Calls Try.prog 26 #[.int .u64 11] w fun e w' => e = .returned (.bool true) ∧ w = w' := by
  have h : primeN 11 = true := by decide +kernel
  have k := prime_calls 11 (U64.small (by decide)) w
  rw [h] at k
  exact k
theorem prime_5 (w : World) : Calls Try.prog 26 #[.int .u64 5] w fun e w' => e = .returned (.bool false) ∧ w = w' := by
  have h : primeN 5 = false := by decide +kernel
  have k := prime_calls 5 (U64.small (by decide)) w
  rw [h] at k
  exact k
theorem pr_12 : prN 2147483657 [1, 2] = 258 := by decide +kernel

set_option maxRecDepth 100000 in
set_option maxHeartbeats 1600000 in
theorem awake_calls (w : World) : Calls Try.prog 19 #[] w fun e w' => e = .returned (.bool true) ∧ Below w.heap.size w w' := by
  go_enter Try.func19, Try.ntmps19
  go_wp2_with fail
  refine (new_tri w).mono ?_
  rintro e w1 ⟨rfl, ht, hb⟩
  obtain ⟨g, hg⟩ : ∃ g, w.heap.size = g := ⟨_, rfl⟩
  rw [hg] at ht hb
  rw [hg]
  have HG := Lib.hid hg
  have HT := Lib.hid ht
  have HB := Lib.hid hb
  clear hg ht hb
  go_wp2_with fail
  refine (mod_93 w1).mono ?_
  rintro e w2 ⟨rfl, rfl⟩
  go_wp2_with fail
  refine (mul_337 w1).mono ?_
  rintro e w2 ⟨rfl, rfl⟩
  go_wp2_with fail
  refine (gcd_95 w1).mono ?_
  rintro e w2 ⟨rfl, rfl⟩
  go_wp2_with fail
  refine (prime_11 w1).mono ?_
  rintro e w2 ⟨rfl, rfl⟩
  go_wp2_with fail
  refine (prime_5 w1).mono ?_
  rintro e w2 ⟨rfl, rfl⟩
  go_wp2_with fail
  have hr : RB (w1.alloc (.cells #[.int .u8 1, .int .u8 2] 5)) (some ⟨w1.heap.size, 0, none⟩) [1, 2] := by
    intro i hi
    have hi2 : i < 2 := hi
    match i, hi2 with
    | 0, _ => exact ⟨w1.heap.size, 0, rfl, by simp [gb]⟩
    | 1, _ => exact ⟨w1.heap.size, 0, rfl, by simp [gb]⟩
  refine (print_calls g 2147483657 tri_bl (some ⟨w1.heap.size, 0, none⟩) 2 [1, 2] _ (HT.out.ext (ext_alloc w1 _)) hr (fun _ _ _ e => by cases e; have := HT.out.lt; omega) (by decide)).mono ?_
  rintro e w3 ⟨rfl, hf, hg3⟩
  rw [pr_12]
  have hp := hf.is.poly
  have hb3 := below_grown (HB.out.alloc (HT.out.lt |> Nat.le_of_lt) _) hg3 (by have := HT.out.lt; simp; omega) (Nat.le_refl _)
  have HB3 := Lib.hid hb3
  clear hr hf hg3 hb3
  go_wp2_with fail
  refine (poly_calls g 2147483657 w3 hp).mono ?_
  rintro e w4 ⟨rfl, rfl⟩
  clear hp
  go_wp2
  go_ret
  exact ⟨rfl, by rw [HG.out]; exact HB3.out⟩

/-- The polynomial whose table it is. -/
def tabP (p : Nat) : Nat := if goodN p = true then p else 2147483657
theorem tabP_good (p : Nat) : goodN (tabP p) = true := by
  unfold tabP
  by_cases h : goodN p = true
  · rw [if_pos h]; exact h
  · rw [if_neg h]; exact tri_good
theorem tabP_bl (p : Nat) : bl (tabP p) = 32 := goodN_bl (tabP_good p)
set_option maxHeartbeats 800000 in
theorem table_calls (p : Nat) (hp : U64 p) (w : World) :
    Calls Try.prog 28 #[.int .u64 (p : Int)] w fun e w' => ∃ g, e = .returned (.tuple #[.pointer (some ⟨g, 0, none⟩), .int .u64 (tabP p : Nat)]) ∧ TabIs w' g (tabP p) ∧ w.heap.size ≤ g ∧ Below w.heap.size w w' := by
  have HP := Lib.hid hp
  clear hp
  by_cases h : goodN p = true
  · have HE : Hid (tabP p = p) := Lib.hid (by unfold tabP; rw [if_pos h])
    have H := Lib.hid h
    clear h
    go_enter Try.func28, Try.ntmps28
    go_wp2_with fail
    refine (new_good p HP.out H.out w).mono ?_
    rintro e w1 ⟨rfl, ht, hb⟩
    have HT := Lib.hid ht
    have HB := Lib.hid hb
    clear ht hb
    go_wp2
    go_ret2
    exact ⟨w.heap.size, by rw [HE.out]; rfl, by rw [HE.out]; exact HT.out, Nat.le_refl _, HB.out⟩
  · have hf : goodN p = false := by simpa using h
    have HE : Hid (tabP p = 2147483657) := Lib.hid (by unfold tabP; rw [if_neg h])
    have H := Lib.hid hf
    clear h hf
    go_enter Try.func28, Try.ntmps28
    go_wp2_with fail
    refine (new_bad p HP.out H.out w).mono ?_
    rintro e w1 ⟨rfl, rfl⟩
    go_wp2_with fail
    refine (new_tri w).mono ?_
    rintro e w1 ⟨rfl, ht, hb⟩
    have HT := Lib.hid ht
    have HB := Lib.hid hb
    clear ht hb
    go_wp2
    go_ret2
    exact ⟨w.heap.size, by rw [HE.out]; rfl, by rw [HE.out]; exact HT.out, Nat.le_refl _, HB.out⟩
end Go.Proofs.Ytjlocegopdepeaa
