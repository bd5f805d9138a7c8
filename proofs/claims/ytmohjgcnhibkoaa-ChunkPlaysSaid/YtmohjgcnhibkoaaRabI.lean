/- flumeref05: Deg, Mod, Mul, Gcd: the walks. -/
import Derived.Test.YtmohjgcnhibkoaaRabH
namespace Go.Proofs.Ytmohjgcnhibkoaa
open Go.RowKit
set_option linter.unusedVariables false

theorem rdeg_calls (a : Nat) (ha : U64 a) (w : World) :
    Calls Try.prog 46 #[.int .u64 (a : Int)] w fun e w' => e = .returned (.int .i64 ((bl a : Int) - 1)) ∧ w = w' := by
  have h64 : bl a ≤ 64 := ha
  obtain ⟨n, hn⟩ : ∃ n, bl a = n := ⟨_, rfl⟩
  rw [hn] at h64
  rw [hn]
  have HN := Lib.hid hn
  have HA := Lib.hid ha
  clear hn ha
  go_enter Try.func46, Try.ntmps46
  go_wp2_with fail
  go_loop [0, 3] (fun v0 v3 => ∃ y j : Nat, v0 = .int .u64 (y : Int) ∧ v3 = .int .i64 ((j : Int) - 1) ∧ y < 18446744073709551616 ∧ j ≤ 64 ∧ Hid (bl y + j = n)) (fun v0 _ => (intOf v0).toNat)
  case atStart => exact ⟨a, 0, rfl, rfl, HA.out.lt, by omega, Lib.hid (by rw [HN.out]; rfl)⟩
  case round =>
    obtain ⟨y, j, rfl, rfl, hy, hj, HY⟩ := hrel
    by_cases h0 : y = 0
    · subst h0
      have hjn : j = n := by have := HY.out; rw [bl_zero] at this; omega
      subst hjn
      go_wp2
      go_ret
      exact ⟨rfl, rfl⟩
    · have hb := bl_half y
      have hp := bl_pos.2 h0
      have hh := HY.out
      have H2 : Hid (bl (y / 2) + (j + 1) = n) := Lib.hid (by omega)
      have hj2 : j < 64 := by omega
      clear hb hp hh
      go_wp2
      exact ⟨⟨y / 2, j + 1, by congr 1, by go_num, by omega, by omega, H2⟩, by simp only [intOf]; omega⟩

/-! ### Mod -/
theorem bit_full {x t : Nat} (h : bl x ≤ t + 1) : x / 2 ^ t % 2 = 1 ↔ bl x = t + 1 := by
  have h1 := bl_le.1 h
  constructor
  · intro e
    have : 2 ^ t ≤ x := by
      rcases Nat.lt_or_ge x (2 ^ t) with h2 | h2
      · rw [Nat.div_eq_of_lt h2] at e; omega
      · exact h2
    exact bl_of this h1
  · intro e
    have h2 : 2 ^ t ≤ x := bl_lt.1 (by omega)
    have : x / 2 ^ t = 1 := Nat.div_eq_of_lt_le (by omega) (by rw [Nat.pow_succ] at h1; omega)
    rw [this]
theorem shr_lt {x t : Nat} (h : U64 x) : x / 2 ^ t < 18446744073709551616 := Nat.lt_of_le_of_lt (Nat.div_le_self _ _) h.lt
theorem shr_cast (x t : Nat) : (x : Int) / 2 ^ t = ((x / 2 ^ t : Nat) : Int) := by simp
theorem shl_wrap {p j : Nat} (h : U64 (p * 2 ^ j)) : IntKind.u64.wrap ((p : Int) * 2 ^ j) = ((p * 2 ^ j : Nat) : Int) := by
  have := wrap_u64_nat (p * 2 ^ j)
  rw [Nat.mod_eq_of_lt h.lt] at this
  rw [← this]; congr 1

-- left out: flume/flumeref05.Mod
/-! ### Mul -/
theorem half_step (b j : Nat) : b / 2 ^ j = 2 * (b / 2 ^ (j + 1)) + b / 2 ^ j % 2 := by
  rw [Nat.pow_succ, ← Nat.div_div_eq_div_mul]; omega
theorem md_two (x p : Nat) : md (md x p * 2) p = md (2 * x) p := by
  by_cases hp : p = 0
  · subst hp; rw [md_zero_right x, md_zero_right, md_zero_right, Nat.mul_comm]
  · rw [Nat.mul_comm]; exact md_eq ((md_cg x p hp).symm.two)
theorem rmul_one (a b j p : Nat) (h : b / 2 ^ j % 2 = 1) : md (md (cm (b / 2 ^ (j + 1)) a) p * 2) p ^^^ md a p = md (cm (b / 2 ^ j) a) p := by
  rw [half_step b j, h, cm_bit_left _ 1 _ (by decide), Nat.one_mul, md_xor, md_two, Nat.xor_comm]
theorem rmul_zero (a b j p : Nat) (h : b / 2 ^ j % 2 = 0) : md (md (cm (b / 2 ^ (j + 1)) a) p * 2) p = md (cm (b / 2 ^ j) a) p := by
  rw [half_step b j, h, cm_bit_left _ 0 _ (by decide), Nat.zero_mul, Nat.zero_xor, md_two]
theorem u62 {n o : Nat} (h : bl o ≤ 62) : (o : Int) < 4611686018427387904 := by
  have := bl_le.1 h
  omega

-- left out: flume/flumeref05.Mul
/-! ### Gcd -/
-- left out: flume/flumeref05.Gcd
end Go.Proofs.Ytmohjgcnhibkoaa
