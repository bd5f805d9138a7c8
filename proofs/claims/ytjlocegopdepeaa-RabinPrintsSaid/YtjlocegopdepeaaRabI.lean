/- flumeref05: Deg, Mod, Mul, Gcd: the walks. -/
import Derived.Test.YtjlocegopdepeaaRabH
namespace Go.Proofs.Ytjlocegopdepeaa
open Go.RowKit
set_option linter.unusedVariables false

theorem rdeg_calls (a : Nat) (ha : U64 a) (w : World) :
    Calls Try.prog 16 #[.int .u64 (a : Int)] w fun e w' => e = .returned (.int .i64 ((bl a : Int) - 1)) ∧ w = w' := by
  have h64 : bl a ≤ 64 := ha
  obtain ⟨n, hn⟩ : ∃ n, bl a = n := ⟨_, rfl⟩
  rw [hn] at h64
  rw [hn]
  have HN := Lib.hid hn
  have HA := Lib.hid ha
  clear hn ha
  go_enter Try.func16, Try.ntmps16
  go_wp2_with fail
  go_loop [0, 3] (fun v0 v3 => ∃ y j : Nat, v0 = .int .u64 (y : Int) ∧ v3 = .int .i64 ((j : Int) - 1) ∧ y < 18446744073709551616 ∧ j ≤ 64 ∧ Hid (bl y + j = n)) (fun v0 _ => (intOf v0).toNat)
  case atStart => exact ⟨a, 0, rfl, rfl, HA.out.lt, by omega, Lib.hid (by rw [HN.out]; rfl)⟩
  case round =>
    obtain ⟨y, j, rfl, rfl, hy, hj, HY⟩ := hrel
    by_cases h0 : y = 0
    · subst h0
      have hjn : j = n := by have := HY.out; rw [bl_zero] at this; omega
      subst hjn
      go_wp2
      go_ret
      exact ⟨rfl, rfl⟩
    · have hb := bl_half y
      have hp := bl_pos.2 h0
      have hh := HY.out
      have H2 : Hid (bl (y / 2) + (j + 1) = n) := Lib.hid (by omega)
      have hj2 : j < 64 := by omega
      clear hb hp hh
      go_wp2
      exact ⟨⟨y / 2, j + 1, by congr 1, by go_num, by omega, by omega, H2⟩, by simp only [intOf]; omega⟩

/-! ### Mod -/
theorem bit_full {x t : Nat} (h : bl x ≤ t + 1) : x / 2 ^ t % 2 = 1 ↔ bl x = t + 1 := by
  have h1 := bl_le.1 h
  constructor
  · intro e
    have : 2 ^ t ≤ x := by
      rcases Nat.lt_or_ge x (2 ^ t) with h2 | h2
      · rw [Nat.div_eq_of_lt h2] at e; omega
      · exact h2
    exact bl_of this h1
  · intro e
    have h2 : 2 ^ t ≤ x := bl_lt.1 (by omega)
    have : x / 2 ^ t = 1 := Nat.div_eq_of_lt_le (by omega) (by rw [Nat.pow_succ] at h1; omega)
    rw [this]
theorem shr_lt {x t : Nat} (h : U64 x) : x / 2 ^ t < 18446744073709551616 := Nat.lt_of_le_of_lt (Nat.div_le_self _ _) h.lt
theorem shr_cast (x t : Nat) : (x : Int) / 2 ^ t = ((x / 2 ^ t : Nat) : Int) := by simp
theorem shl_wrap {p j : Nat} (h : U64 (p * 2 ^ j)) : IntKind.u64.wrap ((p : Int) * 2 ^ j) = ((p * 2 ^ j : Nat) : Int) := by
  have := wrap_u64_nat (p * 2 ^ j)
  rw [Nat.mod_eq_of_lt h.lt] at this
  rw [← this]; congr 1

set_option maxHeartbeats 1000000 in
theorem rmod_calls (a p : Nat) (ha : U64 a) (hp : U64 p) (w : World) :
    Calls Try.prog 18 #[.int .u64 (a : Int), .int .u64 (p : Int)] w fun e w' => e = .returned (.int .u64 (md a p : Nat)) ∧ w = w' := by
  by_cases h0 : p = 0
  · subst h0
    rw [md_zero_right]
    go_enter Try.func18, Try.ntmps18
    go_wp2
    go_ret
    exact ⟨rfl, rfl⟩
  · have d0 : ((p : Int) == 0) = false := beq_eq_false_iff_ne.2 (by omega)
    have HP0 := Lib.hid h0
    have HP := Lib.hid hp
    have HA := Lib.hid ha
    obtain ⟨n, hn⟩ : ∃ n, bl p = n + 1 := ⟨bl p - 1, by have := bl_pos.2 h0; omega⟩
    have HN := Lib.hid hn
    have HN1 : Hid ((bl p : Int) - 1 = (n : Int)) := Lib.hid (by omega)
    have hn64 : n ≤ 63 := by have : bl p ≤ 64 := hp; omega
    clear h0 hp ha hn
    go_enter Try.func18, Try.ntmps18
    go_wp2_with fail
    refine (rdeg_calls p HP.out w).mono ?_
    rintro e w' ⟨rfl, rfl⟩
    rw [HN1.out]
    go_wp2_with fail
    go_loop [0, 6] (fun v0 v6 => ∃ x t : Nat, v0 = .int .u64 (x : Int) ∧ v6 = .int .i64 ((t : Int) - 1) ∧ n ≤ t ∧ t ≤ 64 ∧ Hid (bl x ≤ t) ∧ Hid (md x p = md a p)) (fun _ v6 => (intOf v6 + 1).toNat)
    case atStart => exact ⟨a, 64, rfl, rfl, by omega, by omega, HA, Lib.hid rfl⟩
    case round =>
      obtain ⟨x, t, rfl, rfl, h1, h2, HX, HM⟩ := hrel
      by_cases hc : t = n
      · subst hc
        have HSM : Hid (x = md a p) := Lib.hid (by rw [← HM.out]; exact (md_small (by rw [HN.out]; have := HX.out; omega)).symm)
        go_wp2
        go_ret
        exact ⟨by rw [← HSM.out]; rfl, rfl⟩
      · obtain ⟨j, rfl⟩ : ∃ j, t = j + 1 := ⟨t - 1, by omega⟩
        have ej : ((j + 1 : Nat) : Int) - 1 = (j : Int) := by omega
        rw [ej]
        have hj1 : n ≤ j := by omega
        have hj2 : j ≤ 63 := by omega
        have hX64 : U64 x := Nat.le_trans HX.out h2
        have e1 := shr_cast x j
        have e2 := and_one_u64 (x / 2 ^ j) (shr_lt hX64)
        have hbf := bit_full HX.out
        obtain ⟨q, hq⟩ : ∃ q, x / 2 ^ j = q := ⟨_, rfl⟩
        rw [hq] at e1 e2 hbf
        obtain ⟨r, hr⟩ : ∃ r, q % 2 = r := ⟨_, rfl⟩
        rw [hr] at e2 hbf
        have hr2 : r < 2 := by omega
        by_cases hb : r = 1
        · subst hb
          have hbx := hbf.1 rfl
          obtain ⟨s, hs⟩ : ∃ s, j - n = s := ⟨_, rfl⟩
          have es : (j : Int) - (n : Int) = (s : Int) := by omega
          have hs1 := step_bl HP0.out (show bl p ≤ bl x by rw [HN.out, hbx]; omega)
          have hs2 := md_step (a := x) (p := p) (bl x - bl p)
          have hbs : bl x - bl p = s := by rw [HN.out, hbx]; omega
          rw [hbs] at hs1 hs2
          have hU : U64 (p * 2 ^ s) := by
            have := bl_mul_pow p s HP0.out
            unfold U64
            rw [HN.out] at this
            omega
          have e3 := shl_wrap hU
          have e4 := hX64.xor hU
          have HS1 : Hid (bl (x ^^^ p * 2 ^ s) ≤ j) := Lib.hid (by rw [hbx] at hs1; omega)
          have HS2 := Lib.hid (hs2.trans HM.out)
          have E3 := Lib.hid e3
          have E4 := Lib.hid e4
          have hs64 : s ≤ 63 := by omega
          clear hbf hbx hs hs1 hs2 hbs hU hX64 e3 e4 hq hr
          go_wp2_with fail
          rw [E3.out, E4.out]
          exact ⟨⟨_, j, rfl, by go_num, hj1, by omega, HS1, HS2⟩, by simp [intOf]⟩
        · obtain rfl : r = 0 := by omega
          have HS1 : Hid (bl x ≤ j) := Lib.hid (by
            have k1 := HX.out
            have k2 : bl x ≠ j + 1 := fun e => by have := hbf.2 e; omega
            omega)
          clear hbf hX64 hq hr
          go_wp2_with fail
          exact ⟨⟨_, j, rfl, by go_num, hj1, by omega, HS1, HM⟩, by simp [intOf]⟩

/-! ### Mul -/
theorem half_step (b j : Nat) : b / 2 ^ j = 2 * (b / 2 ^ (j + 1)) + b / 2 ^ j % 2 := by
  rw [Nat.pow_succ, ← Nat.div_div_eq_div_mul]; omega
theorem md_two (x p : Nat) : md (md x p * 2) p = md (2 * x) p := by
  by_cases hp : p = 0
  · subst hp; rw [md_zero_right x, md_zero_right, md_zero_right, Nat.mul_comm]
  · rw [Nat.mul_comm]; exact md_eq ((md_cg x p hp).symm.two)
theorem rmul_one (a b j p : Nat) (h : b / 2 ^ j % 2 = 1) : md (md (cm (b / 2 ^ (j + 1)) a) p * 2) p ^^^ md a p = md (cm (b / 2 ^ j) a) p := by
  rw [half_step b j, h, cm_bit_left _ 1 _ (by decide), Nat.one_mul, md_xor, md_two, Nat.xor_comm]
theorem rmul_zero (a b j p : Nat) (h : b / 2 ^ j % 2 = 0) : md (md (cm (b / 2 ^ (j + 1)) a) p * 2) p = md (cm (b / 2 ^ j) a) p := by
  rw [half_step b j, h, cm_bit_left _ 0 _ (by decide), Nat.zero_mul, Nat.zero_xor, md_two]
theorem u62 {n o : Nat} (h : bl o ≤ 62) : (o : Int) < 4611686018427387904 := by
  have := bl_le.1 h
  omega

set_option maxHeartbeats 1000000 in
theorem rmul_calls (a b p : Nat) (ha : U64 a) (hb : U64 b) (hp : U64 p) (w : World) :
    Calls Try.prog 21 #[.int .u64 (a : Int), .int .u64 (b : Int), .int .u64 (p : Int)] w fun e w' => e = .returned (.int .u64 (mulN a b p : Nat)) ∧ w = w' := by
  by_cases h0 : p = 0
  · subst h0
    have HE : Hid (mulN a b 0 = 0) := Lib.hid (by unfold mulN; rw [if_pos (.inl rfl)])
    go_enter Try.func21, Try.ntmps21
    go_wp2
    go_ret
    exact ⟨by rw [HE.out]; rfl, rfl⟩
  · have d0 : ((p : Int) == 0) = false := beq_eq_false_iff_ne.2 (by omega)
    obtain ⟨n, hn⟩ : ∃ n, bl p = n := ⟨_, rfl⟩
    have HN := Lib.hid hn
    have hn64 : n ≤ 64 := by rw [← hn]; exact hp
    have HP := Lib.hid hp
    have HP0 := Lib.hid h0
    have HA := Lib.hid ha
    have HB := Lib.hid hb
    by_cases h63 : 63 < n
    · have HE : Hid (mulN a b p = 0) := Lib.hid (by unfold mulN; rw [if_pos (.inr (by rw [hn]; exact h63))])
      clear h0 hn hp ha hb
      go_enter Try.func21, Try.ntmps21
      go_wp2_with fail
      refine (rdeg_calls p HP.out w).mono ?_
      rintro e w' ⟨rfl, rfl⟩
      rw [HN.out]
      go_wp2
      go_ret
      exact ⟨by rw [HE.out]; rfl, rfl⟩
    · have HE : Hid (mulN a b p = md (cm a b) p) := Lib.hid (by unfold mulN; rw [if_neg (by rw [hn]; omega)])
      have hn63 : n ≤ 63 := by omega
      have hz : b / 2 ^ 64 = 0 := Nat.div_eq_of_lt (by have := hb.lt; omega)
      have HZ := Lib.hid hz
      clear h0 hn hp ha hb h63 hz
      go_enter Try.func21, Try.ntmps21
      go_wp2_with fail
      refine (rdeg_calls p HP.out w).mono ?_
      rintro e w' ⟨rfl, rfl⟩
      rw [HN.out]
      go_wp2_with fail
      go_loop [7, 8] (fun v7 v8 => ∃ o t : Nat, v7 = .int .u64 (o : Int) ∧ v8 = .int .i64 ((t : Int) - 1) ∧ t ≤ 64 ∧ Hid (o = md (cm (b / 2 ^ t) a) p)) (fun _ v8 => (intOf v8 + 1).toNat)
      case atStart => exact ⟨0, 64, rfl, rfl, by omega, Lib.hid (by rw [HZ.out]; rfl)⟩
      case round =>
        obtain ⟨o, t, rfl, rfl, h1, HO⟩ := hrel
        by_cases hc : t = 0
        · subst hc
          have HF : Hid (o = mulN a b p) := Lib.hid (by rw [HE.out, HO.out, cm_comm a b]; simp)
          go_wp2
          go_ret
          exact ⟨by rw [← HF.out]; rfl, rfl⟩
        · obtain ⟨j, rfl⟩ : ∃ j, t = j + 1 := ⟨t - 1, by omega⟩
          have ej : ((j + 1 : Nat) : Int) - 1 = (j : Int) := by omega
          rw [ej]
          have hj2 : j ≤ 63 := by omega
          have hob : bl o < n := by rw [HO.out, ← HN.out]; exact md_lt _ p HP0.out
          have ho62 : (o : Int) < 4611686018427387904 := u62 (n := 0) (by omega)
          have HO2 : Hid (U64 (o * 2)) := Lib.hid (U64.of (by omega))
          have e0 : Hid ((o : Int) * 2 = ((o * 2 : Nat) : Int)) := Lib.hid (by omega)
          clear hob
          go_wp2_with fail
          rw [e0.out]
          refine (rmod_calls (o * 2) p HO2.out HP.out w).mono ?_
          rintro e w' ⟨rfl, rfl⟩
          have hb64 := HB.out
          have e1 := shr_cast b j
          have e2 := and_one_u64 (b / 2 ^ j) (shr_lt hb64)
          obtain ⟨q, hq⟩ : ∃ q, b / 2 ^ j = q := ⟨_, rfl⟩
          have HQ := Lib.hid hq
          rw [hq] at e1 e2
          obtain ⟨r, hr⟩ : ∃ r, q % 2 = r := ⟨_, rfl⟩
          rw [hr] at e2
          have hr2 : r < 2 := by omega
          have hqr : b / 2 ^ j % 2 = r := by rw [hq, hr]
          have HQR := Lib.hid hqr
          obtain ⟨o2, ho2⟩ : ∃ o2, md (o * 2) p = o2 := ⟨_, rfl⟩
          rw [ho2]
          have HU2 : Hid (U64 o2) := Lib.hid (by rw [← ho2]; exact HO2.out.md)
          have HO22 := Lib.hid ho2
          clear hb64 hq hr hqr ho2
          by_cases hbit : r = 1
          · subst hbit
            go_wp2_with fail
            refine (rmod_calls a p HA.out HP.out w).mono ?_
            rintro e w' ⟨rfl, rfl⟩
            have e4 := HU2.out.xor (HA.out.md (p := p))
            have hf := rmul_one a b j p HQR.out
            rw [← HO.out, HO22.out] at hf
            have HF := Lib.hid hf
            have E4 := Lib.hid e4
            clear hf e4
            go_wp2_with fail
            rw [E4.out]
            exact ⟨⟨_, j, rfl, by go_num, by omega, HF⟩, by simp [intOf]⟩
          · obtain rfl : r = 0 := by omega
            have hf := rmul_zero a b j p HQR.out
            rw [← HO.out, HO22.out] at hf
            have HF := Lib.hid hf
            clear hf
            go_wp2_with fail
            exact ⟨⟨_, j, rfl, by go_num, by omega, HF⟩, by simp [intOf]⟩

/-! ### Gcd -/
set_option maxRecDepth 8000 in
theorem rgcd_calls (a b : Nat) (ha : U64 a) (hb : U64 b) (w : World) :
    Calls Try.prog 23 #[.int .u64 (a : Int), .int .u64 (b : Int)] w fun e w' => e = .returned (.int .u64 (gc a b : Nat)) ∧ w = w' := by
  have HA := Lib.hid ha
  have HB := Lib.hid hb
  clear ha hb
  go_enter Try.func23, Try.ntmps23
  go_wp2_with fail
  go_loop [0, 1, 6] (fun v0 v1 v6 => ∃ x y k : Nat, v0 = .int .u64 (x : Int) ∧ v1 = .int .u64 (y : Int) ∧ v6 = .int .i64 (k : Int) ∧ k ≤ 64 ∧ Hid (U64 x) ∧ Hid (U64 y) ∧ Hid (bl y + k ≤ 64) ∧ Hid (gc x y = gc a b)) (fun _ v1 _ => bl (intOf v1).toNat)
  case atStart => exact ⟨a, b, 0, rfl, rfl, rfl, by omega, HA, HB, Lib.hid HB.out, Lib.hid rfl⟩
  case round =>
    obtain ⟨x, y, k, rfl, rfl, rfl, hk, HX, HY, HK, HG⟩ := hrel
    by_cases h0 : y = 0
    · subst h0
      have HF : Hid (x = gc a b) := Lib.hid (by rw [← HG.out, gc_zero])
      go_wp2
      go_ret
      exact ⟨by rw [← HF.out]; rfl, rfl⟩
    · have d0 : ((y : Int) == 0) = false := beq_eq_false_iff_ne.2 (by omega)
      have hs := gc_step (a := x) h0
      have hlt := md_lt x y h0
      have HS := Lib.hid (hs.symm.trans HG.out)
      have HLT := Lib.hid hlt
      have HU : Hid (U64 (md x y)) := Lib.hid (by have := HY.out; unfold U64 at *; omega)
      have hk2 : k < 64 := by have := HK.out; omega
      have HK2 : Hid (bl (md x y) + (k + 1) ≤ 64) := Lib.hid (by have := HK.out; omega)
      clear hs hlt h0
      go_wp2_with fail
      refine (rmod_calls x y HX.out HY.out w).mono ?_
      rintro e w' ⟨rfl, rfl⟩
      generalize md x y = z at *
      go_wp2
      exact ⟨⟨y, z, k + 1, rfl, rfl, by go_num, by omega, HY, HU, HK2, HS⟩, by simp only [intOf, Int.toNat_natCast]; exact HLT.out⟩
end Go.Proofs.Ytjlocegopdepeaa
