/- rabin: Mul, Gcd, Prime: the walks. -/
import Derived.Test.YtmohjgcnhibkoaaRabA
namespace Go.Proofs.Ytmohjgcnhibkoaa
open Go.RowKit
set_option linter.unusedVariables false

theorem and_one_u64 (b : Nat) (h : b < 18446744073709551616) : bits .and .u64 (b : Int) 1 = ((b % 2 : Nat) : Int) := by
  rw [show (1 : Int) = ((1 : Nat) : Int) from rfl, and_u64 _ _ h (by decide)]
  congr 1
  exact Nat.and_two_pow_sub_one_eq_mod b 1
theorem U64.half {b : Nat} (h : U64 b) : U64 (b / 2) := by unfold U64 at *; rw [bl_half]; omega
/-- A round of the product. -/
theorem mul_round (p α β ω c : Nat) (h : md (ω ^^^ cm β α) p = c) : md ((ω ^^^ α * (β % 2)) ^^^ cm (β / 2) (md (α * 2) p)) p = c := by
  rw [← h, md_xor, md_cm_md, ← md_xor, Nat.mul_comm α 2, cm_two_right, cm_step β α, ← Nat.xor_assoc]
  congr 2
  rcases Nat.mod_two_eq_zero_or_one β with e | e <;> simp [e]

set_option maxHeartbeats 1000000 in
theorem mul_calls (a b p : Nat) (ha : U64 a) (hb : U64 b) (hp : U64 p) (w : World) :
    Calls Try.prog 42 #[.int .u64 (a : Int), .int .u64 (b : Int), .int .u64 (p : Int)] w fun e w' => e = .returned (.int .u64 (mulN a b p : Nat)) ∧ w = w' := by
  by_cases h0 : p = 0
  · subst h0
    have HE : Hid (mulN a b 0 = 0) := Lib.hid (by unfold mulN; rw [if_pos (.inl rfl)])
    go_enter Try.func42, Try.ntmps42
    go_wp2
    go_ret
    exact ⟨by rw [HE.out]; rfl, rfl⟩
  · have d0 : ((p : Int) == 0) = false := beq_eq_false_iff_ne.2 (by omega)
    by_cases h63 : 63 < bl p
    · have HE : Hid (mulN a b p = 0) := Lib.hid (by unfold mulN; rw [if_pos (.inr h63)])
      have HP := Lib.hid hp
      obtain ⟨n, hn⟩ : ∃ n, bl p = n := ⟨_, rfl⟩
      rw [hn] at h63
      have HN := Lib.hid hn
      have hn64 : n ≤ 64 := by rw [← hn]; exact hp
      clear h0 hn hp
      go_enter Try.func42, Try.ntmps42
      go_wp2_with fail
      refine (deg_calls p HP.out w).mono ?_
      rintro e w' ⟨rfl, rfl⟩
      rw [HN.out]
      go_wp2
      go_ret
      exact ⟨by rw [HE.out]; rfl, rfl⟩
    · have HE : Hid (mulN a b p = md (cm a b) p) := Lib.hid (by unfold mulN; rw [if_neg (by omega)])
      have HP := Lib.hid hp
      have HP0 := Lib.hid h0
      have HA := Lib.hid ha
      have HB := Lib.hid hb
      obtain ⟨n, hn⟩ : ∃ n, bl p = n := ⟨_, rfl⟩
      rw [hn] at h63
      have HN := Lib.hid hn
      have hn63 : n ≤ 63 := by omega
      clear h0 hn hp ha hb h63
      go_enter Try.func42, Try.ntmps42
      go_wp2_with fail
      refine (deg_calls p HP.out w).mono ?_
      rintro e w' ⟨rfl, rfl⟩
      rw [HN.out]
      go_wp2_with fail
      refine (mod_calls a p HA.out HP.out w).mono ?_
      rintro e w' ⟨rfl, rfl⟩
      go_wp2_with fail
      go_loop [0, 1, 7] (fun v0 v1 v7 => ∃ α β ω : Nat, v0 = .int .u64 (α : Int) ∧ v1 = .int .u64 (β : Int) ∧ v7 = .int .u64 (ω : Int) ∧ Hid (U64 β) ∧ Hid (bl α < n) ∧ Hid (bl ω < n) ∧ Hid (md (ω ^^^ cm β α) p = md (cm a b) p)) (fun _ v1 _ => bl (intOf v1).toNat)
      case atStart => exact ⟨md a p, b, 0, rfl, rfl, rfl, HB, Lib.hid (by rw [← HN.out]; exact md_lt a p HP0.out), Lib.hid (by rw [bl_zero, ← HN.out]; exact bl_pos.2 HP0.out), Lib.hid (by rw [Nat.zero_xor, md_cm_md, cm_comm])⟩
      case round =>
        obtain ⟨α, β, ω, rfl, rfl, rfl, HBb, HAl, HOm, HM⟩ := hrel
        have ha63 : α < 9223372036854775808 := Nat.lt_of_lt_of_le (bl_le.1 (Nat.le_refl _)) (by
          have : bl α ≤ 62 := by have := HAl.out; omega
          exact Nat.le_trans (Nat.pow_le_pow_right (by decide) this) (by decide))
        have ho64 : U64 ω := by have := HOm.out; unfold U64; omega
        have hb64 := HBb.out.lt
        by_cases hβ : 0 < β
        · have h1 := and_one_u64 β hb64
          obtain ⟨r, hr⟩ : ∃ r, β % 2 = r := ⟨_, rfl⟩
          have hr2 : r < 2 := by omega
          rw [hr] at h1
          obtain ⟨γ, hγ⟩ : ∃ γ, α * r = γ := ⟨_, rfl⟩
          have h2 : (α : Int) * (r : Int) = (γ : Int) := by rw [← hγ]; simp
          have hγ2 : γ ≤ α := by
            rw [← hγ]
            have : r ≤ 1 := by omega
            exact Nat.le_trans (Nat.mul_le_mul_left α this) (by omega)
          have hγ0 : (0 : Int) ≤ γ := by omega
          have hγ1 : (γ : Int) < 9223372036854775808 := by omega
          have hγU : U64 γ := U64.of (by omega)
          have h3 := ho64.xor hγU
          have hγbl : bl γ ≤ bl α := by
            rw [← hγ]
            have : r = 0 ∨ r = 1 := by omega
            rcases this with e | e
            · rw [e, Nat.mul_zero, bl_zero]; omega
            · rw [e, Nat.mul_one]; exact Nat.le_refl _
          have hrd := mul_round p α β ω _ HM.out
          rw [hr, hγ] at hrd
          have HRD := Lib.hid hrd
          have HO2 : Hid (bl (ω ^^^ γ) < n) := Lib.hid (bl_xor_lt HOm.out (by have := HAl.out; omega))
          have H2A : Hid (U64 (α * 2)) := Lib.hid (U64.of (by omega))
          have e2 : Hid ((α : Int) * 2 = ((α * 2 : Nat) : Int)) := Lib.hid (by omega)
          have HBH := Lib.hid HBb.out.half
          have HLT : Hid (bl (β / 2) < bl β) := Lib.hid (by rw [bl_half]; have := bl_pos.2 (show β ≠ 0 by omega); omega)
          have HX := Lib.hid h3
          clear hr hγ hrd hγbl hγU ho64 h3
          go_wp2_with fail
          rw [HX.out, e2.out]
          refine (mod_calls (α * 2) p H2A.out HP.out w).mono ?_
          rintro e w' ⟨rfl, rfl⟩
          have HA2 : Hid (bl (md (α * 2) p) < n) := Lib.hid (by rw [← HN.out]; exact md_lt _ p HP0.out)
          generalize md (α * 2) p = α' at *
          go_wp2
          exact ⟨⟨α', β / 2, ω ^^^ γ, rfl, by go_num, rfl, HBH, HA2, HO2, HRD⟩, by
            have e3 : (β : Int) / 2 = ((β / 2 : Nat) : Int) := by omega
            simp only [intOf]
            rw [e3, Int.toNat_natCast, Int.toNat_natCast]
            exact HLT.out⟩
        · obtain rfl : β = 0 := by omega
          have HF : Hid (md ω p = md (cm a b) p) := Lib.hid (by have := HM.out; rwa [cm_zero_left, Nat.xor_zero] at this)
          have HO := Lib.hid ho64
          clear ho64 hβ
          go_wp2_with fail
          refine (mod_calls ω p HO.out HP.out w).mono ?_
          rintro e w' ⟨rfl, rfl⟩
          go_wp2
          go_ret
          exact ⟨by rw [HE.out, ← HF.out]; rfl, rfl⟩

theorem gcd_calls (a b : Nat) (ha : U64 a) (hb : U64 b) (w : World) :
    Calls Try.prog 43 #[.int .u64 (a : Int), .int .u64 (b : Int)] w fun e w' => e = .returned (.int .u64 (gc a b : Nat)) ∧ w = w' := by
  have HA := Lib.hid ha
  have HB := Lib.hid hb
  clear ha hb
  go_enter Try.func43, Try.ntmps43
  go_wp2_with fail
  go_loop [0, 1] (fun v0 v1 => ∃ x y : Nat, v0 = .int .u64 (x : Int) ∧ v1 = .int .u64 (y : Int) ∧ Hid (U64 x) ∧ Hid (U64 y) ∧ Hid (gc x y = gc a b)) (fun _ v1 => bl (intOf v1).toNat)
  case atStart => exact ⟨a, b, rfl, rfl, HA, HB, Lib.hid rfl⟩
  case round =>
    obtain ⟨x, y, rfl, rfl, HX, HY, HG⟩ := hrel
    by_cases h0 : y = 0
    · subst h0
      have HF : Hid (x = gc a b) := Lib.hid (by rw [← HG.out, gc_zero])
      go_wp2
      go_ret
      exact ⟨by rw [← HF.out]; rfl, rfl⟩
    · have d0 : ((y : Int) != 0) = true := by rw [bne_iff_ne]; omega
      have hs := gc_step (a := x) h0
      have hlt := md_lt x y h0
      have HS := Lib.hid (hs.symm.trans HG.out)
      have HLT := Lib.hid hlt
      have HU : Hid (U64 (md x y)) := Lib.hid (by have := HY.out; unfold U64 at *; omega)
      clear hs hlt h0
      go_wp2_with fail
      refine (mod_calls x y HX.out HY.out w).mono ?_
      rintro e w' ⟨rfl, rfl⟩
      generalize md x y = z at *
      go_wp2
      exact ⟨⟨y, z, rfl, rfl, HY, HU, HS⟩, by simp only [intOf, Int.toNat_natCast]; exact HLT.out⟩

theorem U64.md {a p : Nat} (h : U64 a) : U64 (md a p) := Nat.le_trans (md_le a p) h
theorem U64.small {n : Nat} (h : n ≤ 1000) : U64 n := U64.of (by omega)
theorem gc_u64 {a b : Nat} (ha : U64 a) (hb : U64 b) : U64 (gc a b) := by
  obtain ⟨h1, h2⟩ := gc_dv (bl b) a b (Nat.le_refl _)
  by_cases h0 : b = 0
  · subst h0; rw [gc_zero]; exact ha
  · exact Nat.le_trans (dv_bl h2 h0) hb
theorem mod2_calls (p : Nat) (hp : U64 p) (w : World) :
    Calls Try.prog 41 #[.int .u64 2, .int .u64 (p : Int)] w fun e w' => e = .returned (.int .u64 (md 2 p : Nat)) ∧ w = w' := mod_calls 2 p (U64.small (by decide)) hp w

set_option maxHeartbeats 1000000 in
theorem prime_calls (p : Nat) (hp : U64 p) (w : World) :
    Calls Try.prog 36 #[.int .u64 (p : Int)] w fun e w' => e = .returned (.bool (primeN p)) ∧ w = w' := by
  have HP := Lib.hid hp
  by_cases h1 : bl p < 2
  · have HE : Hid (primeN p = false) := Lib.hid (by unfold primeN; rw [decide_eq_false (by omega)]; rfl)
    obtain ⟨n, hn⟩ : ∃ n, bl p = n := ⟨_, rfl⟩
    rw [hn] at h1
    have HN := Lib.hid hn
    clear hn hp
    go_enter Try.func36, Try.ntmps36
    go_wp2_with fail
    refine (deg_calls p HP.out w).mono ?_
    rintro e w' ⟨rfl, rfl⟩
    rw [HN.out]
    go_wp2
    go_ret
    exact ⟨by rw [HE.out]; rfl, rfl⟩
  · by_cases h2 : 32 < bl p
    · have HE : Hid (primeN p = false) := Lib.hid (by unfold primeN; rw [decide_eq_false (by omega)]; rfl)
      obtain ⟨n, hn⟩ : ∃ n, bl p = n := ⟨_, rfl⟩
      rw [hn] at h1 h2
      have hn64 : n ≤ 64 := by rw [← hn]; exact hp
      have HN := Lib.hid hn
      clear hn hp
      go_enter Try.func36, Try.ntmps36
      go_wp2_with fail
      refine (deg_calls p HP.out w).mono ?_
      rintro e w' ⟨rfl, rfl⟩
      rw [HN.out]
      go_wp2
      go_ret
      exact ⟨by rw [HE.out]; rfl, rfl⟩
    · obtain ⟨n, hn⟩ : ∃ n, bl p = n + 1 := ⟨bl p - 1, by omega⟩
      obtain ⟨R, hR⟩ : ∃ R, n / 2 = R := ⟨_, rfl⟩
      have HE : Hid (primeN p = prLoop p R (md 2 p)) := Lib.hid (by unfold primeN; rw [decide_eq_true (by omega), Bool.true_and, hn, Nat.add_sub_cancel, hR])
      have eN : Hid ((bl p : Int) - 1 = (n : Int)) := Lib.hid (by omega)
      have eR : (n : Int) / 2 = (R : Int) := by omega
      have hn1 : (1 : Int) ≤ n := by omega
      have hn2 : (n : Int) ≤ 31 := by omega
      have hR2 : R ≤ 15 := by omega
      have hmul : ∀ x, mulN x x p = md (cm x x) p := fun x => by
        unfold mulN
        rw [if_neg]
        rintro (e | e)
        · rw [e, bl_zero] at hn; omega
        · omega
      have HMUL := Lib.hid hmul
      have HP0 : Hid (p ≠ 0) := Lib.hid (by intro e; rw [e, bl_zero] at hn; omega)
      clear hn hp hR h1 h2 hmul
      go_enter Try.func36, Try.ntmps36
      go_wp2_with fail
      refine (deg_calls p HP.out w).mono ?_
      rintro e w' ⟨rfl, rfl⟩
      rw [eN.out]
      go_wp2_with fail
      refine (mod2_calls p HP.out w).mono ?_
      rintro e w' ⟨rfl, rfl⟩
      go_wp2_with fail
      go_loop [4, 17] (fun v4 v17 => ∃ x i : Nat, v4 = .int .u64 (x : Int) ∧ v17 = .int .i64 (i : Int) ∧ i ≤ R ∧ Hid (U64 x) ∧ Hid (prLoop p (R - i) x = prLoop p R (md 2 p))) (fun _ v17 => R - (intOf v17).toNat)
      case atStart => exact ⟨md 2 p, 0, rfl, rfl, Nat.zero_le _, Lib.hid (U64.small (by decide)).md, Lib.hid rfl⟩
      case round =>
        obtain ⟨x, i, rfl, rfl, hi, HX, HL⟩ := hrel
        by_cases hlt : i < R
        · obtain ⟨d, hd⟩ : ∃ d, R - i = d + 1 := ⟨R - i - 1, by omega⟩
          have hl := HL.out
          rw [hd, prLoop] at hl
          have hd2 : R - (i + 1) = d := by omega
          have HL2 := Lib.hid hl
          have HD2 := Lib.hid hd2
          clear hl hd hd2
          go_wp2_with fail
          refine (mul_calls x x p HX.out HX.out HP.out w).mono ?_
          rintro e w' ⟨rfl, rfl⟩
          rw [HMUL.out]
          have HYU : Hid (U64 (md (cm x x) p)) := Lib.hid (by have := md_lt (cm x x) p HP0.out; have := HP.out; unfold U64 at *; omega)
          generalize md (cm x x) p = y at *
          go_wp2_with fail
          refine (mod2_calls p HP.out w).mono ?_
          rintro e w' ⟨rfl, rfl⟩
          have H2U : Hid (U64 (md 2 p)) := Lib.hid (U64.small (by decide)).md
          have HXX := Lib.hid (HYU.out.xor H2U.out)
          have HU3 := Lib.hid (u64_max HYU.out H2U.out)
          go_wp2_with fail
          rw [HXX.out]
          refine (gcd_calls p (y ^^^ md 2 p) HP.out HU3.out w).mono ?_
          rintro e w' ⟨rfl, rfl⟩
          have HGU := Lib.hid (gc_u64 HP.out HU3.out)
          generalize gc p (y ^^^ md 2 p) = gg at *
          go_wp2_with fail
          refine (deg_calls gg HGU.out w).mono ?_
          rintro e w' ⟨rfl, rfl⟩
          by_cases hg : 1 < bl gg
          · have HF : Hid (primeN p = false) := Lib.hid (by rw [HE.out, ← HL2.out, if_pos hg])
            generalize bl gg = q at *
            go_wp2
            go_ret
            exact ⟨by rw [HF.out]; rfl, rfl⟩
          · have HC : Hid (prLoop p (R - (i + 1)) y = prLoop p R (md 2 p)) := Lib.hid (by rw [HD2.out, ← HL2.out, if_neg hg])
            generalize bl gg = q at *
            go_wp2
            exact ⟨⟨y, i + 1, rfl, by go_num, by omega, HYU, HC⟩, by simp [intOf]; omega⟩
        · obtain rfl : i = R := by omega
          have HF : Hid (primeN p = true) := Lib.hid (by rw [HE.out, ← HL.out, Nat.sub_self]; rfl)
          go_wp2
          go_ret
          exact ⟨by rw [HF.out]; rfl, rfl⟩
end Go.Proofs.Ytmohjgcnhibkoaa
