/- The walks of the laws RabinLeft, RabinProducts, RabinShares. -/
import Derived.Test.YtjlocegopdepeaaRabH
namespace Go.Proofs.Ytjlocegopdepeaa
open Go.RowKit
set_option linter.unusedVariables false

set_option maxHeartbeats 1000000 in
theorem left_walk (w : World) (a : Nat) (ha : a ≤ 18446744073709551615) (b : Nat) (hb : b ≤ 18446744073709551615) (p : Nat) (hp : p ≤ 18446744073709551615) :
    Calls Try.prog 7 #[.int .u64 (a : Int), .int .u64 (b : Int), .int .u64 (p : Int)] w fun e w' => e = .returned (.bool true) ∧ Below w.heap.size w w' := by
  have HA := Lib.hid (U64.of ha)
  have HB := Lib.hid (U64.of hb)
  have HP := Lib.hid (U64.of hp)
  by_cases h0 : p = 0
  · subst h0
    have H0 := md_zero_right a
    clear ha hb hp
    go_enter Try.func7, Try.ntmps7
    go_wp2_with fail
    refine (mod_calls a 0 HA.out HP.out w).mono ?_
    rintro e w' ⟨rfl, rfl⟩
    rw [H0]
    clear H0
    go_wp2_with fail
    refine (awake_calls w).mono ?_
    rintro e w1 ⟨rfl, hb⟩
    have HB1 := Lib.hid hb
    clear hb
    go_wp2
    go_ret
    exact ⟨rfl, HB1.out⟩
  · have d0 : ((p : Int) == 0) = false := beq_eq_false_iff_ne.2 (by omega)
    obtain ⟨x, hx⟩ : ∃ x, md a p = x := ⟨_, rfl⟩
    obtain ⟨y, hy⟩ : ∃ y, md b p = y := ⟨_, rfl⟩
    have HX := Lib.hid hx
    have HY := Lib.hid hy
    have hl := md_lt a p h0
    rw [hx] at hl
    obtain ⟨n, hn⟩ : ∃ n, bl p = n := ⟨_, rfl⟩
    obtain ⟨m, hm⟩ : ∃ m, bl x = m := ⟨_, rfl⟩
    have HN := Lib.hid hn
    have HM := Lib.hid hm
    have hmn : m < n := by rw [← hn, ← hm]; exact hl
    have hn64 : n ≤ 64 := by rw [← hn]; exact HP.out
    have HXU : Hid (U64 x) := Lib.hid (by rw [← hx]; exact HA.out.md)
    have HYU : Hid (U64 y) := Lib.hid (by rw [← hy]; exact HB.out.md)
    have HMM : Hid (md x p = x) := Lib.hid (by rw [← hx]; exact md_md a p)
    have HS : Hid (md (a ^^^ b) p = x ^^^ y) := Lib.hid (by rw [md_xor, hx, hy])
    have HXO := Lib.hid (HA.out.xor HB.out)
    have HXY := Lib.hid (HXU.out.xor HYU.out)
    have HAB := Lib.hid (u64_max HA.out HB.out)
    clear ha hb hp h0 hx hy hl hn hm
    go_enter Try.func7, Try.ntmps7
    go_wp2_with fail
    refine (mod_calls a p HA.out HP.out w).mono ?_
    rintro e w' ⟨rfl, rfl⟩
    rw [HX.out]
    go_wp2_with fail
    refine (deg_calls x HXU.out w).mono ?_
    rintro e w' ⟨rfl, rfl⟩
    rw [HM.out]
    go_wp2_with fail
    refine (deg_calls p HP.out w).mono ?_
    rintro e w' ⟨rfl, rfl⟩
    rw [HN.out]
    go_wp2_with fail
    refine (mod_calls x p HXU.out HP.out w).mono ?_
    rintro e w' ⟨rfl, rfl⟩
    rw [HMM.out]
    go_wp2_with fail
    rw [HXO.out]
    refine (mod_calls (a ^^^ b) p HAB.out HP.out w).mono ?_
    rintro e w' ⟨rfl, rfl⟩
    rw [HS.out]
    go_wp2_with fail
    refine (mod_calls b p HB.out HP.out w).mono ?_
    rintro e w' ⟨rfl, rfl⟩
    rw [HY.out]
    have HXY2 := HXY.out
    generalize x ^^^ y = z at *
    go_wp2_with fail
    refine (awake_calls w).mono ?_
    rintro e w1 ⟨rfl, hb⟩
    have HB1 := Lib.hid hb
    clear hb
    go_wp2
    go_ret
    exact ⟨rfl, HB1.out⟩

set_option maxHeartbeats 1600000 in
theorem products_walk (w : World) (a : Nat) (ha : a ≤ 18446744073709551615) (b : Nat) (hb : b ≤ 18446744073709551615) (c : Nat) (hc : c ≤ 18446744073709551615) (p : Nat) (hp : p ≤ 18446744073709551615) :
    Calls Try.prog 8 #[.int .u64 (a : Int), .int .u64 (b : Int), .int .u64 (c : Int), .int .u64 (p : Int)] w fun e w' => e = .returned (.bool true) ∧ Below w.heap.size w w' := by
  have HA := Lib.hid (U64.of ha)
  have HB := Lib.hid (U64.of hb)
  have HC := Lib.hid (U64.of hc)
  have HP := Lib.hid (U64.of hp)
  by_cases h0 : p = 0
  · subst h0
    have HM : Hid (mulN a b 0 = 0) := Lib.hid (by unfold mulN; rw [if_pos (.inl rfl)])
    clear ha hb hc hp
    go_enter Try.func8, Try.ntmps8
    go_wp2_with fail
    refine (mul_calls a b 0 HA.out HB.out HP.out w).mono ?_
    rintro e w' ⟨rfl, rfl⟩
    rw [HM.out]
    go_wp2_with fail
    refine (awake_calls w).mono ?_
    rintro e w1 ⟨rfl, hb⟩
    have HB1 := Lib.hid hb
    clear hb
    go_wp2
    go_ret
    exact ⟨rfl, HB1.out⟩
  · have d0 : ((p : Int) == 0) = false := beq_eq_false_iff_ne.2 (by omega)
    obtain ⟨n, hn⟩ : ∃ n, bl p = n := ⟨_, rfl⟩
    have HN := Lib.hid hn
    have hn64 : n ≤ 64 := by rw [← hn]; exact HP.out
    by_cases h63 : 63 < n
    · have HM : Hid (mulN a b p = 0) := Lib.hid (by unfold mulN; rw [if_pos (.inr (by rw [hn]; exact h63))])
      clear ha hb hc hp hn h0
      go_enter Try.func8, Try.ntmps8
      go_wp2_with fail
      refine (deg_calls p HP.out w).mono ?_
      rintro e w' ⟨rfl, rfl⟩
      rw [HN.out]
      go_wp2_with fail
      refine (mul_calls a b p HA.out HB.out HP.out w).mono ?_
      rintro e w' ⟨rfl, rfl⟩
      rw [HM.out]
      go_wp2_with fail
      refine (awake_calls w).mono ?_
      rintro e w1 ⟨rfl, hb⟩
      have HB1 := Lib.hid hb
      clear hb
      go_wp2
      go_ret
      exact ⟨rfl, HB1.out⟩
    · have hmul : ∀ x y, mulN x y p = md (cm x y) p := fun x y => by
        unfold mulN
        rw [if_neg]
        rintro (e | e)
        · exact h0 e
        · omega
      obtain ⟨s, hs⟩ : ∃ s, mulN a b p = s := ⟨_, rfl⟩
      obtain ⟨t, ht⟩ : ∃ t, mulN a c p = t := ⟨_, rfl⟩
      obtain ⟨u, hu⟩ : ∃ u, md a p = u := ⟨_, rfl⟩
      have HS := Lib.hid hs
      have HT := Lib.hid ht
      have HU := Lib.hid hu
      have HSW : Hid (mulN b a p = s) := Lib.hid (by rw [← hs, hmul, hmul, cm_comm])
      have HD : Hid (mulN a (b ^^^ c) p = s ^^^ t) := Lib.hid (by rw [← hs, ← ht, hmul, hmul, hmul, cm_xor_right, md_xor])
      have H1 : Hid (mulN a 1 p = u) := Lib.hid (by rw [← hu, hmul, cm_one_right])
      have hsU : U64 s := by rw [← hs, hmul]; have := md_lt (cm a b) p h0; unfold U64; omega
      have htU : U64 t := by rw [← ht, hmul]; have := md_lt (cm a c) p h0; unfold U64; omega
      have HST := Lib.hid (hsU.xor htU)
      have HBC := Lib.hid (HB.out.xor HC.out)
      have HBCU := Lib.hid (u64_max HB.out HC.out)
      clear ha hb hc hp hn h0 hmul hs ht hu hsU htU
      go_enter Try.func8, Try.ntmps8
      go_wp2_with fail
      refine (deg_calls p HP.out w).mono ?_
      rintro e w' ⟨rfl, rfl⟩
      rw [HN.out]
      go_wp2_with fail
      refine (mul_calls a b p HA.out HB.out HP.out w).mono ?_
      rintro e w' ⟨rfl, rfl⟩
      rw [HS.out]
      go_wp2_with fail
      refine (mul_calls b a p HB.out HA.out HP.out w).mono ?_
      rintro e w' ⟨rfl, rfl⟩
      rw [HSW.out]
      go_wp2_with fail
      rw [HBC.out]
      refine (mul_calls a (b ^^^ c) p HA.out HBCU.out HP.out w).mono ?_
      rintro e w' ⟨rfl, rfl⟩
      rw [HD.out]
      have e1 := HST.out
      generalize s ^^^ t = z at *
      go_wp2_with fail
      refine (mul_calls a b p HA.out HB.out HP.out w).mono ?_
      rintro e w' ⟨rfl, rfl⟩
      rw [HS.out]
      go_wp2_with fail
      refine (mul_calls a c p HA.out HC.out HP.out w).mono ?_
      rintro e w' ⟨rfl, rfl⟩
      rw [HT.out]
      go_wp2_with fail
      refine (mul_calls a 1 p HA.out (U64.small (by decide)) HP.out w).mono ?_
      rintro e w' ⟨rfl, rfl⟩
      rw [H1.out]
      go_wp2_with fail
      refine (mod_calls a p HA.out HP.out w).mono ?_
      rintro e w' ⟨rfl, rfl⟩
      rw [HU.out]
      go_wp2_with fail
      refine (awake_calls w).mono ?_
      rintro e w1 ⟨rfl, hb⟩
      have HB1 := Lib.hid hb
      clear hb
      go_wp2
      go_ret
      exact ⟨rfl, HB1.out⟩

set_option maxHeartbeats 1000000 in
theorem shares_walk (w : World) (a : Nat) (ha : a ≤ 18446744073709551615) (b : Nat) (hb : b ≤ 18446744073709551615) :
    Calls Try.prog 9 #[.int .u64 (a : Int), .int .u64 (b : Int)] w fun e w' => e = .returned (.bool true) ∧ Below w.heap.size w w' := by
  have HA := Lib.hid (U64.of ha)
  have HB := Lib.hid (U64.of hb)
  obtain ⟨d, hd⟩ : ∃ d, gc a b = d := ⟨_, rfl⟩
  have HD := Lib.hid hd
  have HU : Hid (U64 d) := Lib.hid (by rw [← hd]; exact gc_u64 HA.out HB.out)
  obtain ⟨k1, k2⟩ := gc_dv (bl b) a b (Nat.le_refl _)
  rw [hd] at k1 k2
  by_cases h0 : d = 0
  · subst h0
    have ea : a = 0 := by obtain ⟨q, hq⟩ := k1; rw [hq, cm_zero_right]
    have eb : b = 0 := by obtain ⟨q, hq⟩ := k2; rw [hq, cm_zero_right]
    subst ea eb
    clear ha hb hd k1 k2
    go_enter Try.func9, Try.ntmps9
    go_wp2_with fail
    refine (gcd_calls 0 0 HA.out HB.out w).mono ?_
    rintro e w' ⟨rfl, rfl⟩
    rw [HD.out]
    go_wp2_with fail
    refine (awake_calls w).mono ?_
    rintro e w1 ⟨rfl, hb⟩
    have HB1 := Lib.hid hb
    clear hb
    go_wp2
    go_ret
    exact ⟨rfl, HB1.out⟩
  · have d0 : ((d : Int) == 0) = false := beq_eq_false_iff_ne.2 (by omega)
    have H1 := Lib.hid ((dv_iff h0).1 k1)
    have H2 := Lib.hid ((dv_iff h0).1 k2)
    by_cases h1 : a = 0
    · subst h1
      clear ha hb hd k1 k2 h0
      go_enter Try.func9, Try.ntmps9
      go_wp2_with fail
      refine (gcd_calls 0 b HA.out HB.out w).mono ?_
      rintro e w' ⟨rfl, rfl⟩
      rw [HD.out]
      go_wp2_with fail
      refine (mod_calls 0 d HA.out HU.out w).mono ?_
      rintro e w' ⟨rfl, rfl⟩
      rw [H1.out]
      go_wp2_with fail
      refine (mod_calls b d HB.out HU.out w).mono ?_
      rintro e w' ⟨rfl, rfl⟩
      rw [H2.out]
      go_wp2_with fail
      refine (awake_calls w).mono ?_
      rintro e w1 ⟨rfl, hb⟩
      have HB1 := Lib.hid hb
      clear hb
      go_wp2
      go_ret
      exact ⟨rfl, HB1.out⟩
    · have d1 : ((a : Int) == 0) = false := beq_eq_false_iff_ne.2 (by omega)
      have hle := dv_bl k1 h1
      obtain ⟨n, hn⟩ : ∃ n, bl a = n := ⟨_, rfl⟩
      obtain ⟨m, hm⟩ : ∃ m, bl d = m := ⟨_, rfl⟩
      have HN := Lib.hid hn
      have HM := Lib.hid hm
      have hn64 : n ≤ 64 := by rw [← hn]; exact HA.out
      have hmn : m ≤ n := by rw [← hn, ← hm]; exact hle
      clear ha hb hd k1 k2 h0 h1 hle hn hm
      go_enter Try.func9, Try.ntmps9
      go_wp2_with fail
      refine (gcd_calls a b HA.out HB.out w).mono ?_
      rintro e w' ⟨rfl, rfl⟩
      rw [HD.out]
      go_wp2_with fail
      refine (mod_calls a d HA.out HU.out w).mono ?_
      rintro e w' ⟨rfl, rfl⟩
      rw [H1.out]
      go_wp2_with fail
      refine (mod_calls b d HB.out HU.out w).mono ?_
      rintro e w' ⟨rfl, rfl⟩
      rw [H2.out]
      go_wp2_with fail
      refine (deg_calls d HU.out w).mono ?_
      rintro e w' ⟨rfl, rfl⟩
      rw [HM.out]
      go_wp2_with fail
      refine (deg_calls a HA.out w).mono ?_
      rintro e w' ⟨rfl, rfl⟩
      rw [HN.out]
      go_wp2_with fail
      refine (awake_calls w).mono ?_
      rintro e w1 ⟨rfl, hb⟩
      have HB1 := Lib.hid hb
      clear hb
      go_wp2
      go_ret
      exact ⟨rfl, HB1.out⟩
end Go.Proofs.Ytjlocegopdepeaa
