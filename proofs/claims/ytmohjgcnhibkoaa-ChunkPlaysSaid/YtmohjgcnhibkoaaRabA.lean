/- rabin: degrees, what is left, products, what two share, the test: the walks. -/
import Derived.Test.YtmohjgcnhibkoaaPoly
import Derived.Test.YtmohjgcnhibkoaaBase
import Derived.Test.YtmohjgcnhibkoaaChecked
import Derived.Lib.Strings
import Derived.Lib.Slices
import Derived.Lib.Small
import Derived.Lib.Walk
import Derived.Lib.BitFns
namespace Go.Proofs.Ytmohjgcnhibkoaa
open Go.RowKit
set_option linter.unusedVariables false

theorem tab_val (i : Nat) (h : i < Lib.len8tab.size) (h2 : i < 256) : ((Lib.len8tab[i]'h).toNat : Int) = Lib.bitLen i ∧ Lib.bitLen i ≤ 8 := by
  have e := Lib.len8_of (i : Int) (by omega) (by omega)
  have l := Lib.bitLen_le8' (i : Int) (by omega) (by omega)
  rw [Int.toNat_natCast] at e l
  refine ⟨?_, l⟩
  rw [← e, Lib.len8, Int.toNat_natCast]
  rw [getElem?_pos Lib.len8tab i h]
  rfl
theorem tab_at {e : Int} {i : Nat} (h : e.toNat < Lib.len8tab.size) (he : e.toNat = i) (h2 : i < 256) : ((Lib.len8tab[e.toNat]'h).toNat : Int) = Lib.bitLen i ∧ Lib.bitLen i ≤ 8 := by
  subst he
  exact tab_val _ h h2

theorem len_close (x : Int) (k m : Nat) (e : Int) (h0 : 0 ≤ x) (h1 : x ≤ 18446744073709551615) (hm : m = 2 ^ k) (hk : k ≤ 56) (he : e = x / (m : Int)) (h2 : e < 256) (h3 : (m : Int) ≤ x) (h : e.toNat < Lib.len8tab.size) :
    wrap64 ((k : Int) + wrap64 ((Lib.len8tab[e.toNat]'h).toNat : Int)) = (Lib.bitLen x.toNat : Int) := by
  obtain ⟨X, rfl⟩ := Int.eq_ofNat_of_zero_le h0
  have hE : e = ((X / m : Nat) : Int) := by rw [he]; simp
  have hE2 : e.toNat = X / m := by rw [hE, Int.toNat_natCast]
  have hlt : X / m < 256 := by clear h; omega
  obtain ⟨a, b⟩ := tab_at h hE2 hlt
  have hs := Lib.bitLen_shift k X (by clear h a; rw [← hm]; omega) (by clear h a; omega)
  rw [← hm] at hs
  rw [a, Int.toNat_natCast, hs]
  clear h a hs
  generalize Lib.bitLen (X / m) = y at *
  unfold wrap64
  omega
theorem len_close0 (x : Int) (h0 : 0 ≤ x) (h2 : x < 256) (h : x.toNat < Lib.len8tab.size) : wrap64 (wrap64 ((Lib.len8tab[x.toNat]'h).toNat : Int)) = (Lib.bitLen x.toNat : Int) := by
  obtain ⟨X, rfl⟩ := Int.eq_ofNat_of_zero_le h0
  obtain ⟨a, b⟩ := tab_at h (Int.toNat_natCast X) (by clear h; omega)
  rw [a, Int.toNat_natCast]
  clear h a
  generalize Lib.bitLen X = y at *
  unfold wrap64
  omega

set_option maxHeartbeats 4000000 in
set_option maxRecDepth 100000 in
theorem len64_calls (x : Int) (w : World) (h0 : 0 ≤ x) (h1 : x ≤ 18446744073709551615) :
    Calls Try.prog 40 #[.int .u64 x] w fun e w' => e = .returned (.int .i64 (Lib.bitLen x.toNat)) ∧ w' = w := by
  have hsz : (256 : Int) ≤ Lib.len8tab.size := by rw [Lib.len8tab_size]; decide
  go_enter Try.func40, Try.ntmps40
  go_wp2
  all_goals (go_ret; refine ⟨congrArg Ending.returned (congrArg (Value.int IntKind.i64) ?_), rfl⟩)
  all_goals clear hsz
  · exact len_close x 56 72057594037927936 _ h0 h1 (by decide) (by decide) (by omega) (by omega) (by omega) _
  · exact len_close x 48 281474976710656 _ h0 h1 (by decide) (by decide) (by omega) (by omega) (by omega) _
  · exact len_close x 40 1099511627776 _ h0 h1 (by decide) (by decide) (by omega) (by omega) (by omega) _
  · exact len_close x 32 4294967296 _ h0 h1 (by decide) (by decide) (by omega) (by omega) (by omega) _
  · exact len_close x 24 16777216 _ h0 h1 (by decide) (by decide) (by omega) (by omega) (by omega) _
  · exact len_close x 16 65536 _ h0 h1 (by decide) (by decide) (by omega) (by omega) (by omega) _
  · exact len_close x 8 256 _ h0 h1 (by decide) (by decide) (by omega) (by omega) (by omega) _
  · exact len_close0 x h0 (by omega) _
theorem bitLen_bl : ∀ (k x : Nat), bl x ≤ k → k ≤ 64 → Lib.bitLen x = bl x := by
  intro k
  induction k with
  | zero =>
    intro x h _
    have : x = 0 := bl_eq_zero.1 (by omega)
    subst this
    rfl
  | succ k ih =>
    intro x h hk
    by_cases h0 : x = 0
    · subst h0; rfl
    · have h64 : x < 2 ^ 64 := bl_le.1 (by omega)
      rw [Lib.bitLen_half x h0 h64, ih (x / 2) (by rw [bl_half]; omega) (by omega), bl_half]
      have := bl_pos.2 h0
      omega
/-- Numbers of 64 bits. -/
def U64 (a : Nat) : Prop := bl a ≤ 64
theorem U64.lt {a : Nat} (h : U64 a) : a < 18446744073709551616 := bl_le.1 h
theorem U64.of {a : Nat} (h : a ≤ 18446744073709551615) : U64 a := bl_le.2 (by omega)
theorem U64.xor {a b : Nat} (h : U64 a) (k : U64 b) : bits .xor .u64 (a : Int) (b : Int) = ((a ^^^ b : Nat) : Int) := xor_u64 a b h.lt k.lt
theorem u64_max {a b : Nat} (h : U64 a) (k : U64 b) : U64 (a ^^^ b) := by have := bl_xor_le a b; unfold U64 at *; omega

theorem deg_calls (a : Nat) (ha : U64 a) (w : World) :
    Calls Try.prog 35 #[.int .u64 (a : Int)] w fun e w' => e = .returned (.int .i64 ((bl a : Int) - 1)) ∧ w = w' := by
  have h1 := ha.lt
  have h2 : bl a ≤ 64 := ha
  have HE := Lib.hid (bitLen_bl 64 a ha (Nat.le_refl _))
  obtain ⟨n, hn⟩ : ∃ n, bl a = n := ⟨_, rfl⟩
  rw [hn] at HE h2
  rw [hn]
  clear ha hn
  go_enter Try.func35, Try.ntmps35
  go_wp2_with fail
  refine (len64_calls _ w (by omega) (by omega)).mono ?_
  rintro e w' ⟨rfl, rfl⟩
  rw [Int.toNat_natCast, HE.out]
  go_wp2
  go_ret
  exact ⟨rfl, rfl⟩

theorem mod_calls (a p : Nat) (ha : U64 a) (hp : U64 p) (w : World) :
    Calls Try.prog 41 #[.int .u64 (a : Int), .int .u64 (p : Int)] w fun e w' => e = .returned (.int .u64 (md a p : Nat)) ∧ w = w' := by
  by_cases h0 : p = 0
  · subst h0
    rw [md_zero_right]
    go_enter Try.func41, Try.ntmps41
    go_wp2
    go_ret
    exact ⟨rfl, rfl⟩
  · have d0 : ((p : Int) == 0) = false := beq_eq_false_iff_ne.2 (by omega)
    have HP0 := Lib.hid h0
    have HP := Lib.hid hp
    have HA := Lib.hid ha
    clear h0 hp ha
    go_enter Try.func41, Try.ntmps41
    go_wp2_with fail
    refine (deg_calls p HP.out w).mono ?_
    rintro e w' ⟨rfl, rfl⟩
    obtain ⟨n, hn⟩ : ∃ n, bl p = n := ⟨_, rfl⟩
    rw [hn]
    have HN := Lib.hid hn
    have hn64 : n ≤ 64 := by rw [← hn]; exact HP.out
    clear hn
    go_wp2_with fail
    go_loop [0] (fun v => ∃ x : Nat, v = .int .u64 (x : Int) ∧ Hid (U64 x) ∧ Hid (md x p = md a p)) (fun v => bl (intOf v).toNat)
    case atStart => exact ⟨a, rfl, HA, Lib.hid rfl⟩
    case round =>
      obtain ⟨x, rfl, HX, HM⟩ := hrel
      obtain ⟨m, hm⟩ : ∃ m, bl x = m := ⟨_, rfl⟩
      have HMx := Lib.hid hm
      have hm64 : m ≤ 64 := by rw [← hm]; exact HX.out
      clear hm
      go_wp2_with fail
      refine (deg_calls x HX.out w).mono ?_
      rintro e w' ⟨rfl, rfl⟩
      rw [HMx.out]
      by_cases hc : n ≤ m
      · obtain ⟨j, hj⟩ : ∃ j, m - n = j := ⟨_, rfl⟩
        have ej : (m : Int) - 1 - ((n : Int) - 1) = (j : Int) := by omega
        have hj0 : (0 : Int) ≤ j := by omega
        have hj64 : (j : Int) ≤ 64 := by omega
        go_wp2_with fail
        refine (deg_calls x HX.out w).mono ?_
        rintro e w' ⟨rfl, rfl⟩
        rw [HMx.out]
        have hs := step_bl HP0.out (show bl p ≤ bl x by rw [HN.out, HMx.out]; exact hc)
        have hst := md_step (a := x) (p := p) (bl x - bl p)
        rw [HMx.out, HN.out, hj] at hs hst
        have hpj : p * 2 ^ j < 18446744073709551616 := by
          have h1 := bl_mul_pow p j HP0.out
          rw [HN.out] at h1
          exact bl_le.1 (show bl (p * 2 ^ j) ≤ 64 by omega)
        have hw : IntKind.u64.wrap ((p : Int) * 2 ^ j) = ((p * 2 ^ j : Nat) : Int) := by
          have := wrap_u64_nat (p * 2 ^ j)
          rw [Nat.mod_eq_of_lt hpj] at this
          rw [← this]; congr 1
        have hUp : U64 (p * 2 ^ j) := bl_le.2 hpj
        have hx := HX.out.xor hUp
        have HS := Lib.hid hs
        have HST := Lib.hid (hst.trans HM.out)
        have HU := Lib.hid (u64_max HX.out hUp)
        have HW := Lib.hid hw
        have HXX := Lib.hid hx
        clear hs hst hpj hw hUp hx hj
        go_wp2_with fail
        rw [HW.out, HXX.out]
        exact ⟨⟨_, rfl, HU, HST⟩, by simp only [intOf, Int.toNat_natCast]; rw [HMx.out]; exact HS.out⟩
      · have hsm := md_small (a := x) (p := p) (by rw [HMx.out, HN.out]; omega)
        have HSM := Lib.hid (hsm.symm.trans HM.out)
        clear hsm
        go_wp2
        go_ret
        exact ⟨by rw [← HSM.out]; rfl, rfl⟩
end Go.Proofs.Ytmohjgcnhibkoaa
