/- packet: lay, two, four, get2, get4: the walks; numbers as bytes. -/
import Derived.Test.YtobkelpeenckeaaPkA
import Derived.BigRegion
import Derived.Deep.QuietTactic
import Derived.BigQuiet
import Derived.Deep.RegionWith
namespace Go.Proofs.Ytobkelpeenckeaa
open Go.RowKit
set_option linter.unusedVariables false

/-! ### numbers as bytes, the highest one first -/
def be (n : Nat) : Nat → List UInt8
  | 0 => []
  | k + 1 => UInt8.ofNat (n / 256 ^ k) :: be n k
theorem be_length (n k : Nat) : (be n k).length = k := by induction k with
  | zero => rfl
  | succ k ih => simp [be, ih]
theorem be_get (n : Nat) : ∀ (k i : Nat), i < k → (be n k).getD i 0 = UInt8.ofNat (n / 256 ^ (k - 1 - i))
  | 0, _, h => absurd h (by omega)
  | k + 1, 0, _ => by simp [be]
  | k + 1, i + 1, h => by
    rw [be, List.getD_cons_succ, be_get n k i (by omega)]
    congr 3
    omega
/-- What stands behind i rounds of laying. -/
def layTo (n k i : Nat) : List UInt8 := (be n k).take i ++ List.replicate (k - i) 0
theorem layTo_length (n k i : Nat) (h : i ≤ k) : (layTo n k i).length = k := by simp [layTo, be_length]; omega
theorem layTo_set (n k i : Nat) (h : i < k) : (layTo n k i).set i (UInt8.ofNat (n / 256 ^ (k - 1 - i))) = layTo n k (i + 1) := by
  unfold layTo
  obtain ⟨d, hd⟩ : ∃ d, k - i = d + 1 := ⟨k - i - 1, by omega⟩
  have hl : ((be n k).take i).length = i := by rw [List.length_take, be_length]; omega
  rw [List.set_append, if_neg (by omega), hl, Nat.sub_self, hd, show k - (i + 1) = d by omega, List.replicate_succ, List.set_cons_zero]
  rw [List.take_add_one, List.append_assoc]
  congr 1
  have := be_get n k i h
  rw [List.getD_eq_getElem?_getD] at this
  rw [List.getElem?_eq_getElem (by rw [be_length]; exact h)] at this ⊢
  simp only [Option.getD_some] at this
  rw [this]
  rfl
theorem vb_ofNat (n : Nat) : vb (UInt8.ofNat n) = .int .u8 ((n % 256 : Nat) : Int) := by simp [vb]
theorem pow_256 (k : Nat) : 2 ^ (8 * k) = 256 ^ k := by rw [Nat.pow_mul]

set_option maxHeartbeats 1000000 in
theorem layI_calls (n k : Nat) (hn : n < 9223372036854775808) (hk : k ≤ 8) (w : World) :
    Calls Try.prog 47 #[.int .i64 (n : Int), .int .i64 (k : Int)] w fun e w' => ∃ A c, e = .returned (.slice A k c) ∧ k ≤ c ∧ RB w' A (be n k) ∧ Below w.heap.size w w' := by
  go_enter Try.func47, Try.ntmps47
  go_wp2_with (at_make; refine wpList_makeFullB rfl _ _ 23 rfl w.heap.size 5 Try.underlying23 infoB .i64 .i64 (k : Int) (k : Int) k rfl rfl rfl rfl (by omega) (Nat.le_refl _) ?_)
  intro w1 ho hg
  have hb := grown_none (Below.refl w.heap.size w) hg (Nat.le_refl _)
  have HO : Hid (OwnB w.heap.size 5 w1 (.slice (some ⟨w.heap.size, 0, none⟩) k k) (layTo n k 0)) := Lib.hid (by simpa [layTo] using ho)
  have HB := Lib.hid hb
  clear ho hg hb
  go_wp2_with fail
  go_loopw [11] (fun i W => ∃ j : Nat, j ≤ k ∧ i = .int .i64 j ∧ Hid (OwnB w.heap.size 5 W (.slice (some ⟨w.heap.size, 0, none⟩) k k) (layTo n k j)) ∧ Hid (Below w.heap.size w W)) (fun i _ => k - (intOf i).toNat)
  case atStart => exact ⟨0, Nat.zero_le _, rfl, HO, HB⟩
  case round =>
    clear HO HB
    obtain ⟨j, hj, rfl, HO, HB⟩ := hrel
    by_cases hjk : j < k
    · obtain ⟨q, hq⟩ : ∃ q, k - 1 - j = q := ⟨_, rfl⟩
      obtain ⟨t, ht⟩ : ∃ t, 8 * q = t := ⟨_, rfl⟩
      have e1 : (k : Int) - 1 - (j : Int) = (q : Int) := by omega
      have e2 : (8 : Int) * (q : Int) = (t : Int) := by omega
      have t0 : (0 : Int) ≤ t := by omega
      have t1 : (t : Int) ≤ 56 := by omega
      obtain ⟨y, hy⟩ : ∃ y, n / 2 ^ t = y := ⟨_, rfl⟩
      have e3 : (n : Int) / 2 ^ t = (y : Int) := by rw [← hy]; simp
      obtain ⟨hcj, hfj⟩ := HO.out.cell j (by rw [layTo_length n k j hj]; exact hjk)
      have hset := HO.out.set j (UInt8.ofNat y)
      rw [show UInt8.ofNat y = UInt8.ofNat (n / 256 ^ (k - 1 - j)) by rw [← hy, ← ht, pow_256, hq], layTo_set n k j hjk, hq, ← pow_256, ht, hy, show ((UInt8.ofNat y).toNat : Int) = (y : Int) % 256 by simp] at hset
      have HS := Lib.hid hset
      have HBS := Lib.hid (HB.out.setCell (p := ⟨w.heap.size, j, none⟩) (Nat.le_refl _) (.int .u8 ((y : Int) % 256)))
      have hj0 : (0 : Int) ≤ j := by omega
      obtain ⟨gv, hgv⟩ : ∃ v, gb (layTo n k j) j = v := ⟨_, rfl⟩
      rw [hgv] at hcj
      clear hq ht hy hset hgv HO HB
      go_wp2
      exact ⟨⟨j + 1, by omega, by go_num, HS, HBS⟩, by simp [intOf]; omega⟩
    · obtain rfl : k = j := by omega
      obtain ⟨A, c, hv, hr, hc, _⟩ := HO.out.form
      rw [layTo_length n k k (Nat.le_refl _)] at hv hc
      injection hv with ea eb ec
      have hr2 : RB wr A (be n k) := by
        have : layTo n k k = be n k := by unfold layTo; rw [Nat.sub_self, List.take_of_length_le (by rw [be_length]; exact Nat.le_refl _)]; simp
        rwa [this] at hr
      subst ea ec
      have HR := Lib.hid hr2
      clear hr hr2 eb HO
      go_wp2
      go_ret
      exact ⟨_, k, rfl, Nat.le_refl _, HR.out, HB.out⟩
set_option maxHeartbeats 1000000 in
theorem layU_calls (n k : Nat) (hn : n < 4294967296) (hk : k ≤ 4) (w : World) :
    Calls Try.prog 48 #[.int .u32 (n : Int), .int .i64 (k : Int)] w fun e w' => ∃ A c, e = .returned (.slice A k c) ∧ k ≤ c ∧ RB w' A (be n k) ∧ Below w.heap.size w w' := by
  go_enter Try.func48, Try.ntmps48
  go_wp2_with (at_make; refine wpList_makeFullB rfl _ _ 23 rfl w.heap.size 5 Try.underlying23 infoB .i64 .i64 (k : Int) (k : Int) k rfl rfl rfl rfl (by omega) (Nat.le_refl _) ?_)
  intro w1 ho hg
  have hb := grown_none (Below.refl w.heap.size w) hg (Nat.le_refl _)
  have HO : Hid (OwnB w.heap.size 5 w1 (.slice (some ⟨w.heap.size, 0, none⟩) k k) (layTo n k 0)) := Lib.hid (by simpa [layTo] using ho)
  have HB := Lib.hid hb
  clear ho hg hb
  go_wp2_with fail
  go_loopw [11] (fun i W => ∃ j : Nat, j ≤ k ∧ i = .int .i64 j ∧ Hid (OwnB w.heap.size 5 W (.slice (some ⟨w.heap.size, 0, none⟩) k k) (layTo n k j)) ∧ Hid (Below w.heap.size w W)) (fun i _ => k - (intOf i).toNat)
  case atStart => exact ⟨0, Nat.zero_le _, rfl, HO, HB⟩
  case round =>
    clear HO HB
    obtain ⟨j, hj, rfl, HO, HB⟩ := hrel
    by_cases hjk : j < k
    · obtain ⟨q, hq⟩ : ∃ q, k - 1 - j = q := ⟨_, rfl⟩
      obtain ⟨t, ht⟩ : ∃ t, 8 * q = t := ⟨_, rfl⟩
      have e1 : (k : Int) - 1 - (j : Int) = (q : Int) := by omega
      have e2 : (8 : Int) * (q : Int) = (t : Int) := by omega
      have t0 : (0 : Int) ≤ t := by omega
      have t1 : (t : Int) ≤ 24 := by omega
      obtain ⟨y, hy⟩ : ∃ y, n / 2 ^ t = y := ⟨_, rfl⟩
      have e3 : (n : Int) / 2 ^ t = (y : Int) := by rw [← hy]; simp
      obtain ⟨hcj, hfj⟩ := HO.out.cell j (by rw [layTo_length n k j hj]; exact hjk)
      have hset := HO.out.set j (UInt8.ofNat y)
      rw [show UInt8.ofNat y = UInt8.ofNat (n / 256 ^ (k - 1 - j)) by rw [← hy, ← ht, pow_256, hq], layTo_set n k j hjk, hq, ← pow_256, ht, hy, show ((UInt8.ofNat y).toNat : Int) = (y : Int) % 256 by simp] at hset
      have HS := Lib.hid hset
      have HBS := Lib.hid (HB.out.setCell (p := ⟨w.heap.size, j, none⟩) (Nat.le_refl _) (.int .u8 ((y : Int) % 256)))
      have hj0 : (0 : Int) ≤ j := by omega
      obtain ⟨gv, hgv⟩ : ∃ v, gb (layTo n k j) j = v := ⟨_, rfl⟩
      rw [hgv] at hcj
      clear hq ht hy hset hgv HO HB
      go_wp2
      exact ⟨⟨j + 1, by omega, by go_num, HS, HBS⟩, by simp [intOf]; omega⟩
    · obtain rfl : k = j := by omega
      obtain ⟨A, c, hv, hr, hc, _⟩ := HO.out.form
      rw [layTo_length n k k (Nat.le_refl _)] at hv hc
      injection hv with ea eb ec
      have hr2 : RB wr A (be n k) := by
        have : layTo n k k = be n k := by unfold layTo; rw [Nat.sub_self, List.take_of_length_le (by rw [be_length]; exact Nat.le_refl _)]; simp
        rwa [this] at hr
      subst ea ec
      have HR := Lib.hid hr2
      clear hr hr2 eb HO
      go_wp2
      go_ret
      exact ⟨_, k, rfl, Nat.le_refl _, HR.out, HB.out⟩
theorem two_calls (n : Nat) (hn : n < 9223372036854775808) (w : World) :
    Calls Try.prog 34 #[.int .i64 (n : Int)] w fun e w' => ∃ A c, e = .returned (.slice A 2 c) ∧ 2 ≤ c ∧ RB w' A (be n 2) ∧ Below w.heap.size w w' := by
  go_enter Try.func34, Try.ntmps34
  go_wp2_with fail
  refine (layI_calls n 2 hn (by omega) w).mono ?_
  rintro e w' ⟨A, c, rfl, hc, hr, hb⟩
  have HR := Lib.hid hr
  have HB := Lib.hid hb
  clear hr hb
  go_wp2
  go_ret
  exact ⟨A, c, rfl, hc, HR.out, HB.out⟩
theorem four_calls (n : Nat) (hn : n < 4294967296) (w : World) :
    Calls Try.prog 35 #[.int .u32 (n : Int)] w fun e w' => ∃ A c, e = .returned (.slice A 4 c) ∧ 4 ≤ c ∧ RB w' A (be n 4) ∧ Below w.heap.size w w' := by
  go_enter Try.func35, Try.ntmps35
  go_wp2_with fail
  refine (layU_calls n 4 hn (by omega) w).mono ?_
  rintro e w' ⟨A, c, rfl, hc, hr, hb⟩
  have HR := Lib.hid hr
  have HB := Lib.hid hb
  clear hr hb
  go_wp2
  go_ret
  exact ⟨A, c, rfl, hc, HR.out, HB.out⟩
theorem or_add (n x y : Nat) (h : y < 2 ^ n) : x * 2 ^ n ||| y = x * 2 ^ n + y := by rw [Nat.mul_comm, Nat.two_pow_add_eq_or_of_lt h]
set_option maxHeartbeats 1000000 in
theorem get2_calls (b p n c x y : Nat) (hx : x ≤ 255) (hy : y ≤ 255) (hn : 2 ≤ n) (w : World) (c0 : w.cell? ⟨b, p, none⟩ = some (.int .u8 (x : Int))) (c1 : w.cell? ⟨b, p + 1, none⟩ = some (.int .u8 (y : Int))) :
    Calls Try.prog 40 #[.slice (some ⟨b, p, none⟩) n c] w fun e w' => e = .returned (.int .i64 ((x * 256 + y : Nat) : Int)) ∧ ∃ d, w' = w.drewN d := by
  have ho : bits .or .i64 ((x * 256 : Nat) : Int) (y : Int) = ((x * 256 + y : Nat) : Int) := by
    rw [or_i64 _ _ (by omega) (by omega), show x * 256 = x * 2 ^ 8 from rfl, or_add 8 x y (by simp; omega)]
  rw [Int.natCast_mul] at ho
  rw [show ((256 : Nat) : Int) = 256 from rfl] at ho
  go_enter Try.func40, Try.ntmps40
  go_wp2_with fail
  go_region
  go_wp2_with fail
  go_ret
  exact ⟨ret_int (by omega), 1, rfl⟩
set_option maxHeartbeats 1000000 in
theorem get4_calls (b p n c x y z t : Nat) (hx : x ≤ 255) (hy : y ≤ 255) (hz : z ≤ 255) (ht : t ≤ 255) (hn : 4 ≤ n) (hnc : n ≤ c) (w : World) (c0 : w.cell? ⟨b, p, none⟩ = some (.int .u8 (x : Int))) (c1 : w.cell? ⟨b, p + 1, none⟩ = some (.int .u8 (y : Int)))
    (c2 : w.cell? ⟨b, p + 2, none⟩ = some (.int .u8 (z : Int))) (c3 : w.cell? ⟨b, p + 2 + 1, none⟩ = some (.int .u8 (t : Int))) :
    Calls Try.prog 41 #[.slice (some ⟨b, p, none⟩) n c] w fun e w' => e = .returned (.int .u32 (((x * 256 + y) * 65536 + (z * 256 + t) : Nat) : Int)) ∧ ∃ d, w' = w.drewN d := by
  have C0 := Lib.hid c0
  have C1 := Lib.hid c1
  have C2 := Lib.hid c2
  have C3 := Lib.hid c3
  obtain ⟨u, hu⟩ : ∃ u, x * 256 + y = u := ⟨_, rfl⟩
  obtain ⟨v, hv⟩ : ∃ v, z * 256 + t = v := ⟨_, rfl⟩
  have hu1 : u < 65536 := by omega
  have hv1 : v < 65536 := by omega
  have ho : bits .or .u32 ((u * 65536 : Nat) : Int) (v : Int) = ((u * 65536 + v : Nat) : Int) := by
    rw [or_u32 _ _ (by omega) (by omega), show u * 65536 = u * 2 ^ 16 from rfl, or_add 16 u v (by simp; omega)]
  rw [Int.natCast_mul] at ho
  rw [show ((65536 : Nat) : Int) = 65536 from rfl] at ho
  have k1 : ∀ W : World, W.cell? ⟨b, p, none⟩ = some (.int .u8 (x : Int)) → W.cell? ⟨b, p + 1, none⟩ = some (.int .u8 (y : Int)) → Calls Try.prog 40 #[.slice (some ⟨b, p, none⟩) n c] W fun e w' => e = .returned (.int .i64 (u : Int)) ∧ ∃ d, w' = W.drewN d := fun W a0 a1 => by
    rw [← hu]; exact get2_calls b p n c x y hx hy (by omega) W a0 a1
  have k2 : ∀ W : World, W.cell? ⟨b, p + 2, none⟩ = some (.int .u8 (z : Int)) → W.cell? ⟨b, p + 2 + 1, none⟩ = some (.int .u8 (t : Int)) → Calls Try.prog 40 #[.slice (some ⟨b, p + 2, none⟩) (n - 2) (c - 2)] W fun e w' => e = .returned (.int .i64 (v : Int)) ∧ ∃ d, w' = W.drewN d := fun W a0 a1 => by
    rw [← hv]; exact get2_calls b (p + 2) (n - 2) (c - 2) z t hz ht (by omega) W a0 a1
  have K1 := Lib.hid k1
  have K2 := Lib.hid k2
  rw [hu, hv]
  clear k1 k2 hu hv c0 c1 c2 c3
  go_enter Try.func41, Try.ntmps41
  go_wp2_with fail
  go_quiet (first | ((with_reducible refine Calls.quiet_of (K1.out _ ?_ ?_)); exact C0.out; exact C1.out) | ((with_reducible refine Calls.quiet_of (K2.out _ ?_ ?_)); exact C2.out; exact C3.out))
  go_wp2
  go_ret
  exact ⟨ret_int (by omega), _, rfl⟩
end Go.Proofs.Ytobkelpeenckeaa
