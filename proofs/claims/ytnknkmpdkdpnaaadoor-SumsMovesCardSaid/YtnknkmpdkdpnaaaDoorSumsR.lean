/- Plain laws of turned bytes and bits. No program. -/
import Derived.Test.YtnknkmpdkdpnaaaDoorSumsQ
namespace Go.Proofs.YtnknkmpdkdpnaaaDoor
open Go.RowKit

/-- A whole number read as one of 64 bits without sign. -/
theorem u64_some (x : Int) : ∃ n : Nat, IntKind.u64.wrap x = n ∧ n < 18446744073709551616 := by
  have h : IntKind.u64.wrap x = x % 18446744073709551616 := by simp [IntKind.wrap, IntKind.bits, IntKind.signed]
  exact ⟨(x % 18446744073709551616).toNat, by rw [h]; omega, by omega⟩
theorem tmod_nat (n m : Nat) : ((n : Int).tmod (m : Int)) = ((n % m : Nat) : Int) := by rw [Int.tmod_eq_emod_of_nonneg (by omega)]; rfl
theorem mul_xor (i a b : Nat) : 2 ^ i * (a ^^^ b) = 2 ^ i * a ^^^ 2 ^ i * b := by
  have := Nat.shiftLeft_xor_distrib (a := a) (b := b) (i := i)
  simpa [Nat.shiftLeft_eq, Nat.mul_comm] using this

theorem leNum_set : ∀ (l : List UInt8) (j : Nat) (x : UInt8), j < l.length → leNum (l.set j x) = leNum l ^^^ (gb l j ^^^ x.toNat) * 2 ^ (8 * j)
  | [], j, x, h => by simp at h
  | y :: r, 0, x, _ => by
    rw [List.set_cons_zero, leNum_cons_xor, leNum_cons_xor]
    have : gb (y :: r) 0 = y.toNat := by simp [gb]
    rw [this, Nat.mul_zero, Nat.pow_zero, Nat.mul_one]
    generalize 2 ^ 8 * leNum r = m
    rw [Nat.xor_comm y.toNat x.toNat, Nat.xor_comm y.toNat m, Nat.xor_assoc, Nat.xor_comm x.toNat y.toNat, ← Nat.xor_assoc y.toNat, Nat.xor_self, Nat.zero_xor, Nat.xor_comm]
  | y :: r, j + 1, x, h => by
    have ih := leNum_set r j x (by simpa using h)
    rw [List.set_cons_succ, leNum_cons_xor, leNum_cons_xor, ih, gb_cons_succ, mul_xor, Nat.xor_assoc]
    congr 2
    rw [show 8 * (j + 1) = 8 * j + 8 by omega, Nat.pow_add]
    generalize gb r j ^^^ x.toNat = q
    rw [Nat.mul_comm (2 ^ 8), Nat.mul_assoc]
theorem gb_lt8 (l : List UInt8) (j : Nat) : gb l j < 256 := by have := gb_lt l j; omega
theorem xor_lt8 {a b : Nat} (h : a < 256) (k : b < 256) : a ^^^ b < 256 := Nat.xor_lt_two_pow (n := 8) h k
theorem ofNat_toNat8 (n : Nat) (h : n < 256) : (UInt8.ofNat n).toNat = n := by simp; omega
/-- One byte turned. -/
theorem leNum_turn (l : List UInt8) (j v : Nat) (h : j < l.length) (hv : v < 256) : leNum (l.set j (UInt8.ofNat (gb l j ^^^ v))) = leNum l ^^^ v * 2 ^ (8 * j) := by
  have hg := gb_lt8 l j
  have hx : gb l j ^^^ v < 256 := xor_lt8 hg hv
  rw [leNum_set l j _ h]
  congr 2
  have : (UInt8.ofNat (gb l j ^^^ v)).toNat = gb l j ^^^ v := ofNat_toNat8 _ hx
  rw [this, ← Nat.xor_assoc, Nat.xor_self, Nat.zero_xor]
theorem ofNat_vb (n : Nat) (h : n < 256) : ((UInt8.ofNat n).toNat : Int) = n := by simp; omega
theorem turned_refused (p : List UInt8) (j v : Nat) (h : j < p.length + 4) (hv : v < 256) (h0 : v ≠ 0) : openE ((sealL p).set j (UInt8.ofNat (gb (sealL p) j ^^^ v))) = 10 := by
  refine refused p _ v (8 * j) ?_ (by omega) h0 ?_ (leNum_turn _ _ _ ?_ hv)
  · rw [List.length_set, sealL_length]
  · rw [List.length_set, sealL_length]; omega
  · rw [sealL_length]; omega
theorem openE_short (l : List UInt8) (h : l.length < 4) : openE l = 2 := by unfold openE; rw [if_pos h]

/-- The bits of q, from bit `at_` on, that lie below n, after i rounds. -/
def burstN (q at_ n i : Nat) : Nat := q % 2 ^ (min i (n - at_)) * 2 ^ at_
theorem burst_zero (q at_ n : Nat) : burstN q at_ n 0 = 0 := by simp [burstN, Nat.mod_one]
theorem mod_pow_succ_xor (q i : Nat) : q % 2 ^ (i + 1) = q % 2 ^ i ^^^ (q / 2 ^ i % 2) * 2 ^ i := by
  rw [Nat.mod_pow_succ, Nat.add_comm, Nat.xor_comm, add_eq_xor i _ _ (Nat.mod_lt _ (Nat.two_pow_pos i)), Nat.mul_comm]
theorem burst_on (q at_ n i : Nat) (h : at_ + i < n) (hb : q / 2 ^ i % 2 = 1) : burstN q at_ n (i + 1) = burstN q at_ n i ^^^ 2 ^ (at_ + i) := by
  unfold burstN
  rw [show min (i + 1) (n - at_) = i + 1 by omega, show min i (n - at_) = i by omega, mod_pow_succ_xor, hb, Nat.one_mul, Nat.mul_comm, mul_xor, Nat.mul_comm, Nat.pow_add]
theorem burst_off (q at_ n i : Nat) (h : ¬ (at_ + i < n ∧ q / 2 ^ i % 2 = 1)) : burstN q at_ n (i + 1) = burstN q at_ n i := by
  unfold burstN
  by_cases h1 : at_ + i < n
  · have hb : q / 2 ^ i % 2 = 0 := by have : ¬ q / 2 ^ i % 2 = 1 := fun k => h ⟨h1, k⟩; omega
    rw [show min (i + 1) (n - at_) = i + 1 by omega, show min i (n - at_) = i by omega, mod_pow_succ_xor, hb, Nat.zero_mul, Nat.xor_zero]
  · rw [show min (i + 1) (n - at_) = min i (n - at_) by omega]
/-- Bytes of which a burst has been turned: they are the old ones, or they are refused. -/
theorem burst_refused (p x : List UInt8) (q at_ : Nat) (hl : x.length = p.length + 4) (hq : q < 4294967296) (ha : at_ ≤ 8 * x.length) (hx : leNum x = leNum (sealL p) ^^^ burstN q at_ (8 * x.length) 32) :
    x = sealL p ∨ x ≠ sealL p ∧ openE x = 10 := by
  by_cases e : x = sealL p
  · exact .inl e
  · refine .inr ⟨e, refused p x (q % 2 ^ (min 32 (8 * x.length - at_))) at_ hl ?_ ?_ ha hx⟩
    · exact Nat.lt_of_le_of_lt (Nat.mod_le _ _) hq
    · intro h0
      apply e
      refine leNum_inj (by rw [hl, sealL_length]) ?_
      rw [hx, burstN, h0, Nat.zero_mul, Nat.xor_zero]

/-- Three parts of one length, exclusive-ored. -/
def xor3 (a b c : List UInt8) : Nat → List UInt8
  | 0 => []
  | k + 1 => xor3 a b c k ++ [UInt8.ofNat (gb a k ^^^ gb b k ^^^ gb c k)]
theorem xor3_length (a b c : List UInt8) (k : Nat) : (xor3 a b c k).length = k := by
  induction k with
  | zero => rfl
  | succ k ih => simp [xor3, ih]
theorem leNum_append_one (l : List UInt8) (x : UInt8) : leNum (l ++ [x]) = leNum l ^^^ x.toNat * 2 ^ (8 * l.length) := by
  induction l with
  | nil => simp [leNum]
  | cons y r ih =>
    rw [List.cons_append, leNum_cons_xor, ih, mul_xor, ← Nat.xor_assoc, ← leNum_cons_xor, List.length_cons, show 8 * (r.length + 1) = 8 * r.length + 8 by omega, Nat.pow_add]
    congr 1
    rw [Nat.mul_comm (2 ^ 8), Nat.mul_assoc]
theorem take_succ_gb (l : List UInt8) (k : Nat) (h : k < l.length) : l.take (k + 1) = l.take k ++ [l[k]] := by rw [List.take_add_one, List.getElem?_eq_getElem h]; rfl
theorem leNum_take_succ (l : List UInt8) (k : Nat) (h : k < l.length) : leNum (l.take (k + 1)) = leNum (l.take k) ^^^ gb l k * 2 ^ (8 * k) := by
  rw [take_succ_gb l k h, leNum_append_one, gb_lt_length l k h, List.length_take, Nat.min_eq_left (by omega)]
theorem leNum_xor3 (a b c : List UInt8) (k : Nat) (ha : k ≤ a.length) (hb : k ≤ b.length) (hc : k ≤ c.length) : leNum (xor3 a b c k) = leNum (a.take k) ^^^ leNum (b.take k) ^^^ leNum (c.take k) := by
  induction k with
  | zero => simp [xor3, leNum]
  | succ k ih =>
    have h1 := gb_lt8 a k
    have h2 := gb_lt8 b k
    have h3 := gb_lt8 c k
    have h4 : gb a k ^^^ gb b k ^^^ gb c k < 256 := xor_lt8 (xor_lt8 h1 h2) h3
    rw [xor3, leNum_append_one, xor3_length, ih (by omega) (by omega) (by omega), leNum_take_succ a k (by omega), leNum_take_succ b k (by omega), leNum_take_succ c k (by omega)]
    have : (UInt8.ofNat (gb a k ^^^ gb b k ^^^ gb c k)).toNat = gb a k ^^^ gb b k ^^^ gb c k := ofNat_toNat8 _ h4
    rw [this, Nat.mul_comm, mul_xor, mul_xor]
    simp only [Nat.mul_comm (2 ^ (8 * k))]
    ac_rfl
theorem crc_three (a b c : List UInt8) (k : Nat) (ha : k ≤ a.length) (hb : k ≤ b.length) (hc : k ≤ c.length) : crcN [xor3 a b c k] = crcN [a.take k] ^^^ crcN [b.take k] ^^^ crcN [c.take k] := by
  have hx : ∀ l : List UInt8, l.length = k → crcN [l] = 4294967295 ^^^ (rbits 4294967295 (8 * k) ^^^ rbits (leNum l) (8 * k)) := by
    intro l hl
    rw [crc_one, rcrcN_eq, not_xor _ (reg_lt _ _ (by omega)), reg_eq, rbits_xor, hl]
  rw [hx _ (xor3_length a b c k), hx _ (by simp; omega), hx _ (by simp; omega), hx _ (by simp; omega), leNum_xor3 a b c k ha hb hc, rbits_xor, rbits_xor]
  generalize rbits 4294967295 (8 * k) = f
  generalize 4294967295 = g
  generalize rbits (leNum (a.take k)) (8 * k) = x
  generalize rbits (leNum (b.take k)) (8 * k) = y
  generalize rbits (leNum (c.take k)) (8 * k) = z
  apply Nat.eq_of_testBit_eq
  intro i
  simp only [Nat.testBit_xor]
  generalize g.testBit i = g', f.testBit i = f', x.testBit i = x', y.testBit i = y', z.testBit i = z'
  revert g' f' x' y' z'
  decide
end Go.Proofs.YtnknkmpdkdpnaaaDoor
