/- The plain laws of the two sums: no program in sight. -/
import Derived.Test.YtnknkmpdkdpnaaaDoorSumsG
namespace Go.Proofs.YtnknkmpdkdpnaaaDoor

/-! ### bits of the great sum -/
theorem xor_mod_two (a b : Nat) : (a ^^^ b) % 2 = (a + b) % 2 := by
  have h := Nat.testBit_xor a b 0
  simp only [Nat.testBit_zero] at h
  have h2 : (a + b) % 2 = (a % 2 + b % 2) % 2 := by omega
  rw [h2]
  rcases Nat.mod_two_eq_zero_or_one a with ha | ha <;> rcases Nat.mod_two_eq_zero_or_one b with hb | hb <;> rcases Nat.mod_two_eq_zero_or_one (a ^^^ b) with hc | hc <;> rw [ha, hb, hc] at h <;> rw [ha, hb, hc] <;> first | rfl | (exact absurd h (by decide))
theorem add_eq_xor (i a b : Nat) (h : b < 2 ^ i) : 2 ^ i * a + b = 2 ^ i * a ^^^ b := by
  apply Nat.eq_of_testBit_eq
  intro j
  rw [Nat.testBit_xor, Nat.testBit_two_pow_mul_add _ h, Nat.testBit_two_pow_mul]
  by_cases hj : j < i
  · simp [hj, Nat.not_le.2 hj]
  · have : b.testBit j = false := Nat.testBit_lt_two_pow (Nat.lt_of_lt_of_le h (Nat.pow_le_pow_right (by decide) (by omega)))
    simp [hj, Nat.le_of_not_lt hj, this]
theorem rbit_xor (a b : Nat) : rbit (a ^^^ b) = rbit a ^^^ rbit b := by
  unfold rbit
  have h := xor_mod_two a b
  have hd : (a ^^^ b) / 2 = a / 2 ^^^ b / 2 := Nat.xor_div_two
  rw [hd, h]
  rcases Nat.mod_two_eq_zero_or_one a with ha | ha <;> rcases Nat.mod_two_eq_zero_or_one b with hb | hb
  · rw [if_neg (by omega), if_neg (by omega), if_neg (by omega)]
  · rw [if_pos (by omega), if_neg (by omega), if_pos (by omega), Nat.xor_assoc]
  · rw [if_pos (by omega), if_pos (by omega), if_neg (by omega), Nat.xor_assoc, Nat.xor_assoc, Nat.xor_comm 3988292384]
  · rw [if_neg (by omega), if_pos (by omega), if_pos (by omega)]
    rw [Nat.xor_assoc, ← Nat.xor_assoc 3988292384, Nat.xor_comm 3988292384, Nat.xor_assoc, Nat.xor_self, Nat.xor_zero]
theorem rbits_succ' (c k : Nat) : rbits c (k + 1) = rbits (rbit c) k := by
  induction k with
  | zero => rfl
  | succ k ih => show rbit (rbits c (k + 1)) = _; rw [ih]; rfl
theorem rbits_add (c j k : Nat) : rbits c (j + k) = rbits (rbits c j) k := by
  induction k with
  | zero => rfl
  | succ k ih => show rbit (rbits c (j + k)) = _; rw [ih]; rfl
theorem rbits_xor (a b k : Nat) : rbits (a ^^^ b) k = rbits a k ^^^ rbits b k := by
  induction k with
  | zero => rfl
  | succ k ih => show rbit _ = rbit _ ^^^ rbit _; rw [ih, rbit_xor]
theorem rbit_double (n : Nat) : rbit (2 * n) = n := by unfold rbit; rw [if_neg (by omega)]; omega
theorem rbits_shift (n k : Nat) : rbits (2 ^ k * n) k = n := by
  induction k with
  | zero => show 1 * n = n; omega
  | succ k ih => rw [rbits_succ', Nat.pow_succ, show 2 ^ k * 2 * n = 2 * (2 ^ k * n) by rw [Nat.mul_assoc, Nat.mul_left_comm], rbit_double, ih]
theorem rbit_zero : rbit 0 = 0 := rfl
theorem rbits_zero (k : Nat) : rbits 0 k = 0 := by
  induction k with
  | zero => rfl
  | succ k ih => show rbit _ = 0; rw [ih]; rfl
theorem rbit_ne (c : Nat) (h : c < 4294967296) (h0 : c ≠ 0) : rbit c ≠ 0 := by
  unfold rbit
  split
  · intro e
    have e2 : c / 2 = 3988292384 := by
      have := congrArg (· ^^^ 3988292384) e
      simpa [Nat.xor_assoc] using this
    omega
  · omega
theorem rbits_ne (c k : Nat) (h : c < 4294967296) (h0 : c ≠ 0) : rbits c k ≠ 0 := by
  induction k with
  | zero => exact h0
  | succ k ih => exact rbit_ne _ (rbits_lt c k h) ih
theorem xor_eq_zero' {a b : Nat} (h : a ^^^ b = 0) : a = b := by
  have := congrArg (· ^^^ b) h
  simpa [Nat.xor_assoc] using this
theorem rbits_inj (a b k : Nat) (ha : a < 4294967296) (hb : b < 4294967296) (h : rbits a k = rbits b k) : a = b := by
  apply xor_eq_zero'
  by_cases h0 : a ^^^ b = 0
  · exact h0
  · exfalso
    refine rbits_ne (a ^^^ b) k (Nat.xor_lt_two_pow (n := 32) ha hb) h0 ?_
    rw [rbits_xor, h, Nat.xor_self]

theorem split16 (c : Nat) : c = 2 ^ 4 * (c / 16) ^^^ c % 16 := by
  have h := add_eq_xor 4 (c / 16) (c % 16) (by omega)
  rw [← h]
  omega
theorem nib_eq : ∀ j, j < 16 → nib j = rbits j 4 := by
  intro j hj
  have : (List.range 16).all (fun j => decide (nib j = rbits j 4)) = true := by decide
  simpa using List.all_eq_true.1 this j (List.mem_range.2 hj)
theorem crcHalf_eq (c : Nat) : crcHalf c = rbits c 4 := by
  conv => rhs; rw [split16 c, rbits_xor, rbits_shift, ← nib_eq _ (by omega)]
  rfl
theorem crcByte_eq (c x : Nat) : crcByte c x = rbits (c ^^^ x) 8 := by
  unfold crcByte
  rw [crcHalf_eq, crcHalf_eq, ← rbits_add]

/-! ### a list of bytes as a number, the lowest byte first -/
def leNum : List UInt8 → Nat
  | [] => 0
  | x :: r => x.toNat + 256 * leNum r
theorem leNum_lt (l : List UInt8) : leNum l < 2 ^ (8 * l.length) := by
  induction l with
  | nil => simp [leNum]
  | cons x r ih =>
    have := x.toNat_lt
    simp only [leNum, List.length_cons]
    rw [show 8 * (r.length + 1) = 8 * r.length + 8 by omega, Nat.pow_add]
    omega
theorem leNum_cons_xor (x : UInt8) (r : List UInt8) : leNum (x :: r) = x.toNat ^^^ 2 ^ 8 * leNum r := by
  rw [Nat.xor_comm, ← add_eq_xor 8 _ _ (by simpa using x.toNat_lt)]
  simp only [leNum]
  omega
theorem leNum_inj : ∀ {l m : List UInt8}, l.length = m.length → leNum l = leNum m → l = m
  | [], [], _, _ => rfl
  | x :: r, y :: s, hl, h => by
    have hx := x.toNat_lt
    have hy := y.toNat_lt
    simp only [leNum] at h
    have h1 : x.toNat = y.toNat := by omega
    have h2 : leNum r = leNum s := by omega
    rw [UInt8.toNat_inj.1 h1, leNum_inj (by simpa using hl) h2]
  | [], _ :: _, hl, _ => by simp at hl
  | _ :: _, [], hl, _ => by simp at hl

/-- The register behind bytes. -/
def reg (c : Nat) (l : List UInt8) : Nat := l.foldl (fun c x => rbits (c ^^^ x.toNat) 8) c
theorem reg_eq (l : List UInt8) : ∀ c, reg c l = rbits (c ^^^ leNum l) (8 * l.length) := by
  induction l with
  | nil => intro c; simp [reg, leNum, rbits]
  | cons x r ih =>
    intro c
    have := ih (rbits (c ^^^ x.toNat) 8)
    unfold reg at this ⊢
    rw [List.foldl_cons, this, List.length_cons, show 8 * (r.length + 1) = 8 + 8 * r.length by omega, rbits_add, leNum_cons_xor, ← Nat.xor_assoc, rbits_xor (c ^^^ x.toNat), rbits_shift]
theorem reg_append (c : Nat) (l m : List UInt8) : reg c (l ++ m) = reg (reg c l) m := by unfold reg; rw [List.foldl_append]
theorem reg_lt (c : Nat) (l : List UInt8) (h : c < 4294967296) : reg c l < 4294967296 := by
  induction l generalizing c with
  | nil => exact h
  | cons x r ih =>
    show reg (rbits (c ^^^ x.toNat) 8) r < _
    exact ih _ (rbits_lt _ _ (crcXor_lt _ _ h (by have := x.toNat_lt; omega)))
theorem gb_cons_succ (x : UInt8) (r : List UInt8) (i : Nat) : gb (x :: r) (i + 1) = gb r i := by simp [gb]
theorem gb_lt_length (l : List UInt8) (k : Nat) (h : k < l.length) : gb l k = l[k].toNat := by simp [gb, List.getD_eq_getElem?_getD, List.getElem?_eq_getElem h]
theorem take_succ_foldl {α : Type} (f : α → UInt8 → α) (l : List UInt8) (c : α) (k : Nat) (h : k < l.length) : (l.take (k + 1)).foldl f c = f ((l.take k).foldl f c) l[k] := by
  rw [List.take_succ_eq_append_getElem h, List.foldl_append]; rfl
theorem crcTo_eq (l : List UInt8) (c k : Nat) (h : k ≤ l.length) : crcTo l c k = reg c (l.take k) := by
  induction k with
  | zero => rfl
  | succ k ih =>
    unfold reg
    rw [take_succ_foldl _ _ _ _ (by omega)]
    show crcByte (crcTo l c k) (gb l k) = _
    rw [ih (by omega), crcByte_eq, gb_lt_length l k (by omega)]
    rfl
theorem rcrcTo_eq (l : List UInt8) (k : Nat) (h : k ≤ l.length) : rcrcTo l k = reg 4294967295 (l.take k) := by
  induction k with
  | zero => rfl
  | succ k ih =>
    unfold reg
    rw [take_succ_foldl _ _ _ _ (by omega)]
    show rbits (rcrcTo l k ^^^ gb l k) 8 = _
    rw [ih (by omega), gb_lt_length l k (by omega)]
    rfl
theorem rcrcN_eq (l : List UInt8) : rcrcN l = 4294967295 - reg 4294967295 l := by
  unfold rcrcN
  rw [rcrcTo_eq l l.length (Nat.le_refl _), List.take_length]
theorem crcParts_eq (ls : List (List UInt8)) (k : Nat) : crcParts ls k = reg 4294967295 (catTo ls k) := by
  induction k with
  | zero => rfl
  | succ k ih => rw [catTo, reg_append, ← ih, crcParts, crcTo_eq _ _ _ (Nat.le_refl _), List.take_length]
theorem crc_cat (ls : List (List UInt8)) : crcN ls = rcrcN (catTo ls ls.length) := by
  unfold crcN
  rw [crcParts_eq, rcrcN_eq]
theorem crc_one (l : List UInt8) : crcN [l] = rcrcN l := by rw [crc_cat]; simp [catTo]
theorem seal_eq (l : List UInt8) : sealL l = rsealL l := by unfold sealL rsealL; rw [crc_one]

/-! ### the seal -/
theorem not_xor (r : Nat) (h : r < 4294967296) : 4294967295 - r = 4294967295 ^^^ r := by
  have := BitVec.toNat_not (x := BitVec.ofNat 32 r)
  rw [← BitVec.allOnes_xor, BitVec.toNat_xor, BitVec.toNat_allOnes, BitVec.toNat_ofNat, Nat.mod_eq_of_lt (by simpa using h)] at this
  simpa using this.symm
theorem leNum_le4 (v : Nat) (h : v < 4294967296) : leNum (le4 v) = v := by
  simp [leNum, le4]
  omega
theorem reg_le4 (r v : Nat) (h : v < 4294967296) : reg r (le4 v) = rbits (r ^^^ v) 32 := by rw [reg_eq, leNum_le4 v h]; rfl
/-- The register behind whatever was sealed. -/
def residue : Nat := rbits 4294967295 32
theorem reg_seal (l : List UInt8) : reg 4294967295 (sealL l) = residue := by
  have hr := reg_lt 4294967295 l (by decide)
  unfold sealL
  rw [reg_append, crc_one, rcrcN_eq, reg_le4 _ _ (by omega), not_xor _ hr, Nat.xor_comm 4294967295, ← Nat.xor_assoc, Nat.xor_self, Nat.zero_xor]
  rfl
theorem or_add (a b i : Nat) (h : a < 2 ^ i) : a ||| b * 2 ^ i = a + b * 2 ^ i := by
  rw [Nat.or_comm, Nat.mul_comm, ← Nat.two_pow_add_eq_or_of_lt h, Nat.add_comm]
theorem dec4_eq (l : List UInt8) (n : Nat) : dec4 l n = gb l n + gb l (n + 1) * 256 + gb l (n + 2) * 65536 + gb l (n + 3) * 16777216 := by
  have g0 := gb_lt l n; have g1 := gb_lt l (n + 1); have g2 := gb_lt l (n + 2); have g3 := gb_lt l (n + 3)
  unfold dec4
  rw [show (256 : Nat) = 2 ^ 8 from rfl, or_add _ _ 8 (by omega), show (65536 : Nat) = 2 ^ 16 from rfl, or_add _ _ 16 (by omega), show (16777216 : Nat) = 2 ^ 24 from rfl, or_add _ _ 24 (by omega)]
theorem drop_four (l : List UInt8) (n : Nat) (h : l.length = n + 4) : l.drop n = le4 (dec4 l n) := by
  have hl : (l.drop n).length = 4 := by rw [List.length_drop]; omega
  apply leNum_inj (by rw [hl]; rfl)
  have g0 := gb_lt l n; have g1 := gb_lt l (n + 1); have g2 := gb_lt l (n + 2); have g3 := gb_lt l (n + 3)
  rw [leNum_le4 _ (by rw [dec4_eq]; omega), dec4_eq]
  have e : ∀ m : List UInt8, m.length = 4 → leNum m = gb m 0 + gb m 1 * 256 + gb m 2 * 65536 + gb m 3 * 16777216 := by
    intro m hm
    match m, hm with
    | [a, b, c, d], _ => simp [leNum, gb]; omega
  rw [e _ hl, gb_drop, gb_drop, gb_drop, gb_drop, Nat.add_zero]
theorem dec4_lt (l : List UInt8) (n : Nat) : dec4 l n < 4294967296 := by
  have g0 := gb_lt l n; have g1 := gb_lt l (n + 1); have g2 := gb_lt l (n + 2); have g3 := gb_lt l (n + 3)
  rw [dec4_eq]; omega
theorem open_iff (l : List UInt8) (h : 4 ≤ l.length) : dec4 l (l.length - 4) = crcN [l.take (l.length - 4)] ↔ sealL (l.take (l.length - 4)) = l := by
  have hd := drop_four l (l.length - 4) (by omega)
  constructor
  · intro e
    conv => rhs; rw [← List.take_append_drop (l.length - 4) l, hd, e]
    rfl
  · intro e
    have h1 := List.take_append_drop (l.length - 4) l
    have h2 : l.drop (l.length - 4) = le4 (crcN [l.take (l.length - 4)]) := by
      have : l.take (l.length - 4) ++ l.drop (l.length - 4) = l.take (l.length - 4) ++ le4 (crcN [l.take (l.length - 4)]) := by rw [h1]; exact e.symm
      exact List.append_cancel_left this
    rw [hd] at h2
    have h3 := congrArg leNum h2
    rwa [leNum_le4 _ (dec4_lt _ _), leNum_le4 _ (crcN_lt _)] at h3
theorem openE_eq (l : List UInt8) : openE l = ropenE l := by
  unfold openE ropenE
  by_cases h : l.length < 4
  · rw [if_pos h, if_pos h]
  · rw [if_neg h, if_neg h, ← seal_eq]
    by_cases e : dec4 l (l.length - 4) = crcN [l.take (l.length - 4)]
    · rw [if_pos e, if_pos ((open_iff l (by omega)).1 e)]
    · rw [if_neg e, if_neg (fun k => e ((open_iff l (by omega)).2 k))]
theorem openL_eq (l : List UInt8) : openL l = ropenL l := by unfold openL ropenL; rw [openE_eq]
theorem sealL_length (l : List UInt8) : (sealL l).length = l.length + 4 := by simp [sealL, le4_length]
theorem open_seal (l : List UInt8) : openE (sealL l) = 0 ∧ openL (sealL l) = l := by
  have ht : (sealL l).take ((sealL l).length - 4) = l := by rw [sealL_length, Nat.add_sub_cancel]; simp [sealL]
  have e : openE (sealL l) = 0 := by
    unfold openE
    rw [if_neg (by rw [sealL_length]; omega), if_pos ((open_iff _ (by rw [sealL_length]; omega)).2 (by rw [ht]))]
  exact ⟨e, by unfold openL; rw [if_pos e, ht]⟩
theorem seal_open (l : List UInt8) (h : openE l = 0) : sealL (openL l) = l := by
  unfold openL
  rw [if_pos h]
  unfold openE at h
  by_cases h4 : l.length < 4
  · rw [if_pos h4] at h; cases h
  · rw [if_neg h4] at h
    by_cases e : dec4 l (l.length - 4) = crcN [l.take (l.length - 4)]
    · exact (open_iff l (by omega)).1 e
    · rw [if_neg e] at h; cases h
theorem openE_cases (l : List UInt8) (h : 4 ≤ l.length) : openE l = 0 ∨ openE l = 10 := by
  unfold openE
  rw [if_neg (by omega)]
  split
  · exact .inl rfl
  · exact .inr rfl
/-- Bytes whose register is another one are refused. -/
theorem refused (p x : List UInt8) (q at_ : Nat) (hl : x.length = p.length + 4) (hq : q < 4294967296) (h0 : q ≠ 0) (ha : at_ ≤ 8 * x.length) (hx : leNum x = leNum (sealL p) ^^^ q * 2 ^ at_) : openE x = 10 := by
  rcases openE_cases x (by omega) with h | h
  · exfalso
    have h1 := reg_seal (openL x)
    rw [seal_open x h, reg_eq, hx, ← Nat.xor_assoc, rbits_xor] at h1
    have h2 := reg_seal p
    rw [reg_eq, sealL_length, ← hl] at h2
    rw [h2] at h1
    have h3 : rbits (q * 2 ^ at_) (8 * x.length) = 0 := by
      have := congrArg (residue ^^^ ·) h1
      simpa [← Nat.xor_assoc] using this
    rw [show 8 * x.length = at_ + (8 * x.length - at_) by omega, rbits_add, Nat.mul_comm, rbits_shift] at h3
    exact rbits_ne q _ hq h0 h3
  · exact h
end Go.Proofs.YtnknkmpdkdpnaaaDoor
