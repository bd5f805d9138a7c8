/- Polynomials over two numbers, as natural numbers: products, what is left, what two share. No program. -/
import Derived.WalkKit
namespace Go.Proofs.Ytmohjgcnhibkoaa
set_option linter.unusedVariables false

/-! ### how many bits -/
def bl (n : Nat) : Nat := if n = 0 then 0 else n.log2 + 1
theorem bl_zero : bl 0 = 0 := rfl
theorem bl_le {n k : Nat} : bl n ≤ k ↔ n < 2 ^ k := by
  unfold bl
  by_cases h : n = 0
  · subst h; simp [Nat.two_pow_pos]
  · rw [if_neg h]
    constructor
    · intro h1; exact (Nat.log2_lt h).1 (by omega)
    · intro h1; have := (Nat.log2_lt h).2 h1; omega
theorem bl_lt {n k : Nat} : k < bl n ↔ 2 ^ k ≤ n := by
  have := @bl_le n k
  omega
theorem bl_pos {n : Nat} : 0 < bl n ↔ n ≠ 0 := by rw [bl_lt]; simp; omega
theorem bl_eq_zero {n : Nat} : bl n = 0 ↔ n = 0 := by have := @bl_pos n; omega
theorem bl_one : bl 1 = 1 := by decide
theorem bl_of {n k : Nat} (h1 : 2 ^ k ≤ n) (h2 : n < 2 ^ (k + 1)) : bl n = k + 1 := by
  have a := bl_lt.2 h1
  have b := bl_le.2 h2
  omega
theorem bl_range {n : Nat} (h : n ≠ 0) : 2 ^ (bl n - 1) ≤ n ∧ n < 2 ^ bl n := ⟨bl_lt.1 (by have := bl_pos.2 h; omega), bl_le.1 (Nat.le_refl _)⟩
theorem bl_mul_pow (n k : Nat) (h : n ≠ 0) : bl (n * 2 ^ k) = bl n + k := by
  obtain ⟨h1, h2⟩ := bl_range h
  have hp := bl_pos.2 h
  rw [show bl n + k = (bl n - 1 + k) + 1 by omega]
  refine bl_of ?_ ?_
  · rw [Nat.pow_add]; exact Nat.mul_le_mul_right _ h1
  · rw [show bl n - 1 + k + 1 = bl n + k by omega, Nat.pow_add]; exact Nat.mul_lt_mul_of_pos_right h2 (Nat.two_pow_pos k)
theorem bl_two_mul (n : Nat) (h : n ≠ 0) : bl (2 * n) = bl n + 1 := by have := bl_mul_pow n 1 h; rw [Nat.mul_comm]; simpa using this
theorem bl_half (n : Nat) : bl (n / 2) = bl n - 1 := by
  by_cases h : n = 0
  · subst h; rfl
  · by_cases h1 : n = 1
    · subst h1; rfl
    · obtain ⟨a, b⟩ := bl_range h
      have h2 : 2 ≤ bl n := by have := bl_lt.2 (show 2 ^ 1 ≤ n by omega); omega
      obtain ⟨k, hk⟩ : ∃ k, bl n = k + 2 := ⟨bl n - 2, by omega⟩
      rw [hk] at a b ⊢
      refine bl_of (k := k) ?_ ?_
      · rw [show k + 2 - 1 = k + 1 by omega, Nat.pow_succ] at a; omega
      · rw [Nat.pow_succ] at b; omega
theorem bl_xor_le (a b : Nat) : bl (a ^^^ b) ≤ max (bl a) (bl b) := by
  rw [bl_le]
  exact Nat.xor_lt_two_pow (bl_le.1 (Nat.le_max_left _ _)) (bl_le.1 (Nat.le_max_right _ _))
theorem bl_xor_lt {a b k : Nat} (ha : bl a < k) (hb : bl b < k) : bl (a ^^^ b) < k := by have := bl_xor_le a b; omega
theorem bl_xor_big {a b : Nat} (h : bl a < bl b) : bl (a ^^^ b) = bl b := by
  have h1 := bl_xor_le a b
  have h2 := bl_xor_le a (a ^^^ b)
  rw [← Nat.xor_assoc, Nat.xor_self, Nat.zero_xor] at h2
  omega
theorem top_bit {n : Nat} (h : n ≠ 0) : n.testBit (bl n - 1) = true := by
  obtain ⟨a, b⟩ := bl_range h
  have hp := bl_pos.2 h
  rw [Nat.testBit_eq_decide_div_mod_eq]
  have : n / 2 ^ (bl n - 1) = 1 := by
    refine Nat.div_eq_of_lt_le ?_ ?_
    · omega
    · rw [show (1 + 1) * 2 ^ (bl n - 1) = 2 ^ (bl n - 1 + 1) by rw [Nat.pow_succ]; omega, show bl n - 1 + 1 = bl n by omega]; exact b
  rw [this]; rfl
/-- Where both are of one length, the sum is shorter. -/
theorem bl_xor_same {a b : Nat} (h : bl a = bl b) (h0 : a ≠ 0) : bl (a ^^^ b) < bl a := by
  have hb : b ≠ 0 := by intro e; rw [e, bl_zero, bl_eq_zero] at h; exact h0 h
  have hp := bl_pos.2 h0
  have ha := top_bit h0
  have hbt := top_bit hb
  rw [← h] at hbt
  have h1 := bl_xor_le a b
  by_cases hz : a ^^^ b = 0
  · rw [hz, bl_zero]; omega
  · have ht := top_bit hz
    have : bl (a ^^^ b) ≠ bl a := by
      intro e
      rw [e, Nat.testBit_xor, ha, hbt] at ht
      cases ht
    omega

/-! ### sums -/
theorem two_mul_xor (a b : Nat) : 2 * (a ^^^ b) = 2 * a ^^^ 2 * b := by
  have := Nat.shiftLeft_xor_distrib (a := a) (b := b) (i := 1)
  simpa [Nat.shiftLeft_eq, Nat.mul_comm] using this
theorem pow_mul_xor (a b k : Nat) : (a ^^^ b) * 2 ^ k = a * 2 ^ k ^^^ b * 2 ^ k := by
  have := Nat.shiftLeft_xor_distrib (a := a) (b := b) (i := k)
  simpa [Nat.shiftLeft_eq] using this
theorem half_xor (a b : Nat) : (a ^^^ b) / 2 = a / 2 ^^^ b / 2 := by
  have := Nat.shiftRight_xor_distrib (a := a) (b := b) (i := 1)
  simpa [Nat.shiftRight_eq_div_pow] using this
theorem mod_two_xor (a b : Nat) : (a ^^^ b) % 2 = (a % 2) ^^^ (b % 2) := by
  have := Nat.xor_mod_two_pow (a := a) (b := b) (n := 1)
  simpa using this
theorem split_two (q : Nat) : q % 2 ^^^ 2 * (q / 2) = q := by
  have : q % 2 ^^^ 2 * (q / 2) = q % 2 + 2 * (q / 2) := by
    have h := Nat.two_pow_add_eq_or_of_lt (i := 1) (b := q % 2) (by omega) (q / 2)
    rw [Nat.xor_comm]
    have e : 2 * (q / 2) ^^^ q % 2 = 2 * (q / 2) ||| q % 2 := by
      apply Nat.eq_of_testBit_eq
      intro i
      rw [Nat.testBit_xor, Nat.testBit_or]
      cases i with
      | zero => simp
      | succ i =>
        have : (q % 2).testBit (i + 1) = false := Nat.testBit_lt_two_pow (Nat.lt_of_lt_of_le (Nat.mod_lt _ (by decide)) (by rw [Nat.pow_succ]; have := Nat.two_pow_pos i; omega))
        simp [this]
    rw [e]
    simp at h
    rw [← h]; omega
  rw [this]; omega
theorem xor_left_comm' (a b c : Nat) : a ^^^ (b ^^^ c) = b ^^^ (a ^^^ c) := by rw [← Nat.xor_assoc, ← Nat.xor_assoc, Nat.xor_comm a b]
theorem xor_four (a b c d : Nat) : (a ^^^ b) ^^^ (c ^^^ d) = (a ^^^ c) ^^^ (b ^^^ d) := by
  rw [Nat.xor_assoc, Nat.xor_assoc, xor_left_comm' b c d]
theorem xor_cancel (a b : Nat) : a ^^^ (a ^^^ b) = b := by rw [← Nat.xor_assoc, Nat.xor_self, Nat.zero_xor]
theorem xor_eq_zero {a b : Nat} (h : a ^^^ b = 0) : a = b := by
  have := xor_cancel a b
  rw [h, Nat.xor_zero] at this
  exact this

/-! ### products -/
def cmF : Nat → Nat → Nat → Nat
  | 0, _, _ => 0
  | k + 1, q, p => (if q % 2 = 1 then p else 0) ^^^ 2 * cmF k (q / 2) p
def cm (q p : Nat) : Nat := cmF (bl q) q p
theorem cmF_zero (k p : Nat) : cmF k 0 p = 0 := by
  induction k with
  | zero => rfl
  | succ k ih => simp [cmF, ih]
theorem cmF_ge : ∀ (k q p : Nat), bl q ≤ k → cmF k q p = cm q p := by
  have key : ∀ (k j q p : Nat), bl q ≤ k → bl q ≤ j → cmF k q p = cmF j q p := by
    intro k
    induction k with
    | zero =>
      intro j q p hk hj
      have : q = 0 := bl_eq_zero.1 (by omega)
      subst this
      rw [cmF_zero, cmF_zero]
    | succ k ih =>
      intro j q p hk hj
      cases j with
      | zero =>
        have : q = 0 := bl_eq_zero.1 (by omega)
        subst this
        rw [cmF_zero, cmF_zero]
      | succ j =>
        simp only [cmF]
        rw [ih j (q / 2) p (by rw [bl_half]; omega) (by rw [bl_half]; omega)]
  intro k q p h
  exact key k (bl q) q p h (Nat.le_refl _)
theorem cm_step (q p : Nat) : cm q p = (if q % 2 = 1 then p else 0) ^^^ 2 * cm (q / 2) p := by
  rw [← cmF_ge (bl q + 1) q p (by omega), cmF, cmF_ge _ _ _ (by rw [bl_half]; omega)]
theorem cm_zero_left (p : Nat) : cm 0 p = 0 := rfl
theorem cm_one_left (p : Nat) : cm 1 p = p := by rw [cm_step]; simp [cm_zero_left]
theorem cm_two_left (q p : Nat) : cm (2 * q) p = 2 * cm q p := by
  rw [cm_step, show 2 * q / 2 = q by omega, if_neg (by omega), Nat.zero_xor]
theorem cm_odd_left (q p : Nat) : cm (2 * q + 1) p = p ^^^ 2 * cm q p := by
  rw [cm_step, show (2 * q + 1) / 2 = q by omega, if_pos (by omega)]
theorem cm_bit_left (q b p : Nat) (hb : b < 2) : cm (2 * q + b) p = b * p ^^^ 2 * cm q p := by
  match b, hb with
  | 0, _ => rw [Nat.add_zero, cm_two_left, Nat.zero_mul, Nat.zero_xor]
  | 1, _ => rw [cm_odd_left, Nat.one_mul]
/-- Induction over the bits. -/
theorem bits_ind {P : Nat → Prop} (h0 : P 0) (h : ∀ q, P (q / 2) → P q) (q : Nat) : P q := by
  have : ∀ n q, q ≤ n → P q := by
    intro n
    induction n with
    | zero =>
      intro q hq
      obtain rfl : q = 0 := by omega
      exact h0
    | succ n ih =>
      intro q hq
      by_cases e : q = 0
      · rw [e]; exact h0
      · exact h q (ih (q / 2) (by omega))
  exact this q q (Nat.le_refl _)
theorem cm_xor_right (q a b : Nat) : cm q (a ^^^ b) = cm q a ^^^ cm q b := by
  induction q using bits_ind with
  | h0 => simp [cm_zero_left]
  | h q ih =>
    rw [cm_step q (a ^^^ b), cm_step q a, cm_step q b, ih, two_mul_xor, xor_four]
    congr 1
    split <;> simp
theorem cm_zero_right (q : Nat) : cm q 0 = 0 := by
  have := cm_xor_right q 0 0
  rw [Nat.xor_self, Nat.xor_self] at this
  exact this
theorem cm_two_right (q p : Nat) : cm q (2 * p) = 2 * cm q p := by
  induction q using bits_ind with
  | h0 => simp [cm_zero_left]
  | h q ih =>
    rw [cm_step q (2 * p), cm_step q p, ih, two_mul_xor]
    congr 1
    split <;> simp
theorem cm_pow_right (q p k : Nat) : cm q (p * 2 ^ k) = cm q p * 2 ^ k := by
  induction k with
  | zero => simp
  | succ k ih => rw [Nat.pow_succ, ← Nat.mul_assoc, Nat.mul_comm (p * 2 ^ k) 2, cm_two_right, ih, Nat.mul_comm 2, Nat.mul_assoc]
theorem cm_xor_left (a b p : Nat) : cm (a ^^^ b) p = cm a p ^^^ cm b p := by
  induction a using bits_ind generalizing b with
  | h0 => simp [cm_zero_left]
  | h a ih =>
    rw [cm_step (a ^^^ b) p, cm_step a p, cm_step b p, half_xor, ih, two_mul_xor, xor_four]
    congr 1
    rw [mod_two_xor]
    rcases Nat.mod_two_eq_zero_or_one a with ha | ha <;> rcases Nat.mod_two_eq_zero_or_one b with hb | hb <;> simp [ha, hb]
theorem cm_one_right (q : Nat) : cm q 1 = q := by
  induction q using bits_ind with
  | h0 => rfl
  | h q ih =>
    rw [cm_step, ih]
    conv => rhs; rw [← split_two q]
    congr 1
    rcases Nat.mod_two_eq_zero_or_one q with h | h <;> simp [h]
theorem cm_comm (a b : Nat) : cm a b = cm b a := by
  induction a using bits_ind generalizing b with
  | h0 => rw [cm_zero_left, cm_zero_right]
  | h a ih =>
    have e : cm b a = cm b (a % 2) ^^^ cm b (2 * (a / 2)) := by rw [← cm_xor_right, split_two]
    rw [e, cm_two_right, ← ih, cm_step a b]
    congr 1
    rcases Nat.mod_two_eq_zero_or_one a with h | h
    · simp [h, cm_zero_right]
    · simp [h, cm_one_right]
theorem cm_assoc (a b c : Nat) : cm (cm a b) c = cm a (cm b c) := by
  induction a using bits_ind with
  | h0 => simp [cm_zero_left]
  | h a ih =>
    rw [cm_step a b, cm_step a (cm b c), cm_xor_left, cm_two_left, ih]
    congr 1
    split <;> simp [cm_zero_left]
theorem cm_pow_left (k p : Nat) : cm (2 ^ k) p = p * 2 ^ k := by
  have := cm_pow_right p 1 k
  rw [Nat.one_mul, cm_one_right] at this
  rw [cm_comm, this]
theorem bl_cm {a b : Nat} (ha : a ≠ 0) (hb : b ≠ 0) : bl (cm a b) + 1 = bl a + bl b := by
  induction a using bits_ind with
  | h0 => exact absurd rfl ha
  | h a ih =>
    by_cases h1 : a / 2 = 0
    · have : a = 1 := by omega
      subst this
      rw [cm_one_left, bl_one]; omega
    · have ih' := ih h1
      have h2 : cm (a / 2) b ≠ 0 := by
        intro e
        rw [e, bl_zero] at ih'
        have := bl_pos.2 h1
        have := bl_pos.2 hb
        omega
      have h3 := bl_two_mul _ h2
      have h4 := bl_half a
      have h5 := bl_pos.2 h1
      have h6 := bl_pos.2 hb
      rw [cm_step a b, bl_xor_big (by split <;> (try rw [bl_zero]) <;> omega)]
      omega
theorem cm_ne_zero {a b : Nat} (ha : a ≠ 0) (hb : b ≠ 0) : cm a b ≠ 0 := by
  intro e
  have := bl_cm ha hb
  rw [e, bl_zero] at this
  have := bl_pos.2 ha
  have := bl_pos.2 hb
  omega

/-! ### what is left -/
def mdF : Nat → Nat → Nat → Nat
  | 0, a, _ => a
  | k + 1, a, p => if p = 0 ∨ bl a < bl p then a else mdF k (a ^^^ p * 2 ^ (bl a - bl p)) p
def md (a p : Nat) : Nat := mdF (bl a) a p
theorem step_bl {a p : Nat} (hp : p ≠ 0) (h : bl p ≤ bl a) : bl (a ^^^ p * 2 ^ (bl a - bl p)) < bl a := by
  have h1 := bl_mul_pow p (bl a - bl p) hp
  have h2 := bl_pos.2 hp
  exact bl_xor_same (by omega) (bl_pos.1 (by omega))
/-- Two that are the same but for a multiple. -/
def Cg (p a b : Nat) : Prop := ∃ q, a ^^^ b = cm q p
theorem Cg.refl (p a : Nat) : Cg p a a := ⟨0, by rw [Nat.xor_self, cm_zero_left]⟩
theorem Cg.symm {p a b : Nat} (h : Cg p a b) : Cg p b a := by obtain ⟨q, hq⟩ := h; exact ⟨q, by rw [Nat.xor_comm, hq]⟩
theorem Cg.trans {p a b c : Nat} (h : Cg p a b) (k : Cg p b c) : Cg p a c := by
  obtain ⟨q, hq⟩ := h
  obtain ⟨r, hr⟩ := k
  refine ⟨q ^^^ r, ?_⟩
  rw [cm_xor_left, ← hq, ← hr, Nat.xor_assoc, xor_cancel]
theorem Cg.xor {p a b c d : Nat} (h : Cg p a b) (k : Cg p c d) : Cg p (a ^^^ c) (b ^^^ d) := by
  obtain ⟨q, hq⟩ := h
  obtain ⟨r, hr⟩ := k
  exact ⟨q ^^^ r, by rw [cm_xor_left, ← hq, ← hr, xor_four]⟩
theorem Cg.cm {p a b : Nat} (h : Cg p a b) (c : Nat) : Cg p (cm c a) (cm c b) := by
  obtain ⟨q, hq⟩ := h
  exact ⟨Go.Proofs.Ytmohjgcnhibkoaa.cm c q, by rw [← cm_xor_right, hq, cm_assoc]⟩
theorem Cg.mul {p a b c d : Nat} (h : Cg p a b) (k : Cg p c d) : Cg p (Go.Proofs.Ytmohjgcnhibkoaa.cm a c) (Go.Proofs.Ytmohjgcnhibkoaa.cm b d) := by
  have h1 := h.cm c
  have h2 := k.cm b
  rw [cm_comm c a, cm_comm c b] at h1
  exact h1.trans h2
theorem Cg.two {p a b : Nat} (h : Cg p a b) : Cg p (2 * a) (2 * b) := by
  have := h.cm 2
  rwa [show (2 : Nat) = 2 * 1 from rfl, cm_two_left, cm_one_left, cm_two_left, cm_one_left] at this
theorem Cg.pow {p a b : Nat} (h : Cg p a b) (k : Nat) : Cg p (a * 2 ^ k) (b * 2 ^ k) := by
  have := h.cm (2 ^ k)
  rwa [cm_pow_left, cm_pow_left] at this
theorem Cg.mult (p q : Nat) : Cg p (Go.Proofs.Ytmohjgcnhibkoaa.cm q p) 0 := ⟨q, by rw [Nat.xor_zero]⟩
theorem Cg.step (a p k : Nat) : Cg p (a ^^^ p * 2 ^ k) a := ⟨2 ^ k, by rw [cm_pow_left, Nat.xor_comm, xor_cancel]⟩
theorem mdF_spec (p : Nat) (hp : p ≠ 0) : ∀ k a, bl a ≤ k → bl (mdF k a p) < bl p ∧ Cg p a (mdF k a p) := by
  intro k
  induction k with
  | zero =>
    intro a ha
    have : a = 0 := bl_eq_zero.1 (by omega)
    subst this
    exact ⟨by rw [mdF, bl_zero]; exact bl_pos.2 hp, Cg.refl _ _⟩
  | succ k ih =>
    intro a ha
    rw [mdF]
    by_cases h : p = 0 ∨ bl a < bl p
    · rw [if_pos h]
      exact ⟨h.resolve_left hp, Cg.refl _ _⟩
    · rw [if_neg h]
      have h1 : bl p ≤ bl a := by omega
      have := ih (a ^^^ p * 2 ^ (bl a - bl p)) (by have := step_bl hp h1; omega)
      exact ⟨this.1, (Cg.step a p _).symm.trans this.2⟩
theorem md_lt (a p : Nat) (hp : p ≠ 0) : bl (md a p) < bl p := (mdF_spec p hp (bl a) a (Nat.le_refl _)).1
theorem md_cg (a p : Nat) (hp : p ≠ 0) : Cg p a (md a p) := (mdF_spec p hp (bl a) a (Nat.le_refl _)).2
theorem md_zero_right (a : Nat) : md a 0 = a := by
  unfold md
  cases bl a with
  | zero => rfl
  | succ k => rw [mdF, if_pos (.inl rfl)]
theorem cg_small {p a b : Nat} (h : Cg p a b) (ha : bl a < bl p) (hb : bl b < bl p) : a = b := by
  obtain ⟨q, hq⟩ := h
  have h1 := bl_xor_lt ha hb
  by_cases hq0 : q = 0
  · rw [hq0, cm_zero_left] at hq; exact xor_eq_zero hq
  · have hp : p ≠ 0 := bl_pos.1 (by omega)
    have := bl_cm hq0 hp
    have := bl_pos.2 hq0
    rw [hq] at h1
    omega
theorem md_unique {a p r : Nat} (hr : bl r < bl p) (h : Cg p a r) : md a p = r := by
  have hp : p ≠ 0 := bl_pos.1 (by omega)
  exact cg_small ((md_cg a p hp).symm.trans h) (md_lt a p hp) hr
theorem md_small {a p : Nat} (h : bl a < bl p) : md a p = a := md_unique h (Cg.refl _ _)
theorem md_eq {a b p : Nat} (h : Cg p a b) : md a p = md b p := by
  by_cases hp : p = 0
  · subst hp
    obtain ⟨q, hq⟩ := h
    rw [cm_zero_right] at hq
    rw [xor_eq_zero hq]
  · exact md_unique (md_lt b p hp) (h.trans (md_cg b p hp))
theorem cg_of_md {a b p : Nat} (hp : p ≠ 0) (h : md a p = md b p) : Cg p a b := (md_cg a p hp).trans (h ▸ (md_cg b p hp).symm)
theorem md_md (a p : Nat) : md (md a p) p = md a p := by
  by_cases hp : p = 0
  · subst hp; rw [md_zero_right, md_zero_right]
  · exact md_small (md_lt a p hp)
theorem md_xor (a b p : Nat) : md (a ^^^ b) p = md a p ^^^ md b p := by
  by_cases hp : p = 0
  · subst hp; rw [md_zero_right, md_zero_right, md_zero_right]
  · exact md_unique (bl_xor_lt (md_lt a p hp) (md_lt b p hp)) ((md_cg a p hp).xor (md_cg b p hp))
theorem md_zero (p : Nat) : md 0 p = 0 := rfl
theorem md_step {a p : Nat} (k : Nat) : md (a ^^^ p * 2 ^ k) p = md a p := md_eq (Cg.step a p k)
theorem md_le (a p : Nat) : bl (md a p) ≤ bl a := by
  by_cases hp : p = 0
  · subst hp; rw [md_zero_right]; exact Nat.le_refl _
  · by_cases h : bl a < bl p
    · rw [md_small h]; exact Nat.le_refl _
    · have := md_lt a p hp; omega
theorem md_cm_md (a b p : Nat) : md (cm a (md b p)) p = md (cm a b) p := by
  by_cases hp : p = 0
  · subst hp; rw [md_zero_right b]
  · exact md_eq (((md_cg b p hp).symm).cm a)

/-! ### what two share -/
def gcF : Nat → Nat → Nat → Nat
  | 0, a, _ => a
  | k + 1, a, b => if b = 0 then a else gcF k b (md a b)
def gc (a b : Nat) : Nat := gcF (bl b + 1) a b
theorem gcF_ge : ∀ (k a b : Nat), bl b < k → gcF k a b = gc a b := by
  have key : ∀ (k j a b : Nat), bl b < k → bl b < j → gcF k a b = gcF j a b := by
    intro k
    induction k with
    | zero => intro j a b h; omega
    | succ k ih =>
      intro j a b hk hj
      cases j with
      | zero => omega
      | succ j =>
        simp only [gcF]
        split
        · rfl
        · rename_i hb
          have := md_lt a b hb
          exact ih j b (md a b) (by omega) (by omega)
  intro k a b h
  exact key k (bl b + 1) a b h (by omega)
theorem gc_zero (a : Nat) : gc a 0 = a := by simp [gc, gcF]
theorem gc_step {a b : Nat} (hb : b ≠ 0) : gc a b = gc b (md a b) := by
  have := md_lt a b hb
  rw [gc, gcF, if_neg hb, gcF_ge _ _ _ (by omega)]
/-- d divides a. -/
def Dv (d a : Nat) : Prop := ∃ q, a = cm q d
theorem Dv.refl (d : Nat) : Dv d d := ⟨1, (cm_one_left d).symm⟩
theorem Dv.zero (d : Nat) : Dv d 0 := ⟨0, rfl⟩
theorem Dv.trans {a b c : Nat} (h : Dv a b) (k : Dv b c) : Dv a c := by
  obtain ⟨q, rfl⟩ := h
  obtain ⟨r, rfl⟩ := k
  exact ⟨cm r q, (cm_assoc r q a).symm⟩
theorem Dv.xor {d a b : Nat} (h : Dv d a) (k : Dv d b) : Dv d (a ^^^ b) := by
  obtain ⟨q, rfl⟩ := h
  obtain ⟨r, rfl⟩ := k
  exact ⟨q ^^^ r, (cm_xor_left q r d).symm⟩
theorem Dv.cm {d a : Nat} (h : Dv d a) (c : Nat) : Dv d (Go.Proofs.Ytmohjgcnhibkoaa.cm c a) := h.trans ⟨c, rfl⟩
theorem Dv.md {d a p : Nat} (ha : Dv d a) (hp : Dv d p) : Dv d (md a p) := by
  by_cases h0 : p = 0
  · subst h0; rw [md_zero_right]; exact ha
  · obtain ⟨q, hq⟩ := md_cg a p h0
    have : Go.Proofs.Ytmohjgcnhibkoaa.md a p = a ^^^ Go.Proofs.Ytmohjgcnhibkoaa.cm q p := by rw [← hq, xor_cancel]
    rw [this]
    exact ha.xor (hp.cm q)
theorem Dv.of_md {d a p : Nat} (hm : Dv d (Go.Proofs.Ytmohjgcnhibkoaa.md a p)) (hp : Dv d p) : Dv d a := by
  by_cases h0 : p = 0
  · subst h0; rw [md_zero_right] at hm; exact hm
  · obtain ⟨q, hq⟩ := md_cg a p h0
    have : a = Go.Proofs.Ytmohjgcnhibkoaa.md a p ^^^ Go.Proofs.Ytmohjgcnhibkoaa.cm q p := by rw [← hq, Nat.xor_comm a, xor_cancel]
    rw [this]
    exact hm.xor (hp.cm q)
theorem dv_iff {d a : Nat} (hd : d ≠ 0) : Dv d a ↔ md a d = 0 := by
  constructor
  · rintro ⟨q, rfl⟩
    rw [md_eq (Cg.mult d q)]; rfl
  · intro h
    obtain ⟨q, hq⟩ := md_cg a d hd
    rw [h, Nat.xor_zero] at hq
    exact ⟨q, hq⟩
theorem dv_bl {d a : Nat} (h : Dv d a) (ha : a ≠ 0) : bl d ≤ bl a := by
  obtain ⟨q, rfl⟩ := h
  have hq : q ≠ 0 := by intro e; rw [e, cm_zero_left] at ha; exact ha rfl
  have hd : d ≠ 0 := by intro e; rw [e, cm_zero_right] at ha; exact ha rfl
  have := bl_cm hq hd
  have := bl_pos.2 hq
  omega
theorem gc_dv : ∀ (k a b : Nat), bl b ≤ k → Dv (gc a b) a ∧ Dv (gc a b) b := by
  intro k
  induction k with
  | zero =>
    intro a b h
    have : b = 0 := bl_eq_zero.1 (by omega)
    subst this
    rw [gc_zero]
    exact ⟨Dv.refl _, Dv.zero _⟩
  | succ k ih =>
    intro a b h
    by_cases hb : b = 0
    · subst hb; rw [gc_zero]; exact ⟨Dv.refl _, Dv.zero _⟩
    · rw [gc_step hb]
      have := md_lt a b hb
      obtain ⟨h1, h2⟩ := ih b (md a b) (by omega)
      exact ⟨h2.of_md h1, h1⟩
theorem dv_gc : ∀ (k a b d : Nat), bl b ≤ k → Dv d a → Dv d b → Dv d (gc a b) := by
  intro k
  induction k with
  | zero =>
    intro a b d h ha _
    have : b = 0 := bl_eq_zero.1 (by omega)
    subst this
    rw [gc_zero]; exact ha
  | succ k ih =>
    intro a b d h ha hb'
    by_cases hb : b = 0
    · subst hb; rw [gc_zero]; exact ha
    · rw [gc_step hb]
      have := md_lt a b hb
      exact ih b (md a b) d (by omega) hb' (ha.md hb')

/-! ### the tests -/
def mulN (a b p : Nat) : Nat := if p = 0 ∨ 63 < bl p then 0 else md (cm a b) p
def prLoop (p : Nat) : Nat → Nat → Bool
  | 0, _ => true
  | k + 1, x => if 1 < bl (gc p (md (cm x x) p ^^^ md 2 p)) then false else prLoop p k (md (cm x x) p)
def primeN (p : Nat) : Bool := decide (2 ≤ bl p ∧ bl p ≤ 32) && prLoop p ((bl p - 1) / 2) (md 2 p)
theorem trinomial_prime : primeN 2147483657 = true := by decide +kernel
end Go.Proofs.Ytmohjgcnhibkoaa
