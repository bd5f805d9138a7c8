/- Polynomials over two numbers: what has no lesser divisors, the test lets pass. No program. -/
import Derived.Test.YtmohjgcnhibkoaaPolyB
namespace Go.Proofs.Ytmohjgcnhibkoaa
set_option linter.unusedVariables false

/-! ### squares -/
def sqI : Nat → Nat → Nat
  | 0, r => r
  | k + 1, r => cm (sqI k r) (sqI k r)
theorem sq_xor (a b : Nat) : cm (a ^^^ b) (a ^^^ b) = cm a a ^^^ cm b b := by
  rw [cm_xor_left, cm_xor_right, cm_xor_right, cm_comm b a, ← Nat.xor_assoc, Nat.xor_assoc (cm a a), Nat.xor_self, Nat.xor_zero]
theorem sqI_xor (k a b : Nat) : sqI k (a ^^^ b) = sqI k a ^^^ sqI k b := by
  induction k with
  | zero => rfl
  | succ k ih => simp only [sqI]; rw [ih, sq_xor]
theorem cm_four (a b c d : Nat) : cm (cm a b) (cm c d) = cm (cm a c) (cm b d) := by
  rw [cm_assoc, cm_assoc, ← cm_assoc b c d, cm_comm b c, cm_assoc c b d]
theorem sqI_cm (k a b : Nat) : sqI k (cm a b) = cm (sqI k a) (sqI k b) := by
  induction k with
  | zero => rfl
  | succ k ih => simp only [sqI]; rw [ih, cm_four]
theorem sqI_two (k : Nat) : sqI k 2 = 2 ^ 2 ^ k := by
  induction k with
  | zero => rfl
  | succ k ih => simp only [sqI]; rw [ih, sq_pow, Nat.pow_succ 2 k, Nat.mul_comm 2]
theorem sqI_bit (k b : Nat) (hb : b < 2) : sqI k b = b := by
  induction k with
  | zero => rfl
  | succ k ih =>
    simp only [sqI]
    rw [ih]
    match b, hb with
    | 0, _ => rfl
    | 1, _ => exact cm_one_left 1
theorem cm_two (q : Nat) : cm 2 q = 2 * q := by
  have := cm_two_left 1 q
  rwa [cm_one_left] at this
/-- Where X to the 2^m is X, every one to the 2^m is itself. -/
theorem sqI_all {p m : Nat} (h : Cg p (2 ^ 2 ^ m) 2) (r : Nat) : Cg p (sqI m r) r := by
  induction r using bits_ind with
  | h0 => rw [sqI_bit m 0 (by decide)]; exact Cg.refl _ _
  | h r ih =>
    have h1 : Cg p (sqI m (2 * (r / 2))) (2 * (r / 2)) := by
      rw [← cm_two, sqI_cm, sqI_two]
      exact h.mul ih
    have h2 : Cg p (sqI m (r % 2)) (r % 2) := by rw [sqI_bit m _ (Nat.mod_lt _ (by decide))]; exact Cg.refl _ _
    have := h2.xor h1
    rwa [← sqI_xor, split_two] at this

/-! ### how many roots -/
/-- What a polynomial with the lesser coefficients l, and with 1 as its first, is at y. -/
def ev1 : List Nat → Nat → Nat
  | [], _ => 1
  | c :: l, y => c ^^^ cm y (ev1 l y)
def quo1 (a : Nat) : List Nat → List Nat
  | [] => []
  | [_] => []
  | _ :: c' :: l => ev1 (c' :: l) a :: quo1 a (c' :: l)
theorem quo1_length (a : Nat) : ∀ (l : List Nat) (c : Nat), (quo1 a (c :: l)).length = l.length
  | [], _ => rfl
  | c' :: l, _ => by simp only [quo1, List.length_cons]; rw [quo1_length a l c']
theorem ev1_sub (a y : Nat) : ∀ (l : List Nat) (c : Nat), ev1 (c :: l) y ^^^ ev1 (c :: l) a = cm (y ^^^ a) (ev1 (quo1 a (c :: l)) y)
  | [], c => by
    simp only [ev1, quo1]
    rw [cm_one_right, cm_one_right, cm_one_right, xor_four, Nat.xor_self, Nat.zero_xor]
  | c' :: l, c => by
    have ih := ev1_sub a y l c'
    have e1 : ev1 (c :: c' :: l) y = c ^^^ cm y (ev1 (c' :: l) y) := rfl
    have e2 : ev1 (c :: c' :: l) a = c ^^^ cm a (ev1 (c' :: l) a) := rfl
    have e3 : ev1 (quo1 a (c :: c' :: l)) y = ev1 (c' :: l) a ^^^ cm y (ev1 (quo1 a (c' :: l)) y) := rfl
    rw [e1, e2, e3]
    generalize ev1 (c' :: l) y = E at *
    generalize ev1 (c' :: l) a = A at *
    generalize ev1 (quo1 a (c' :: l)) y = Q at *
    rw [cm_xor_right, ← cm_assoc, cm_comm (y ^^^ a) y, cm_assoc, ← ih, cm_xor_right, cm_xor_left, xor_four c, Nat.xor_self, Nat.zero_xor]
    rw [Nat.xor_comm (cm y E) (cm y A), ← Nat.xor_assoc, Nat.xor_comm (cm y A ^^^ cm a A) (cm y A), ← Nat.xor_assoc, Nat.xor_self, Nat.zero_xor, Nat.xor_comm]
theorem roots_le {p : Nat} (h : Irr p) : ∀ (n : Nat) (l : List Nat), l.length = n → ∀ rs : List Nat, rs.Nodup → (∀ r ∈ rs, bl r < bl p) → (∀ r ∈ rs, Dv p (ev1 l r)) → rs.length ≤ n := by
  intro n
  induction n with
  | zero =>
    intro l hl rs _ _ hr
    obtain rfl : l = [] := List.eq_nil_of_length_eq_zero hl
    cases rs with
    | nil => exact Nat.le_refl _
    | cons r rs =>
      exfalso
      have k := dv_bl (hr r List.mem_cons_self) (show ev1 [] r ≠ 0 by simp [ev1])
      have e : bl (ev1 [] r) = 1 := rfl
      have := h.1
      omega
  | succ n ih =>
    intro l hl rs hn hs hr
    cases l with
    | nil => simp at hl
    | cons c l =>
      cases rs with
      | nil => simp
      | cons a rs =>
        rw [List.length_cons]
        have hl' : l.length = n := by simpa using hl
        refine Nat.succ_le_succ (ih (quo1 a (c :: l)) (by rw [quo1_length, hl']) rs (List.nodup_cons.1 hn).2 (fun r k => hs r (List.mem_cons_of_mem a k)) fun r k => ?_)
        have h1 := (hr r (List.mem_cons_of_mem a k)).xor (hr a List.mem_cons_self)
        rw [ev1_sub] at h1
        refine h.prod h1 fun hd => ?_
        have h2 := (small_dv (bl_xor_lt (hs r (List.mem_cons_of_mem a k)) (hs a List.mem_cons_self))).1 hd
        have h3 := xor_eq_zero h2
        exact (List.nodup_cons.1 hn).1 (h3 ▸ k)
def powN (y : Nat) : Nat → Nat
  | 0 => 1
  | k + 1 => cm y (powN y k)
theorem powN_add (y a b : Nat) : powN y (a + b) = cm (powN y a) (powN y b) := by
  induction a with
  | zero => rw [Nat.zero_add, powN, cm_one_left]
  | succ a ih => rw [show a + 1 + b = (a + b) + 1 by omega, powN, powN, ih, cm_assoc]
theorem powN_sq (y k : Nat) : powN y (2 ^ k) = sqI k y := by
  induction k with
  | zero => simp [powN, sqI, cm_one_right]
  | succ k ih => rw [show 2 ^ (k + 1) = 2 ^ k + 2 ^ k by rw [Nat.pow_succ]; omega, powN_add, ih]; rfl
theorem ev1_zeros (y k : Nat) : ev1 (List.replicate k 0) y = powN y k := by
  induction k with
  | zero => rfl
  | succ k ih => rw [List.replicate_succ]; simp only [ev1, powN]; rw [ih, Nat.zero_xor]
/-- Not every one can be a root. -/
theorem not_all {p m : Nat} (h : Irr p) (hm : m + 1 < bl p - 1) : ¬ Cg p (2 ^ 2 ^ (m + 1)) 2 := by
  intro hc
  have hall := fun r => sqI_all hc r
  have h2 : 2 ≤ 2 ^ (m + 1) := by rw [Nat.pow_succ]; have := Nat.two_pow_pos m; omega
  have hev : ∀ r, Dv p (ev1 (0 :: 1 :: List.replicate (2 ^ (m + 1) - 2) 0) r) := fun r => by
    have e : ev1 (0 :: 1 :: List.replicate (2 ^ (m + 1) - 2) 0) r = sqI (m + 1) r ^^^ r := by
      have e1 : powN r (2 ^ (m + 1)) = cm r (cm r (powN r (2 ^ (m + 1) - 2))) := by
        conv => lhs; rw [show 2 ^ (m + 1) = (2 ^ (m + 1) - 2) + 1 + 1 by omega]
        rfl
      simp only [ev1]
      rw [ev1_zeros, Nat.zero_xor, cm_xor_right, cm_one_right, ← e1, powN_sq, Nat.xor_comm]
    rw [e]
    exact hall r
  have hlen := roots_le h (2 ^ (m + 1)) (0 :: 1 :: List.replicate (2 ^ (m + 1) - 2) 0) (by simp; omega) (List.range (2 ^ (bl p - 1))) List.nodup_range
    (fun r hr => by
      have h1 := bl_le.2 (List.mem_range.1 hr)
      have h3 := h.1
      omega)
    (fun r _ => hev r)
  rw [List.length_range] at hlen
  have := Nat.pow_lt_pow_right (show 1 < 2 by decide) hm
  omega
theorem irr_test {p : Nat} (h : Irr p) (h32 : bl p ≤ 32) : primeN p = true := by
  rw [primeN_iff]
  refine ⟨⟨h.1, h32⟩, fun i hi => Nat.le_of_not_lt fun hlt => ?_⟩
  obtain ⟨h1, h2⟩ := gc_dv _ p (md (2 ^ 2 ^ (i + 1)) p ^^^ md 2 p) (Nat.le_refl _)
  have he := h.eq_of_dv h1 hlt
  rw [he, ← md_xor] at h2
  have h3 : Dv p (2 ^ 2 ^ (i + 1) ^^^ 2) := h2.of_md (Dv.refl p)
  exact not_all h (m := i) (by omega) h3
/-- What the reference tries. -/
theorem irr_tried {p : Nat} (h1 : 2 ≤ bl p) : Irr p ↔ ∀ d, 2 ≤ d → bl d ≤ (bl p - 1) / 2 + 1 → md p d ≠ 0 := by
  have hp : p ≠ 0 := bl_pos.1 (by omega)
  have two : ∀ d, 2 ≤ bl d ↔ 2 ≤ d := fun d => by have := @bl_lt d 1; omega
  constructor
  · intro h d hd hb hm
    have hdv := (dv_iff (by omega)).2 hm
    have := h.2 d hdv ((two d).2 hd)
    omega
  · intro hall
    refine ⟨h1, fun d hd hd2 => Nat.le_of_not_lt fun hlt => ?_⟩
    have hdd := hd
    obtain ⟨q, hq⟩ := hd
    have hq0 : q ≠ 0 := by intro e; rw [e, cm_zero_left] at hq; exact hp hq
    have hd0 : d ≠ 0 := bl_pos.1 (by omega)
    have hb := bl_cm hq0 hd0
    rw [← hq] at hb
    by_cases hs : bl d - 1 ≤ (bl p - 1) / 2
    · exact hall d ((two d).1 hd2) (by omega) ((dv_iff hd0).1 hdd)
    · exact hall q ((two q).1 (by omega)) (by omega) ((dv_iff hq0).1 ⟨d, by rw [cm_comm]; exact hq⟩)
theorem primeN_tried {p : Nat} (h1 : 2 ≤ bl p) (h2 : bl p ≤ 32) : primeN p = true ↔ ∀ d, 2 ≤ d → bl d ≤ (bl p - 1) / 2 + 1 → md p d ≠ 0 := by
  rw [← irr_tried h1]
  exact ⟨test_irr, fun h => irr_test h h2⟩
end Go.Proofs.Ytmohjgcnhibkoaa
