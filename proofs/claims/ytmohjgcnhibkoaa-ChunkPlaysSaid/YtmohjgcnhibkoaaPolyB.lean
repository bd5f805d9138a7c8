/- Polynomials over two numbers: primes. What the test says; no product of two lesser ones is nothing. No program. -/
import Derived.Test.YtmohjgcnhibkoaaPoly
namespace Go.Proofs.Ytmohjgcnhibkoaa
set_option linter.unusedVariables false

/-! ### multiples both ways -/
theorem bezout : ∀ (k a b : Nat), bl b ≤ k → ∃ u v, gc a b = cm u a ^^^ cm v b := by
  intro k
  induction k with
  | zero =>
    intro a b h
    have : b = 0 := bl_eq_zero.1 (by omega)
    subst this
    exact ⟨1, 0, by rw [gc_zero, cm_one_left, cm_zero_left, Nat.xor_zero]⟩
  | succ k ih =>
    intro a b h
    by_cases hb : b = 0
    · subst hb
      exact ⟨1, 0, by rw [gc_zero, cm_one_left, cm_zero_left, Nat.xor_zero]⟩
    · have hlt := md_lt a b hb
      obtain ⟨u, v, e⟩ := ih b (md a b) (by omega)
      obtain ⟨q, hq⟩ := md_cg a b hb
      refine ⟨v, u ^^^ cm v q, ?_⟩
      have e2 : md a b = a ^^^ cm q b := by rw [← hq, xor_cancel]
      rw [gc_step hb, e, e2, cm_xor_right, cm_xor_left, cm_assoc, xor_left_comm']
/-- f has no divisors but itself and 1. -/
def Irr (f : Nat) : Prop := 2 ≤ bl f ∧ ∀ d, Dv d f → 2 ≤ bl d → bl f ≤ bl d
theorem Irr.ne {f : Nat} (h : Irr f) : f ≠ 0 := bl_pos.1 (by have := h.1; omega)
theorem bl_one_iff {q : Nat} (h : bl q = 1) : q = 1 := by
  have h1 := bl_le.1 (Nat.le_of_eq h)
  have h2 : q ≠ 0 := bl_pos.1 (by omega)
  omega
theorem Irr.eq_of_dv {f d : Nat} (h : Irr f) (hd : Dv d f) (h2 : 2 ≤ bl d) : d = f := by
  have h3 := h.2 d hd h2
  obtain ⟨q, hq⟩ := hd
  have hf := h.ne
  have hq0 : q ≠ 0 := by intro e; rw [e, cm_zero_left] at hq; exact hf hq
  have hd0 : d ≠ 0 := bl_pos.1 (by omega)
  have hb := bl_cm hq0 hd0
  rw [← hq] at hb
  have := bl_pos.2 hq0
  have hq1 := bl_one_iff (show bl q = 1 by omega)
  rw [hq, hq1, cm_one_left]
/-- What it does not divide has an inverse. -/
theorem Irr.inv {f a : Nat} (h : Irr f) (ha : ¬ Dv f a) : ∃ y, Cg f (cm y a) 1 := by
  obtain ⟨h1, h2⟩ := gc_dv (bl f) a f (Nat.le_refl _)
  have hg0 : gc a f ≠ 0 := by
    intro e
    rw [e] at h2
    obtain ⟨q, hq⟩ := h2
    rw [cm_zero_right] at hq
    exact h.ne hq
  have hg : bl (gc a f) = 1 := by
    rcases Nat.lt_or_ge (bl (gc a f)) 2 with k | k
    · have := bl_pos.2 hg0; omega
    · exact absurd (h.eq_of_dv h2 k ▸ h1) ha
  obtain ⟨u, v, e⟩ := bezout (bl f) a f (Nat.le_refl _)
  rw [bl_one_iff hg] at e
  exact ⟨u, v, by rw [e, ← Nat.xor_assoc, Nat.xor_self, Nat.zero_xor]⟩
theorem dv_cg {f a : Nat} : Dv f a ↔ Cg f a 0 := by
  constructor
  · rintro ⟨q, hq⟩; exact ⟨q, by rw [Nat.xor_zero]; exact hq⟩
  · rintro ⟨q, hq⟩; exact ⟨q, by rw [Nat.xor_zero] at hq; exact hq⟩
theorem Dv.congr {f a b : Nat} (h : Cg f a b) (k : Dv f a) : Dv f b := dv_cg.2 (h.symm.trans (dv_cg.1 k))
/-- It divides a product only where it divides one of both. -/
theorem Irr.prod {f a b : Nat} (h : Irr f) (k : Dv f (cm a b)) (ha : ¬ Dv f a) : Dv f b := by
  obtain ⟨y, hy⟩ := h.inv ha
  have h1 : Cg f (cm (cm y a) b) (cm 1 b) := hy.mul (Cg.refl f b)
  rw [cm_one_left, cm_assoc] at h1
  exact Dv.congr h1 (k.cm y)

/-! ### the small theorem of Fermat -/
def prod (l : List Nat) : Nat := l.foldr cm 1
theorem prod_perm {l m : List Nat} (h : l.Perm m) : prod l = prod m := by
  induction h with
  | nil => rfl
  | cons x _ ih => simp only [prod, List.foldr_cons] at ih ⊢; rw [ih]
  | swap x y l => simp only [prod, List.foldr_cons]; rw [← cm_assoc, ← cm_assoc, cm_comm y x]
  | trans _ _ h1 h2 => exact h1.trans h2
theorem pow_cm_two (a k : Nat) : cm (2 ^ k) a = a * 2 ^ k := cm_pow_left k a
theorem prod_map (f : Nat) (hf : f ≠ 0) (l : List Nat) : Cg f (prod (l.map fun r => md (2 * r) f)) (prod l * 2 ^ l.length) := by
  induction l with
  | nil => exact Cg.refl _ _
  | cons r l ih =>
    have h1 : Cg f (md (2 * r) f) (2 * r) := (md_cg _ _ hf).symm
    have h2 := h1.mul ih
    simp only [prod, List.map_cons, List.foldr_cons, List.length_cons] at h2 ⊢
    have e : cm (2 * r) (l.foldr cm 1 * 2 ^ l.length) = cm r (l.foldr cm 1) * 2 ^ (l.length + 1) := by
      rw [cm_pow_right, cm_two_left, Nat.pow_succ, Nat.mul_comm 2 (cm _ _), Nat.mul_assoc, Nat.mul_comm 2]
    rw [← e]
    exact h2
theorem prod_unit {f : Nat} (h : Irr f) : ∀ l : List Nat, (∀ r ∈ l, ¬ Dv f r) → ¬ Dv f (prod l)
  | [], _ => by
    rintro ⟨q, hq⟩
    have hq0 : q ≠ 0 := by intro e; rw [e, cm_zero_left] at hq; exact absurd hq (by decide)
    have := bl_cm hq0 h.ne
    rw [← hq] at this
    have h1 := h.1
    have h2 := bl_pos.2 hq0
    have h3 : bl (prod []) = 1 := rfl
    omega
  | r :: l, hl => fun k => prod_unit h l (fun x hx => hl x (List.mem_cons_of_mem r hx)) (h.prod k (hl r List.mem_cons_self))
/-- A nodup list that a one-to-one map sends into itself is only put in another order. -/
theorem perm_of_inj {l : List Nat} (hn : l.Nodup) (g : Nat → Nat) (hm : ∀ x ∈ l, g x ∈ l) (hs : ∀ y ∈ l, ∃ x ∈ l, g x = y) (hi : ∀ x ∈ l, ∀ y ∈ l, g x = g y → x = y) : (l.map g).Perm l := by
  have hnm : (l.map g).Nodup := by
    rw [List.Nodup, List.pairwise_map]
    exact List.Pairwise.imp_of_mem (fun {a b} ha hb hne e => hne (hi a ha b hb e)) hn
  rw [List.perm_iff_count]
  intro a
  rw [hnm.count, hn.count]
  have : a ∈ l.map g ↔ a ∈ l := by
    rw [List.mem_map]
    constructor
    · rintro ⟨x, hx, rfl⟩; exact hm x hx
    · intro ha; obtain ⟨x, hx, e⟩ := hs a ha; exact ⟨x, hx, e⟩
  by_cases k : a ∈ l
  · rw [if_pos (this.2 k), if_pos k]
  · rw [if_neg (fun e => k (this.1 e)), if_neg k]
theorem small_dv {f r : Nat} (h : bl r < bl f) : Dv f r ↔ r = 0 := by
  constructor
  · intro k
    rcases Nat.eq_zero_or_pos r with e | e
    · exact e
    · have := dv_bl k (by omega); omega
  · rintro rfl; exact Dv.zero f
/-- X to the 2^i, by a prime of degree i: X. -/
theorem fermat {f : Nat} (h : Irr f) : Cg f (2 ^ 2 ^ (bl f - 1)) 2 := by
  have hf := h.ne
  by_cases h2 : Dv f 2
  · have e : f = 2 := by
      obtain ⟨q, hq⟩ := h2
      have hq0 : q ≠ 0 := by intro e; rw [e, cm_zero_left] at hq; exact absurd hq (by decide)
      have hb := bl_cm hq0 hf
      rw [← hq] at hb
      have h1 := h.1
      have := bl_pos.2 hq0
      have e2 : bl 2 = 2 := by decide
      have hq1 := bl_one_iff (show bl q = 1 by omega)
      rw [hq1, cm_one_left] at hq
      exact hq.symm
    subst e
    exact ⟨3, by decide⟩
  · obtain ⟨y, hy⟩ := h.inv h2
    have hy' : Cg f (2 * y) 1 := by
      have e : cm y 2 = 2 * y := by rw [cm_comm, show (2 : Nat) = 2 * 1 from rfl, cm_two_left, cm_one_left]
      rw [e] at hy; exact hy
    obtain ⟨n, hn⟩ : ∃ n, 2 ^ (bl f - 1) = n := ⟨_, rfl⟩
    have hn0 : 0 < n := by rw [← hn]; exact Nat.two_pow_pos _
    have hmem : ∀ r, bl r < bl f ↔ r < n := fun r => by
      rw [← hn, ← bl_le]
      have := h.1
      omega
    let l := (List.range (n - 1)).map (· + 1)
    have hml : ∀ r, r ∈ l ↔ r ≠ 0 ∧ r < n := fun r => by
      simp only [l, List.mem_map, List.mem_range]
      constructor
      · rintro ⟨a, ha, rfl⟩; omega
      · rintro ⟨h1, h2⟩; exact ⟨r - 1, by omega, by omega⟩
    have hll : l.length = n - 1 := by simp [l]
    have hln : l.Nodup := by
      simp only [l, List.Nodup, List.pairwise_map]
      exact List.Pairwise.imp (fun {a b} hne e => hne (by omega)) List.nodup_range
    have hnd : ∀ r ∈ l, ¬ Dv f r := fun r hr k => ((hml r).1 hr).1 ((small_dv ((hmem r).2 ((hml r).1 hr).2)).1 k)
    have hback : ∀ r, bl r < bl f → md (cm y (md (2 * r) f)) f = r := fun r hr => by
      refine md_unique hr ?_
      have h1 : Cg f (cm y (md (2 * r) f)) (cm y (2 * r)) := (md_cg _ _ hf).symm.cm y
      have e : cm y (2 * r) = cm (2 * y) r := by rw [cm_two_right, cm_two_left]
      rw [e] at h1
      have h3 := hy'.mul (Cg.refl f r)
      rw [cm_one_left] at h3
      exact h1.trans h3
    have hperm : (l.map fun r => md (2 * r) f).Perm l := by
      refine perm_of_inj hln _ ?_ ?_ ?_
      · intro x hx
        obtain ⟨x0, x1⟩ := (hml x).1 hx
        refine (hml _).2 ⟨?_, (hmem _).1 (md_lt _ _ hf)⟩
        intro e
        have := hback x ((hmem x).2 x1)
        rw [e, cm_zero_right, md_zero] at this
        exact x0 this.symm
      · intro z hz
        obtain ⟨z0, z1⟩ := (hml z).1 hz
        have hzb := (hmem z).2 z1
        have hfw : md (2 * md (cm y z) f) f = z := by
          refine md_unique hzb ?_
          have h1 : Cg f (2 * md (cm y z) f) (2 * cm y z) := (md_cg _ _ hf).symm.two
          have h3 := hy'.mul (Cg.refl f z)
          rw [cm_one_left, cm_two_left] at h3
          exact h1.trans h3
        refine ⟨md (cm y z) f, (hml _).2 ⟨?_, (hmem _).1 (md_lt _ _ hf)⟩, hfw⟩
        intro e
        rw [e, Nat.mul_zero, md_zero] at hfw
        exact z0 hfw.symm
      · intro a ha b hb e
        have h1 := hback a ((hmem a).2 ((hml a).1 ha).2)
        have h3 := hback b ((hmem b).2 ((hml b).1 hb).2)
        rw [← h1, ← h3, e]
    have hp := prod_map f hf l
    rw [prod_perm hperm, hll] at hp
    obtain ⟨z, hz⟩ := h.inv (prod_unit h l hnd)
    have h1 := hp.cm z
    have h3 : Cg f (cm z (prod l * 2 ^ (n - 1))) (2 ^ (n - 1)) := by
      rw [cm_pow_right]
      have := hz.pow (n - 1)
      rwa [Nat.one_mul] at this
    have h4 : Cg f 1 (2 ^ (n - 1)) := hz.symm.trans (h1.trans h3)
    have h5 := h4.two.symm
    rw [Nat.mul_one, show 2 * 2 ^ (n - 1) = 2 ^ n by rw [Nat.mul_comm, ← Nat.pow_succ]; congr 1; omega] at h5
    rw [hn]
    exact h5

/-! ### the test, one way: what it lets pass has no lesser divisors -/
theorem sq_pow (k : Nat) : cm (2 ^ k) (2 ^ k) = 2 ^ (2 * k) := by rw [cm_pow_left, ← Nat.pow_add]; congr 1; omega
/-- The test's i-th round looks at what X to the 2^i leaves. -/
theorem prLoop_iff (p : Nat) (hp : p ≠ 0) : ∀ (k j x : Nat), Cg p x (2 ^ 2 ^ j) →
    (prLoop p k x = true ↔ ∀ i, i < k → bl (gc p (md (2 ^ 2 ^ (j + i + 1)) p ^^^ md 2 p)) ≤ 1) := by
  intro k
  induction k with
  | zero => intro j x h; simp [prLoop]
  | succ k ih =>
    intro j x h
    have hx : Cg p (cm x x) (2 ^ 2 ^ (j + 1)) := by
      have := h.mul h
      rwa [sq_pow, show 2 * 2 ^ j = 2 ^ (j + 1) by rw [Nat.pow_succ]; omega] at this
    have e : md (cm x x) p = md (2 ^ 2 ^ (j + 1)) p := md_eq hx
    have ih' := ih (j + 1) (md (cm x x) p) ((md_cg _ _ hp).symm.trans hx)
    simp only [prLoop]
    by_cases hb : 1 < bl (gc p (md (cm x x) p ^^^ md 2 p))
    · rw [if_pos hb]
      simp only [Bool.false_eq_true, false_iff]
      intro hall
      have := hall 0 (by omega)
      rw [Nat.add_zero, ← e] at this
      omega
    · rw [if_neg hb, ih']
      constructor
      · intro hall i hi
        cases i with
        | zero => rw [Nat.add_zero, ← e]; omega
        | succ i =>
          have := hall i (by omega)
          rwa [show j + 1 + i + 1 = j + (i + 1) + 1 by omega] at this
      · intro hall i hi
        have := hall (i + 1) (by omega)
        rwa [show j + (i + 1) + 1 = j + 1 + i + 1 by omega] at this
theorem primeN_iff (p : Nat) : primeN p = true ↔ (2 ≤ bl p ∧ bl p ≤ 32) ∧ ∀ i, i < (bl p - 1) / 2 → bl (gc p (md (2 ^ 2 ^ (i + 1)) p ^^^ md 2 p)) ≤ 1 := by
  unfold primeN
  rw [Bool.and_eq_true, decide_eq_true_iff]
  constructor
  · rintro ⟨h1, h2⟩
    have hp : p ≠ 0 := bl_pos.1 (by omega)
    have := (prLoop_iff p hp ((bl p - 1) / 2) 0 (md 2 p) ((md_cg 2 p hp).symm)).1 h2
    exact ⟨h1, fun i hi => by have := this i hi; rwa [Nat.zero_add] at this⟩
  · rintro ⟨h1, h2⟩
    have hp : p ≠ 0 := bl_pos.1 (by omega)
    exact ⟨h1, (prLoop_iff p hp ((bl p - 1) / 2) 0 (md 2 p) ((md_cg 2 p hp).symm)).2 fun i hi => by rw [Nat.zero_add]; exact h2 i hi⟩
/-- Below any divisor there is one that has none. -/
theorem irr_below : ∀ (k d : Nat), bl d ≤ k → 2 ≤ bl d → ∃ f, Dv f d ∧ Irr f := by
  intro k
  induction k with
  | zero => intro d h h2; omega
  | succ k ih =>
    intro d h h2
    by_cases hi : Irr d
    · exact ⟨d, Dv.refl d, hi⟩
    · have : ∃ e, Dv e d ∧ 2 ≤ bl e ∧ bl e < bl d := Classical.byContradiction fun hno => hi ⟨h2, fun e he h3 => Nat.le_of_not_lt fun h4 => hno ⟨e, he, h3, h4⟩⟩
      obtain ⟨e, he, h3, h4⟩ := this
      obtain ⟨f, hf, hfi⟩ := ih e (by omega) h3
      exact ⟨f, hf.trans he, hfi⟩
theorem pow_up {f : Nat} {i : Nat} (h : Cg f (2 ^ 2 ^ i) 2) : Cg f (md (2 ^ 2 ^ i) f) 2 := by
  by_cases hf : f = 0
  · subst hf; rw [md_zero_right]; exact h
  · exact (md_cg _ _ hf).symm.trans h
theorem test_irr {p : Nat} (h : primeN p = true) : Irr p := by
  obtain ⟨⟨h1, h2⟩, h3⟩ := (primeN_iff p).1 h
  have hp : p ≠ 0 := bl_pos.1 (by omega)
  refine ⟨h1, fun d hd hd2 => Nat.le_of_not_lt fun hlt => ?_⟩
  -- one of d and what is left of p by it is of at most half the degree
  have : ∃ e, Dv e p ∧ 2 ≤ bl e ∧ bl e - 1 ≤ (bl p - 1) / 2 := by
    obtain ⟨q, hq⟩ := hd
    have hq0 : q ≠ 0 := by intro e; rw [e, cm_zero_left] at hq; exact hp hq
    have hd0 : d ≠ 0 := bl_pos.1 (by omega)
    have hb := bl_cm hq0 hd0
    rw [← hq] at hb
    by_cases hs : bl d - 1 ≤ (bl p - 1) / 2
    · exact ⟨d, ⟨q, hq⟩, hd2, hs⟩
    · exact ⟨q, ⟨d, by rw [cm_comm]; exact hq⟩, by omega, by omega⟩
  obtain ⟨e, he, he2, heh⟩ := this
  obtain ⟨f, hf, hfi⟩ := irr_below (bl e) e (Nat.le_refl _) he2
  have hfp := hf.trans he
  have hfe := dv_bl hf (bl_pos.1 (by omega))
  have hf1 := hfi.1
  obtain ⟨i, hi⟩ : ∃ i, bl f - 1 = i + 1 := ⟨bl f - 2, by omega⟩
  have h4 := h3 i (by omega)
  have hfer := fermat hfi
  rw [hi] at hfer
  have hdv : Dv f (2 ^ 2 ^ (i + 1) ^^^ 2) := hfer
  have h5 : Dv f (md (2 ^ 2 ^ (i + 1)) p ^^^ md 2 p) := by
    rw [← md_xor]
    exact hdv.md hfp
  have h6 := dv_gc _ p _ f (Nat.le_refl _) hfp h5
  have h7 : gc p (md (2 ^ 2 ^ (i + 1)) p ^^^ md 2 p) ≠ 0 := by
    intro e0
    have := (gc_dv _ p (md (2 ^ 2 ^ (i + 1)) p ^^^ md 2 p) (Nat.le_refl _)).1
    rw [e0] at this
    obtain ⟨q, hq⟩ := this
    rw [cm_zero_right] at hq
    exact hp hq
  have := dv_bl h6 h7
  omega
/-- By a prime polynomial no product of two lesser ones is nothing, unless one of both is. -/
theorem whole {a b p : Nat} (h : primeN p = true) (ha : bl a < bl p) (hb : bl b < bl p) : mulN a b p = 0 ↔ a = 0 ∨ b = 0 := by
  have hi := test_irr h
  obtain ⟨⟨h1, h2⟩, _⟩ := (primeN_iff p).1 h
  have hp := hi.ne
  have e : mulN a b p = md (cm a b) p := by
    unfold mulN
    rw [if_neg]
    rintro (e | e)
    · exact hp e
    · omega
  rw [e, ← dv_iff hp]
  constructor
  · intro k
    by_cases hz : Dv p a
    · exact .inl ((small_dv ha).1 hz)
    · exact .inr ((small_dv hb).1 (hi.prod k hz))
  · rintro (rfl | rfl)
    · exact Dv.zero p
    · rw [cm_zero_right]; exact Dv.zero p
end Go.Proofs.Ytmohjgcnhibkoaa
