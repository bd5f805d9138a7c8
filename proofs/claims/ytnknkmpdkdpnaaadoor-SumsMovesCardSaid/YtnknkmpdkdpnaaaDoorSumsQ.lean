/- The plain laws of the small sum, and what 'light' gives. No program in sight. -/
import Derived.Test.YtnknkmpdkdpnaaaDoorSumsP
namespace Go.Proofs.YtnknkmpdkdpnaaaDoor

theorem foldN_congr {a b : Nat} (h : a % 65535 = b % 65535) (h0 : a = 0 ↔ b = 0) : foldN a = foldN b := by
  unfold foldN
  by_cases ha : a = 0
  · rw [if_pos ha, if_pos (h0.1 ha)]
  · rw [if_neg ha, if_neg (fun k => ha (h0.2 k))]
    have : b ≠ 0 := fun k => ha (h0.2 k)
    omega
theorem foldN_mod (n : Nat) : foldN n % 65535 = n % 65535 := by unfold foldN; split <;> omega
theorem foldN_zero (n : Nat) : foldN n = 0 ↔ n = 0 := by unfold foldN; split <;> omega
theorem gb_out (l : List UInt8) (i : Nat) (h : l.length ≤ i) : gb l i = 0 := by
  simp [gb, List.getD_eq_getElem?_getD, List.getElem?_eq_none h]
theorem wordAt_eq (l : List UInt8) (k : Nat) : wordAt l k = 256 * gb l (2 * k) + gb l (2 * k + 1) := by
  unfold wordAt
  split
  · rfl
  · rename_i h
    rw [gb_out l (2 * k + 1) (by omega)]
theorem wordsTo_two (l : List UInt8) (k : Nat) : wordsTo l (2 * (k + 1)) = wordsTo l (2 * k) + 256 * gb l (2 * k) + gb l (2 * k + 1) := by
  rw [show 2 * (k + 1) = 2 * k + 1 + 1 by omega]
  have h1 : wordsTo l (2 * k + 1 + 1) = wordsTo l (2 * k + 1) + (if (2 * k + 1) % 2 = 0 then gb l (2 * k + 1) * 256 else gb l (2 * k + 1)) := rfl
  have h2 : wordsTo l (2 * k + 1) = wordsTo l (2 * k) + (if (2 * k) % 2 = 0 then gb l (2 * k) * 256 else gb l (2 * k)) := rfl
  rw [h1, h2, if_neg (by omega : ¬ (2 * k + 1) % 2 = 0), if_pos (by omega : (2 * k) % 2 = 0)]
  omega
theorem wordsTo_out (l : List UInt8) (d : Nat) : wordsTo l (l.length + d) = wordsTo l l.length := by
  induction d with
  | zero => rfl
  | succ d ih =>
    rw [← Nat.add_assoc]
    simp only [wordsTo]
    rw [gb_out l _ (by omega), ih]
    simp
theorem sum_append (l m : List Nat) : (l ++ m).sum = l.sum + m.sum := by simp
theorem wordsL_sum (l : List UInt8) (k : Nat) : (wordsL l k).sum = wordsTo l (2 * k) := by
  induction k with
  | zero => rfl
  | succ k ih => rw [wordsL_succ, sum_append, ih, wordsTo_two, wordAt_eq]; simp; omega
theorem wordsL_all (l : List UInt8) : (wordsL l ((l.length + 1) / 2)).sum = wordsTo l l.length := by
  rw [wordsL_sum]
  obtain ⟨d, hd⟩ : ∃ d, 2 * ((l.length + 1) / 2) = l.length + d := ⟨2 * ((l.length + 1) / 2) - l.length, by omega⟩
  rw [hd, wordsTo_out]
theorem addTo_sum (l : List Nat) (k : Nat) (h : k ≤ l.length) : addTo l k = (l.take k).sum := by
  induction k with
  | zero => rfl
  | succ k ih =>
    rw [List.take_succ_eq_append_getElem (by omega), sum_append, ← ih (by omega)]
    simp [addTo, List.getD_eq_getElem?_getD, List.getElem?_eq_getElem (show k < l.length by omega)]
theorem inet_mod (ls : List (List UInt8)) (k : Nat) : inetTo ls k % 65535 = (wordsTo2 ls k).sum % 65535 ∧ (inetTo ls k = 0 ↔ (wordsTo2 ls k).sum = 0) := by
  induction k with
  | zero => simp [inetTo, wordsTo2]
  | succ k ih =>
    have h1 := foldN_mod (wordsTo (ls.getD k []) (ls.getD k []).length)
    have h2 := foldN_zero (wordsTo (ls.getD k []) (ls.getD k []).length)
    simp only [inetTo, wordsTo2, sum_append, wordsL_all]
    omega
theorem inet_eq (ls : List (List UInt8)) : inetN ls = rinetN ls := by
  unfold inetN rinetN
  rw [addTo_sum _ _ (Nat.le_refl _), List.take_length, foldN_congr (inet_mod ls ls.length).1 (inet_mod ls ls.length).2]
theorem inet_one (l : List UInt8) : inetN [l] = 65535 - foldN (wordsTo l l.length) := by
  have h : inetTo [l] [l].length = 0 + foldN (wordsTo l l.length) := rfl
  unfold inetN
  rw [h, Nat.zero_add, foldN_small (foldN _) (foldN_le _)]
theorem inet_valid {l : List UInt8} : decide (inetN [l] = 65535 ∨ inetN [l] = 0) = true ↔ wordsTo l l.length % 65535 = 0 := by
  have h1 := foldN_mod (wordsTo l l.length)
  have h2 := foldN_zero (wordsTo l l.length)
  have h3 := foldN_le (wordsTo l l.length)
  rw [inet_one, decide_eq_true_eq]
  omega

/-! ### what light gives -/
theorem light_len {ls : List (List UInt8)} (h : lightB ls = true) : ls.length ≤ 1000 ∧ lightTo ls ls.length ≤ 65536 := of_decide_eq_true h
theorem light_step (ls : List (List UInt8)) (k : Nat) (h : k < ls.length) : lightTo ls (k + 1) ≤ lightTo ls ls.length := by
  by_cases h1 : k + 1 < ls.length
  · exact lightTo_mono ls (k + 1) h1
  · rw [show k + 1 = ls.length by omega]; exact Nat.le_refl _
theorem light_part {ls : List (List UInt8)} (h : lightB ls = true) (i : Nat) (hi : i < ls.length) : (ls.getD i []).length ≤ 65536 := by
  have h1 := (light_len h).2
  have h2 := light_step ls i hi
  simp only [lightTo] at h2
  omega
theorem light_cat {ls : List (List UInt8)} (h : lightB ls = true) (k : Nat) (hk : k ≤ ls.length) : (catTo ls k).length = lightTo ls k := by
  induction k with
  | zero => rfl
  | succ k ih =>
    have := light_part h k (by omega)
    simp only [catTo, lightTo, List.length_append, ih (by omega)]
    omega
theorem light_words {ls : List (List UInt8)} (h : lightB ls = true) (k : Nat) (hk : k ≤ ls.length) : (wordsTo2 ls k).length ≤ lightTo ls k + k := by
  induction k with
  | zero => simp [wordsTo2]
  | succ k ih =>
    have := light_part h k (by omega)
    have := ih (by omega)
    simp only [wordsTo2, lightTo, List.length_append, wordsL_length]
    omega

/-! ### a word that is another one -/
def wt (j : Nat) : Nat := if j % 2 = 0 then 256 else 1
theorem gb_set (l : List UInt8) (j : Nat) (x : UInt8) (i : Nat) : gb (l.set j x) i = if j = i ∧ j < l.length then x.toNat else gb l i := by
  unfold gb
  rw [List.getD_eq_getElem?_getD, List.getD_eq_getElem?_getD, List.getElem?_set]
  by_cases h : j = i
  · subst h
    by_cases h2 : j < l.length
    · simp [h2]
    · simp [h2]
  · simp [h]
theorem gb_set_ne (l : List UInt8) (j : Nat) (x : UInt8) (i : Nat) (h : j ≠ i) : gb (l.set j x) i = gb l i := by rw [gb_set, if_neg (fun k => h k.1)]
theorem gb_set_eq (l : List UInt8) (j : Nat) (x : UInt8) (h : j < l.length) : gb (l.set j x) j = x.toNat := by rw [gb_set, if_pos ⟨rfl, h⟩]
theorem wordsTo_set (l : List UInt8) (j : Nat) (x : UInt8) (h : j < l.length) (k : Nat) :
    wordsTo (l.set j x) k + (if j < k then gb l j * wt j else 0) = wordsTo l k + (if j < k then x.toNat * wt j else 0) := by
  induction k with
  | zero => rfl
  | succ k ih =>
    have e1 : wordsTo (l.set j x) (k + 1) = wordsTo (l.set j x) k + (if k % 2 = 0 then gb (l.set j x) k * 256 else gb (l.set j x) k) := rfl
    have e2 : wordsTo l (k + 1) = wordsTo l k + (if k % 2 = 0 then gb l k * 256 else gb l k) := rfl
    rw [e1, e2]
    by_cases hjk : j = k
    · subst hjk
      rw [if_neg (Nat.lt_irrefl j), if_neg (Nat.lt_irrefl j)] at ih
      rw [gb_set_eq l j x h, if_pos (Nat.lt_succ_self j), if_pos (Nat.lt_succ_self j)]
      unfold wt
      split <;> omega
    · rw [gb_set_ne l j x k hjk]
      by_cases hlt : j < k
      · rw [if_pos hlt, if_pos hlt] at ih
        rw [if_pos (Nat.lt_succ_of_lt hlt), if_pos (Nat.lt_succ_of_lt hlt)]
        omega
      · rw [if_neg hlt, if_neg hlt] at ih
        rw [if_neg (show ¬ j < k + 1 by omega), if_neg (show ¬ j < k + 1 by omega)]
        omega
/-- Word number i is another one: its two bytes. -/
def setWord (l : List UInt8) (i : Nat) (hi lo : UInt8) : List UInt8 := (l.set (2 * i) hi).set (2 * i + 1) lo
theorem setWord_length (l : List UInt8) (i : Nat) (hi lo : UInt8) : (setWord l i hi lo).length = l.length := by simp [setWord]
def word (l : List UInt8) (i : Nat) : Nat := gb l (2 * i) * 256 + gb l (2 * i + 1)
theorem wordsTo_setWord (l : List UInt8) (i : Nat) (hi lo : UInt8) (h : 2 * i + 1 < l.length) :
    wordsTo (setWord l i hi lo) (setWord l i hi lo).length + word l i = wordsTo l l.length + (hi.toNat * 256 + lo.toNat) := by
  have h1 := wordsTo_set l (2 * i) hi (by omega) l.length
  have h2 := wordsTo_set (l.set (2 * i) hi) (2 * i + 1) lo (by simpa using h) l.length
  rw [if_pos (by omega), if_pos (by omega)] at h1 h2
  rw [gb_set_ne _ _ _ _ (by omega)] at h2
  rw [setWord_length]
  unfold setWord word
  have e0 : wt (2 * i) = 256 := by unfold wt; rw [if_pos (by omega)]
  have e1 : wt (2 * i + 1) = 1 := by unfold wt; rw [if_neg (by omega)]
  rw [e0] at h1
  rw [e1] at h2
  omega
theorem word_setWord_eq (l : List UInt8) (i : Nat) (hi lo : UInt8) (h : 2 * i + 1 < l.length) : word (setWord l i hi lo) i = hi.toNat * 256 + lo.toNat := by
  unfold word setWord
  rw [gb_set_ne _ _ _ _ (by omega), gb_set_eq _ _ _ (by omega), gb_set_eq _ _ _ (by simpa using h)]
theorem word_setWord_ne (l : List UInt8) (i j : Nat) (hi lo : UInt8) (h : i ≠ j) : word (setWord l i hi lo) j = word l j := by
  unfold word setWord
  rw [gb_set_ne _ _ _ _ (by omega), gb_set_ne _ _ _ _ (by omega), gb_set_ne _ _ _ _ (by omega), gb_set_ne _ _ _ _ (by omega)]
theorem word_le (l : List UInt8) (i : Nat) : word l i ≤ 65535 := by
  have := gb_lt l (2 * i); have := gb_lt l (2 * i + 1)
  unfold word; omega
theorem words_ge (l : List UInt8) (i : Nat) (h : 2 * i + 1 < l.length) : word l i ≤ wordsTo l l.length := by
  have := wordsTo_setWord l i 0 0 h
  simp at this
  omega
end Go.Proofs.YtnknkmpdkdpnaaaDoor
