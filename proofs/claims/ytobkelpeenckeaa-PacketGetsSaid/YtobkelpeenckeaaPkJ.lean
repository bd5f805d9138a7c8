/- packet: the plain laws: the sum of a packet's bytes is valid; what was put is read back. -/
import Derived.Test.YtobkelpeenckeaaPkF
namespace Go.Proofs.Ytobkelpeenckeaa
open Go.RowKit
set_option linter.unusedVariables false
set_option linter.unusedSimpArgs false

theorem gb_right (a b : List UInt8) (k : Nat) : gb (a ++ b) (a.length + k) = gb b k := by
  unfold gb
  rw [List.getD_eq_getElem?_getD, List.getD_eq_getElem?_getD, List.getElem?_append_right (by omega)]
  congr 3
  omega
theorem gb_left (a b : List UInt8) {k : Nat} (h : k < a.length) : gb (a ++ b) k = gb a k := by
  unfold gb
  rw [List.getD_eq_getElem?_getD, List.getD_eq_getElem?_getD, List.getElem?_append_left h]
theorem wordsTo_congr (a b : List UInt8) : ∀ k, (∀ i, i < k → gb a i = gb b i) → wordsTo a k = wordsTo b k
  | 0, _ => rfl
  | k + 1, h => by rw [wordsTo, wordsTo, wordsTo_congr a b k (fun i hi => h i (by omega)), h k (by omega)]
theorem wordsTo_app (a b : List UInt8) (h : a.length % 2 = 0) : ∀ k, wordsTo (a ++ b) (a.length + k) = wordsTo a a.length + wordsTo b k
  | 0 => by rw [Nat.add_zero, wordsTo, Nat.add_zero]; exact wordsTo_congr _ _ _ fun i hi => gb_left _ _ hi
  | k + 1 => by
    rw [← Nat.add_assoc, wordsTo, wordsTo_app a b h k, gb_right, wordsTo, show (a.length + k) % 2 = k % 2 by omega]
    omega
/-- What all its bytes add as words. -/
def wAll (l : List UInt8) : Nat := wordsTo l l.length
theorem wAll_app (a b : List UInt8) (h : a.length % 2 = 0) : wAll (a ++ b) = wAll a + wAll b := by
  unfold wAll
  rw [List.length_append, wordsTo_app a b h]
theorem inetN_one (l : List UInt8) : inetN [l] = 65535 - foldN (wAll l) := by
  show 65535 - foldN (0 + foldN (wordsTo l l.length)) = _
  rw [Nat.zero_add, foldN_small _ (foldN_le _)]
  rfl
theorem wAll_be2 (s : Nat) (h : s < 65536) : wAll (be s 2) = s := by
  simp [wAll, wordsTo, be, gb]
  omega
theorem seal_ok (a t : List UInt8) (h : a.length % 2 = 0) : inetN [a ++ be (inetN [a ++ be 0 2 ++ t]) 2 ++ t] = 0 := by
  have e : ∀ s, s < 65536 → wAll (a ++ be s 2 ++ t) = wAll a + s + wAll t := fun s hs => by
    rw [wAll_app _ _ (by rw [List.length_append, be_length]; omega), wAll_app _ _ h, wAll_be2 s hs]
  obtain ⟨S, hS⟩ : ∃ S, inetN [a ++ be 0 2 ++ t] = S := ⟨_, rfl⟩
  have h0 := hS
  rw [inetN_one, e 0 (by omega)] at h0
  rw [hS, inetN_one, e S (by omega)]
  unfold foldN at h0 ⊢
  split <;> split at h0 <;> omega
/-- One byte of an even or odd place that is another one: the words add to another rest. -/
theorem front_len (s d sp dp seq ack fl wn : Nat) : (frontL s d sp dp seq ack fl wn).length = 18 := frontL_length _ _ _ _ _ _ _ _
theorem putL_sum (s d sp dp seq ack fl wn pr og : Nat) (data : List UInt8) : inetN [putL s d sp dp seq ack fl wn pr og data] = 0 := by
  unfold putL blankL
  exact seal_ok _ _ (by rw [front_len])
theorem putL_parts (s d sp dp seq ack fl wn pr og : Nat) (data : List UInt8) : ∃ a, a.length = 22 ∧ putL s d sp dp seq ack fl wn pr og data = a ++ (optL pr og ++ data) ∧
    gb a 1 = s % 256 ∧ gb a 2 = d % 256 ∧ gb a 3 = fl % 256 ∧ nb2 a 4 = sp % 65536 ∧ nb2 a 6 = dp % 65536 ∧ nb4 a 8 = seq % 4294967296 ∧ nb4 a 12 = ack % 4294967296 ∧ nb2 a 16 = wn % 65536 ∧ gb a 20 = (optL pr og).length := by
  obtain ⟨S, hS⟩ : ∃ S, inetN [blankL s d sp dp seq ack fl wn pr og data] = S := ⟨_, rfl⟩
  have hl := optL_length pr og
  have hl2 : (optL pr og).length ≤ 14 := by rw [hl]; split <;> split <;> omega
  obtain ⟨n, hn⟩ : ∃ n, (optL pr og).length = n := ⟨_, rfl⟩
  rw [hn] at hl2
  refine ⟨frontL s d sp dp seq ack fl wn ++ be S 2 ++ [UInt8.ofNat n, 0], ?_, ?_, ?_, ?_, ?_, ?_, ?_, ?_, ?_, ?_, ?_⟩
  · simp [front_len, be_length]
  · rw [putL, hS, tailL, hn]; simp [List.append_assoc]
  all_goals simp [frontL, be, gb, nb2, nb4, hn]
  all_goals omega
theorem gb_zero (x : UInt8) (r : List UInt8) : gb (x :: r) 0 = x.toNat := rfl
theorem isPr_optL (pr og : Nat) : isPr (optL pr og) = decide (0 < pr) := by
  unfold isPr
  rw [optL_length]
  unfold optL prL ogL
  by_cases h : 0 < pr
  · by_cases h2 : 0 < og <;> simp [h, h2, gb]
  · by_cases h2 : 0 < og <;> simp [h, h2, gb]
theorem afterPr_optL (pr og : Nat) : afterPr (optL pr og) = ogL og := by
  unfold afterPr
  rw [isPr_optL]
  unfold optL prL
  by_cases h : 0 < pr
  · simp [h, be]
  · simp [h]
theorem isOg_ogL (og : Nat) : isOg (ogL og) = decide (0 < og) := by
  unfold isOg ogL
  by_cases h : 0 < og <;> simp [h, gb, be]
theorem nb2_ogL (og : Nat) (h : 0 < og) (h2 : og < 65536) : nb2 (ogL og) 2 = og := by
  unfold ogL nb2
  simp [h, gb, be]
  omega
theorem prI_optL (pr og : Nat) (h : 0 < pr) (h2 : pr ≤ 1099511627776) : prI (optL pr og) = (pr : Int) := by
  have e1 : nb4 (optL pr og) 2 = pr / 4294967296 := by
    unfold optL prL nb4
    simp [h, gb, be]
    omega
  have e2 : nb4 (optL pr og) 6 = pr % 4294967296 := by
    unfold optL prL nb4
    simp [h, gb, be]
    omega
  rw [prI_small _ (by rw [e1]; omega), e1, e2, Nat.div_add_mod']
theorem getP_put (p : Pk) (hs : p.seq < 4294967296) (ha : p.ack < 4294967296) (hok : okP p = true) : getP (putP p) = (p, 0) := by
  obtain ⟨src, dst, sp, dp, seq, ack, fl, wn, pr, og, data⟩ := p
  have hok' := hok
  unfold okP okN at hok
  simp only [Bool.and_eq_true, decide_eq_true_eq] at hok
  obtain ⟨h1, h2, h3, h4, h5, h6, h7, h8, h9, h10⟩ := hok
  obtain ⟨s, rfl⟩ := Int.eq_ofNat_of_zero_le (show 0 ≤ src by omega)
  obtain ⟨d, rfl⟩ := Int.eq_ofNat_of_zero_le (show 0 ≤ dst by omega)
  obtain ⟨sp, rfl⟩ := Int.eq_ofNat_of_zero_le (show 0 ≤ sp by omega)
  obtain ⟨dp, rfl⟩ := Int.eq_ofNat_of_zero_le (show 0 ≤ dp by omega)
  obtain ⟨fl, rfl⟩ := Int.eq_ofNat_of_zero_le (show 0 ≤ fl by omega)
  obtain ⟨wn, rfl⟩ := Int.eq_ofNat_of_zero_le (show 0 ≤ wn by omega)
  obtain ⟨pr, rfl⟩ := Int.eq_ofNat_of_zero_le (show 0 ≤ pr by omega)
  obtain ⟨og, rfl⟩ := Int.eq_ofNat_of_zero_le (show 0 ≤ og by omega)
  dsimp only at hs ha h10
  have hput : putP ⟨(s : Int), d, sp, dp, seq, ack, fl, wn, pr, og, data⟩ = putL s d sp dp seq ack fl wn pr og data := by simp [putP]
  obtain ⟨a, hal, hp, g1, g2, g3, g4, g6, g8, g12, g16, g20⟩ := putL_parts s d sp dp seq ack fl wn pr og data
  have hsum := putL_sum s d sp dp seq ack fl wn pr og data
  rw [hput]
  obtain ⟨L, hL⟩ : ∃ L, putL s d sp dp seq ack fl wn pr og data = L := ⟨_, rfl⟩
  rw [hL] at hp hsum hput ⊢
  have hlen : L.length = 22 + ((optL pr og).length + data.length) := by rw [hp, List.length_append, List.length_append, hal]
  have left : ∀ i, i < 22 → gb L i = gb a i := fun i hi => by rw [hp]; exact gb_left _ _ (by omega)
  have n2 : ∀ i, i + 1 < 22 → nb2 L i = nb2 a i := fun i hi => by unfold nb2; rw [left _ (by omega), left _ (by omega)]
  have n4 : ∀ i, i + 3 < 22 → nb4 L i = nb4 a i := fun i hi => by unfold nb4; rw [left _ (by omega), left _ (by omega), left _ (by omega), left _ (by omega)]
  have e20 : gb L 20 = (optL pr og).length := by rw [left _ (by omega), g20]
  have hopt : List.drop 22 (List.take (22 + (optL pr og).length) L) = optL pr og := by
    rw [hp, ← hal, List.take_length_add_append, List.drop_left, List.take_left]
  have hdat : List.drop (22 + (optL pr og).length) L = data := by
    rw [hp, ← hal, List.drop_length_add_append, List.drop_left]
  have hcand : cand L (optL pr og) data = ⟨(s : Int), d, sp, dp, seq, ack, fl, wn, pr, og, data⟩ := by
    unfold cand
    rw [left 1 (by omega), left 2 (by omega), left 3 (by omega), n2 4 (by omega), n2 6 (by omega), n4 8 (by omega), n4 12 (by omega), n2 16 (by omega), g1, g2, g3, g4, g6, g8, g12, g16, isPr_optL, afterPr_optL, isOg_ogL]
    have q1 : (if decide (0 < pr) = true then prI (optL pr og) else 0) = (pr : Int) := by
      split
      · rename_i h
        exact prI_optL pr og (by simpa using h) (by omega)
      · rename_i h
        simp at h
        omega
    have q2 : (if decide (0 < og) = true then (nb2 (ogL og) 2 : Int) else 0) = (og : Int) := by
      split
      · rename_i h
        rw [nb2_ogL og (by simpa using h) (by omega)]
      · rename_i h
        simp at h
        omega
    rw [q1, q2]
    congr 1 <;> omega
  have hm := getP_main (l := L) e20 (by omega) (by omega) (.inr hsum) _ _ _ hopt hdat hcand
  exact hm.2.1 (by omega) hok' hput
end Go.Proofs.Ytobkelpeenckeaa
