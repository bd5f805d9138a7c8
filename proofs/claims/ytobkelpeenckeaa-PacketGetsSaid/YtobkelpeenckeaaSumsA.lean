/- The walks of sums: fold, words, Inet, Valid, Update. -/
import Derived.Test.YtobkelpeenckeaaProg
import Derived.Test.YtobkelpeenckeaaBase
namespace Go.Proofs.Ytobkelpeenckeaa
open Go.RowKit

/-- folding of carries -/
def foldN (n : Nat) : Nat := if n = 0 then 0 else (n - 1) % 65535 + 1
theorem foldN_small (n : Nat) (h : n ≤ 65535) : foldN n = n := by unfold foldN; split <;> omega
theorem foldN_step (n : Nat) (h : 65535 < n) : foldN (n / 65536 + n % 65536) = foldN n := by unfold foldN; split <;> split <;> omega
theorem foldN_le (n : Nat) : foldN n ≤ 65535 := by unfold foldN; split <;> omega
theorem and_ffff (n : Nat) (h : n < 18446744073709551616) : bits .and .u64 (n : Int) 65535 = ((n % 65536 : Nat) : Int) := by
  rw [show (65535 : Int) = ((65535 : Nat) : Int) from rfl, and_u64 _ _ h (by decide)]
  congr 1
  exact Nat.and_two_pow_sub_one_eq_mod n 16

set_option maxHeartbeats 400000 in
theorem fold_calls (x : Int) (h0 : 0 ≤ x) (hn : x ≤ 18446744073709551615) (w : World) :
    Calls Try.prog 49 #[.int .u64 x] w fun e w' => e = .returned (.int .u16 (foldN x.toNat : Nat)) ∧ w = w' := by
  obtain ⟨n, rfl⟩ := Int.eq_ofNat_of_zero_le h0
  rw [Int.toNat_natCast]
  go_enter Try.func49, Try.ntmps49
  go_wp2
  go_loop [0] (fun v => ∃ m : Nat, v = .int .u64 m ∧ Hid (foldN m = foldN n) ∧ m ≤ 18446744073709551615) (fun v => (intOf v).toNat)
  case atStart => exact ⟨n, rfl, rfl, by omega⟩
  case round =>
    obtain ⟨m, rfl, hm, hb⟩ := hrel
    have ha := and_ffff m (by omega)
    by_cases hlt : 65535 < m
    · go_wp2
      go_round
      case rel => exact ⟨m / 65536 + m % 65536, by go_num, (foldN_step m hlt).trans hm.out, by omega⟩
      case measure => simp [intOf]; omega
    · go_wp2
      go_ret
      exact ⟨ret_int (by rw [← hm.out, foldN_small m (by omega)]), rfl⟩

/-- What k bytes add as words. -/
def wordsTo (l : List UInt8) : Nat → Nat
  | 0 => 0
  | k + 1 => wordsTo l k + (if k % 2 = 0 then gb l k * 256 else gb l k)
theorem wordsTo_le (l : List UInt8) (k : Nat) : wordsTo l k ≤ 65280 * k := by
  induction k with
  | zero => simp [wordsTo]
  | succ k ih => have := gb_lt l k; simp only [wordsTo]; split <;> omega
theorem and_one_i64 (k : Nat) (h : k < 9223372036854775808) : bits .and .i64 (k : Int) 1 = ((k % 2 : Nat) : Int) := by
  rw [show (1 : Int) = ((1 : Nat) : Int) from rfl, and_i64 _ _ h (by decide)]
  congr 1
  exact Nat.and_two_pow_sub_one_eq_mod k 1

set_option maxHeartbeats 400000 in
theorem words_calls (A : Option Addr) (c : Nat) (l : List UInt8) (w : World) (h : RB w A l) (hl : l.length ≤ 140737488351232) :
    Calls Try.prog 50 #[.slice A l.length c] w fun e w' => e = .returned (.int .u64 (wordsTo l l.length : Nat)) ∧ w = w' := by
  have H := Lib.hid h
  clear h
  go_enter Try.func50, Try.ntmps50
  go_wp2
  go_loop [3, 8] (fun v i => ∃ k : Nat, k ≤ l.length ∧ i = .int .i64 k ∧ v = .int .u64 (wordsTo l k : Nat)) (fun _ i => l.length - (intOf i).toNat)
  case atStart => exact ⟨0, Nat.zero_le _, rfl, rfl⟩
  case round =>
    obtain ⟨k, hk, rfl, rfl⟩ := hrel
    have hb := wordsTo_le l k
    have hg := gb_lt l k
    by_cases hlt : k < l.length
    · obtain ⟨b, o, rfl, hc⟩ := H.out k hlt
      have ha := and_one_i64 k (by omega)
      have hs : Hid (wordsTo l (k + 1) = wordsTo l k + (if k % 2 = 0 then gb l k * 256 else gb l k)) := rfl
      by_cases h2 : k % 2 = 0
      · have h2' : (((k % 2 : Nat) : Int) == 0) = true := beq_iff_eq.2 (by omega)
        have h2'' := Lib.hid h2
        clear h2
        go_wp2
        go_round
        case rel => exact ⟨k + 1, by omega, by go_num, by rw [hs.out, if_pos h2''.out]; go_num⟩
        case measure => simp [intOf]; omega
      · have h2' : (((k % 2 : Nat) : Int) == 0) = false := beq_eq_false_iff_ne.2 (by omega)
        have h2'' := Lib.hid h2
        clear h2
        go_wp2
        go_round
        case rel => exact ⟨k + 1, by omega, by go_num, by rw [hs.out, if_neg h2''.out]; go_num⟩
        case measure => simp [intOf]; omega
    · obtain rfl : k = l.length := by omega
      go_wp2
      go_ret
      exact ⟨rfl, rfl⟩

/-- The sum of the parts' folded words. -/
def inetTo (ls : List (List UInt8)) : Nat → Nat
  | 0 => 0
  | k + 1 => inetTo ls k + foldN (wordsTo (ls.getD k []) (ls.getD k []).length)
theorem inetTo_le (ls : List (List UInt8)) (k : Nat) : inetTo ls k ≤ 65535 * k := by
  induction k with
  | zero => simp [inetTo]
  | succ k ih => have := foldN_le (wordsTo (ls.getD k []) (ls.getD k []).length); simp only [inetTo]; omega
def inetN (ls : List (List UInt8)) : Nat := 65535 - foldN (inetTo ls ls.length)

set_option maxHeartbeats 400000 in
theorem inet_calls (A : Option Addr) (c : Nat) (ls : List (List UInt8)) (w : World) (h : RBB w A ls) (hn : ls.length ≤ 140737488351232) (hl : ∀ i, i < ls.length → (ls.getD i []).length ≤ 140737488351232) :
    Calls Try.prog 36 #[.slice A ls.length c] w fun e w' => e = .returned (.int .u16 (inetN ls : Nat)) ∧ w = w' := by
  have H := Lib.hid h
  clear h
  have HL := Lib.hid hl
  clear hl
  go_enter Try.func36, Try.ntmps36
  go_wp2
  go_loop [3, 8] (fun v i => ∃ k : Nat, k ≤ ls.length ∧ i = .int .i64 k ∧ v = .int .u64 (inetTo ls k : Nat)) (fun _ i => ls.length - (intOf i).toNat)
  case atStart => exact ⟨0, Nat.zero_le _, rfl, rfl⟩
  case round =>
    obtain ⟨k, hk, rfl, rfl⟩ := hrel
    have hb := inetTo_le ls k
    have hf := foldN_le (wordsTo (ls.getD k []) (ls.getD k []).length)
    by_cases hlt : k < ls.length
    · obtain ⟨b, o, A', c', rfl, hc, hr, hl'⟩ := H.out k hlt
      have hlen := HL.out k hlt
      have hs : Hid (inetTo ls (k + 1) = inetTo ls k + foldN (wordsTo (ls.getD k []) (ls.getD k []).length)) := rfl
      have hw := wordsTo_le (ls.getD k []) (ls.getD k []).length
      generalize ls.getD k [] = p at *
      have HR := Lib.hid hr
      clear hr
      go_wp2_with (first
        | (go_at_call 50; refine (words_calls _ _ _ _ HR.out hlen).mono ?_; rintro e w' ⟨rfl, rfl⟩)
        | (go_at_call 49; refine (fold_calls _ (by omega) (by omega) _).mono ?_; rintro e w' ⟨rfl, rfl⟩; rw [Int.toNat_natCast]))
      go_round
      case rel => exact ⟨k + 1, by omega, by go_num, by rw [hs.out]; go_num⟩
      case measure => simp [intOf]; omega
    · obtain rfl : k = ls.length := by omega
      have hx := not_u16 (foldN (inetTo ls ls.length)) (by have := foldN_le (inetTo ls ls.length); omega)
      go_wp2_with (go_at_call 49; refine (fold_calls _ (by omega) (by omega) _).mono ?_; rintro e w' ⟨rfl, rfl⟩; rw [Int.toNat_natCast])
      go_ret
      exact ⟨rfl, rfl⟩

set_option maxHeartbeats 400000 in
theorem valid_calls (A : Option Addr) (c : Nat) (ls : List (List UInt8)) (w : World) (h : RBB w A ls) (hn : ls.length ≤ 140737488351232) (hl : ∀ i, i < ls.length → (ls.getD i []).length ≤ 140737488351232) :
    Calls Try.prog 39 #[.slice A ls.length c] w fun e w' => e = .returned (.bool (decide (inetN ls = 65535 ∨ inetN ls = 0))) ∧ w = w' := by
  have H := Lib.hid h
  clear h
  have HL := Lib.hid hl
  clear hl
  have hi : inetN ls ≤ 65535 := by unfold inetN; omega
  have hx := not_u16 (inetN ls) (by omega)
  go_enter Try.func39, Try.ntmps39
  by_cases h1 : inetN ls = 65535
  · have h1' : (((65535 - inetN ls : Nat) : Int) == 0) = true := beq_iff_eq.2 (by omega)
    have h1'' := Lib.hid h1
    clear h1
    go_wp2_with (go_at_call 36; refine (inet_calls _ _ _ _ H.out hn HL.out).mono ?_; rintro e w' ⟨rfl, rfl⟩)
    go_ret
    exact ⟨ret_bool (by simp [h1''.out]), rfl⟩
  · have h1' : (((65535 - inetN ls : Nat) : Int) == 0) = false := beq_eq_false_iff_ne.2 (by omega)
    by_cases h2 : inetN ls = 0
    · have h2' : (((65535 - inetN ls : Nat) : Int) == 65535) = true := beq_iff_eq.2 (by omega)
      have h2'' := Lib.hid h2
      clear h2
      go_wp2_with (go_at_call 36; refine (inet_calls _ _ _ _ H.out hn HL.out).mono ?_; rintro e w' ⟨rfl, rfl⟩)
      go_ret
      exact ⟨ret_bool (by simp [h2''.out]), rfl⟩
    · have h2' : (((65535 - inetN ls : Nat) : Int) == 65535) = false := beq_eq_false_iff_ne.2 (by omega)
      go_wp2_with (go_at_call 36; refine (inet_calls _ _ _ _ H.out hn HL.out).mono ?_; rintro e w' ⟨rfl, rfl⟩)
      go_ret
      exact ⟨ret_bool (by simp [h1, h2]), rfl⟩

def updN (s o n : Nat) : Nat := 65535 - foldN (65535 - s + (65535 - o) + n)
-- left out: flume/sums.Update
end Go.Proofs.Ytobkelpeenckeaa
