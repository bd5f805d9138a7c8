/- The walks of flumeref04's Check, big and num. -/
import Derived.Test.YtobkelpeenckeaaPkC
namespace Go.Proofs.Ytobkelpeenckeaa
open Go.RowKit
set_option linter.unusedVariables false
set_option linter.unusedSimpArgs false

/-! ### num -/
def numL (l : List UInt8) : Nat → Int
  | 0 => 0
  | k + 1 => IntKind.i64.wrap (IntKind.i64.wrap (256 * numL l k) + (gb l k : Int))
theorem rnum_n (A : Option Addr) (c n : Nat) (l : List UInt8) (hn : l.length = n) (hm : n ≤ 100000) (w : World) (h : RB w A l) :
    Calls Try.prog 45 #[.slice A n c] w fun e w' => e = .returned (.int .i64 (numL l n)) ∧ w = w' := by
  have H := Lib.hid h
  have HN := Lib.hid hn
  clear h hn
  go_enter Try.func45, Try.ntmps45
  go_wp2
  go_loop [3, 8] (fun v i => ∃ k : Nat, k ≤ n ∧ i = .int .i64 k ∧ v = .int .i64 (numL l k)) (fun _ i => n - (intOf i).toNat)
  case atStart => exact ⟨0, Nat.zero_le _, rfl, rfl⟩
  case round =>
    obtain ⟨k, hk, rfl, rfl⟩ := hrel
    by_cases h1 : k < n
    · obtain ⟨b, o, rfl, hc⟩ := H.out k (by rw [HN.out]; exact h1)
      have hs : Hid (IntKind.i64.wrap (IntKind.i64.wrap (256 * numL l k) + (gb l k : Int)) = numL l (k + 1)) := Lib.hid rfl
      have hg := gb_lt l k
      generalize gb l k = x at *
      generalize numL l k = q at *
      go_wp2
      go_round
      case rel => exact ⟨k + 1, by omega, by go_num, by rw [← hs.out, IntWalk.i64_left, IntWalk.i64_left]⟩
      case measure => simp [intOf]; omega
    · obtain rfl : k = n := by omega
      go_wp2
      go_ret
      exact ⟨rfl, rfl⟩

/-! ### big -/
theorem be_succ (n k : Nat) : be n (k + 1) = [UInt8.ofNat (n / 256 ^ k)] ++ be n k := rfl
set_option maxHeartbeats 1000000 in
set_option maxRecDepth 100000 in
theorem big_n (n m : Nat) (hn : n < 9223372036854775808) (hm : m ≤ 8) (w : World) :
    Calls Try.prog 43 #[.int .i64 (n : Int), .int .i64 (m : Int)] w fun e w' => ∃ R d, e = .returned (.slice R m d) ∧ OwnB w.heap.size 5 w' (.slice R m d) (be n m) ∧ Below w.heap.size w w' := by
  go_enter Try.func43, Try.ntmps43
  go_wp2
  go_loopw [0, 5, 7] (fun x v i wr => ∃ k : Nat, k ≤ m ∧ i = .int .i64 k ∧ x = .int .i64 ((n / 256 ^ k : Nat) : Int) ∧ Hid (OwnB w.heap.size 5 wr v (be n k)) ∧ Hid (Below w.heap.size w wr)) (fun _ _ i _ => m - (intOf i).toNat)
  case atStart => exact ⟨0, Nat.zero_le _, rfl, by simp, Lib.hid (OwnB.nil _ _ _), Lib.hid (Below.refl _ _)⟩
  case round =>
    obtain ⟨k, hk, rfl, rfl, HO, HB⟩ := hrel
    by_cases h1 : k < m
    · obtain ⟨x, hx⟩ : ∃ x, n / 256 ^ k = x := ⟨_, rfl⟩
      have hx1 : x ≤ n := by rw [← hx]; exact Nat.div_le_self _ _
      have HX := Lib.hid hx
      rw [hx]
      have hs := HB.out.size
      have hOB := HO.out.form
      rw [be_length] at hOB
      obtain ⟨A1, c1, rfl, hr1, hc1, _⟩ := hOB
      have HR := Lib.hid hr1
      clear hr1 hx
      obtain ⟨y, hy, hy1⟩ : ∃ y : Nat, x % 256 = y ∧ y ≤ 255 := ⟨_, rfl, by omega⟩
      have e1 : (x : Int) % 256 = (y : Int) := by omega
      have hB1 := HB.out.alloc hs (.cells #[.int .u8 (y : Int)] 5)
      have hs1 : w.heap.size ≤ (wr.alloc (.cells #[.int .u8 (y : Int)] 5)).heap.size := hB1.size
      have HB1 := Lib.hid hB1
      have HBE : Hid ([UInt8.ofNat x] ++ be n k = be n (k + 1)) := Lib.hid (by rw [be_succ, HX.out])
      have HOW : Hid (OwnB w.heap.size 5 (wr.alloc (.cells #[.int .u8 (y : Int)] 5)) (.slice (some ⟨wr.heap.size, 0, none⟩) 1 1) [UInt8.ofNat x]) := Lib.hid (by
        have := OwnB.lit' w.heap.size 5 wr [UInt8.ofNat x] wr.heap.size 1 hs (by simp [maxLen]) rfl rfl
        rw [List.map_cons, List.map_nil, vb_ofNat, hy] at this
        exact this)
      have HR1 := Lib.hid (HR.out.ext (ext_alloc _ (.cells #[.int .u8 (y : Int)] 5)))
      clear hB1 hy hs
      go_wp2_with ((with_reducible refine (?_ : wpList _ _ _ (_ :: _) _ _)); at_builtin; refine wpList_appB rfl _ _ 23 rfl w.heap.size 5 Try.underlying23 infoB _ [UInt8.ofNat x] rfl HOW.out _ _ _ (be n k) rfl (be_length _ _) HR1.out (by simp [be_length]; omega) hs1 ?_)
      intro v2 w2 ho hg _
      have hx := HOW.out.below HB1.out hg hs1
      have ho : OwnB w.heap.size 5 w2 v2 (be n (k + 1)) := by rw [← HBE.out]; exact ho
      have HO2 := Lib.hid ho
      have HX2 := Lib.hid hx
      have HXX : Hid (n / 256 ^ (k + 1) = x / 256) := Lib.hid (by rw [Nat.pow_succ, ← Nat.div_div_eq_div_mul, HX.out])
      clear ho hx hg
      go_wp2
      go_roundw
      case rel => exact ⟨k + 1, by omega, by go_num, by rw [HXX.out]; go_num, HO2, HX2⟩
      case measure => simp [intOf]; omega
    · obtain rfl : k = m := by omega
      have hof := HO.out.form
      rw [be_length] at hof
      obtain ⟨R, d, hv, hr, hd, _⟩ := hof
      subst hv
      go_wp2
      go_ret
      exact ⟨R, d, rfl, HO.out, HB.out⟩
end Go.Proofs.Ytobkelpeenckeaa
