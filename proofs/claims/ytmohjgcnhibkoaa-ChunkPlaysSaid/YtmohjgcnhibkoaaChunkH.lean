/- flumelaw06.short: the walk. -/
import Derived.Test.YtmohjgcnhibkoaaRowDo
import Derived.Test.YtmohjgcnhibkoaaChunkG
namespace Go.Proofs.Ytmohjgcnhibkoaa
open Go.RowKit
set_option linter.unusedVariables false

/-- What the law counts of the calls' bytes. -/
def totD (l : List (Int × List UInt8)) : Nat → Nat
  | 0 => 0
  | k + 1 => totD l k + min (l.getD k (0, [])).2.length 8193
theorem totD_mono (l : List (Int × List UInt8)) (k d : Nat) : totD l k ≤ totD l (k + d) := by
  induction d with
  | zero => exact Nat.le_refl _
  | succ d ih => exact Nat.le_trans ih (by rw [← Nat.add_assoc]; simp only [totD]; omega)
theorem totD_each (l : List (Int × List UInt8)) (k m : Nat) (h : k < m) (hm : totD l m ≤ 8192) : (l.getD k (0, [])).2.length ≤ 8192 := by
  have h1 := totD_mono l (k + 1) (m - (k + 1))
  rw [show k + 1 + (m - (k + 1)) = m by omega] at h1
  simp only [totD] at h1
  omega
def shortN (l : List (Int × List UInt8)) : Bool := decide (l.length ≤ 100) && decide (totD l l.length ≤ 8192)

def ShortIs (l : List (Int × List UInt8)) (w : World) (e : Ending) (w' : World) : Prop := ∃ ok, e = .returned (.bool ok) ∧ (ok = true → l.length ≤ 100 ∧ totD l l.length ≤ 8192) ∧ w = w'
set_option maxRecDepth 100000 in
set_option maxHeartbeats 2000000 in
theorem short_calls (A : Option Addr) (c : Nat) (l : List (Int × List UInt8)) (w : World) (h : RDo w A l) (hc : l.length ≤ c) (hm : c ≤ maxLen) :
    Calls Try.prog 25 #[.slice A l.length c] w (ShortIs l w) := by
  have H := Lib.hid h
  have hmx : c ≤ 9223372036854775807 := by simp only [maxLen] at hm; omega
  clear h hm
  go_enter Try.func25, Try.ntmps25
  go_wp2_with fail
  go_loop [3, 4] (fun v3 v4 => ∃ k n : Nat, k ≤ l.length ∧ k ≤ 101 ∧ v4 = .int .i64 (k : Int) ∧ v3 = .int .i64 (n : Int) ∧ n ≤ 16385 ∧ Hid (totD l k = n)) (fun _ v4 => 102 - (intOf v4).toNat)
  case atStart => exact ⟨0, 0, Nat.zero_le _, by omega, rfl, rfl, by omega, Lib.hid rfl⟩
  case round =>
    obtain ⟨k, n, hk, hk1, rfl, rfl, hn, HT⟩ := hrel
    by_cases h1 : k < l.length
    · by_cases h2 : k ≤ 100
      · by_cases h3 : n ≤ 8192
        · obtain ⟨b, o, A', c', rfl, _, hcell, _, _, hcm, _⟩ := H.out k h1
          have hst : totD l (k + 1) = totD l k + min (l.getD k (0, [])).2.length 8193 := rfl
          obtain ⟨m, hm⟩ : ∃ m, (l.getD k (0, [])).2.length = m := ⟨_, rfl⟩
          rw [hm] at hcell hst
          rw [show o + (2 * k + 1) = o + k * 2 + 1 by omega] at hcell
          rw [HT.out] at hst
          have HST := Lib.hid hst
          clear hm hst
          by_cases h4 : m ≤ 8193
          · have HS2 : Hid (totD l (k + 1) = n + m) := Lib.hid (by rw [HST.out]; omega)
            go_wp2
            refine ⟨⟨k + 1, n + m, by omega, by omega, by go_num, ?_, by omega, HS2⟩, by simp [intOf]; omega⟩
            congr 1
            all_goals first | omega | (split <;> omega)
          · have HS2 : Hid (totD l (k + 1) = n + 8193) := Lib.hid (by rw [HST.out]; omega)
            go_wp2
            refine ⟨⟨k + 1, n + 8193, by omega, by omega, by go_num, ?_, by omega, HS2⟩, by simp [intOf]; omega⟩
            congr 1
            all_goals first | omega | (split <;> omega)
        · have d3 : decide ((n : Int) ≤ 8192) = false := by simp; omega
          go_wp2
          all_goals (go_ret; exact ⟨false, by first | rfl | (simp; omega), (fun h => by cases h), rfl⟩)
      · have d3 : decide ((l.length : Int) ≤ 100) = false := by simp; omega
        go_wp2
        all_goals (go_ret; exact ⟨false, by first | rfl | (simp; omega), (fun h => by cases h), rfl⟩)
    · obtain rfl : k = l.length := by omega
      by_cases h5 : l.length ≤ 100
      · by_cases h3 : n ≤ 8192
        · have HT2 : Hid (totD l l.length ≤ 8192) := Lib.hid (by rw [HT.out]; exact h3)
          go_wp2
          all_goals (go_ret; exact ⟨true, by first | rfl | (simp; omega), fun _ => ⟨h5, HT2.out⟩, rfl⟩)
        · go_wp2
          all_goals (go_ret; exact ⟨false, by first | rfl | (simp; omega), (fun h => by cases h), rfl⟩)
      · go_wp2
        all_goals (go_ret; exact ⟨false, by first | rfl | (simp; omega), (fun h => by cases h), rfl⟩)
end Go.Proofs.Ytmohjgcnhibkoaa
