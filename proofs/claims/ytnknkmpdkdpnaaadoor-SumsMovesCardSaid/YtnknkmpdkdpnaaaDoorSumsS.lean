/- Plain laws: a part whose check sum stands in it. No program. -/
import Derived.Test.YtnknkmpdkdpnaaaDoorSumsR
namespace Go.Proofs.YtnknkmpdkdpnaaaDoor
open Go.RowKit

def hiB (n : Nat) : UInt8 := UInt8.ofNat (n / 256)
def loB (n : Nat) : UInt8 := UInt8.ofNat n
theorem hiB_toNat (n : Nat) (h : n ≤ 65535) : (hiB n).toNat = n / 256 := ofNat_toNat8 _ (by omega)
theorem loB_toNat (n : Nat) : (loB n).toNat = n % 256 := by unfold loB; simp
theorem hilo (n : Nat) (h : n ≤ 65535) : (hiB n).toNat * 256 + (loB n).toNat = n := by rw [hiB_toNat n h, loB_toNat]; omega
theorem inet_one_le (l : List UInt8) : inetN [l] ≤ 65535 := by rw [inet_one]; omega
theorem valid_one {l : List UInt8} (h : wordsTo l l.length % 65535 = 0) : decide (inetN [l] = 65535 ∨ inetN [l] = 0) = true := inet_valid.2 h
/-- The check sum in a word that was 0. -/
theorem holds_law (l : List UInt8) (i : Nat) (h : 2 * i + 1 < l.length) :
    decide (inetN [setWord (setWord l i 0 0) i (hiB (inetN [setWord l i 0 0])) (loB (inetN [setWord l i 0 0]))] = 65535 ∨ inetN [setWord (setWord l i 0 0) i (hiB (inetN [setWord l i 0 0])) (loB (inetN [setWord l i 0 0]))] = 0) = true := by
  apply valid_one
  have h1 := word_setWord_eq l i 0 0 h
  have hn := inet_one_le (setWord l i 0 0)
  have hv := inet_one (setWord l i 0 0)
  have hl := setWord_length l i 0 0
  generalize setWord l i 0 0 = l0 at *
  have h2 := wordsTo_setWord l0 i (hiB (inetN [l0])) (loB (inetN [l0])) (by omega)
  rw [hilo _ hn, h1] at h2
  have hf := foldN_mod (wordsTo l0 l0.length)
  have hg := foldN_le (wordsTo l0 l0.length)
  simp at h2
  omega
theorem updN_le (s o n : Nat) : updN s o n ≤ 65535 := by unfold updN; omega
theorem updN_mod (s o n : Nat) : (updN s o n + (65535 - s) + (65535 - o) + n) % 65535 = 0 := by
  have h1 := foldN_mod (65535 - s + (65535 - o) + n)
  have h2 := foldN_le (65535 - s + (65535 - o) + n)
  unfold updN
  omega
theorem follows_law (l : List UInt8) (i v : Nat) (hi : 0 < i) (h : 2 * i + 1 < l.length) (hv : v ≤ 65535) (n : Nat) (hn : n = updN (inetN [setWord l 0 0 0]) (word (setWord l 0 0 0) i) v) :
    decide (inetN [setWord (setWord (setWord l 0 0 0) i (hiB v) (loB v)) 0 (hiB n) (loB n)] = 65535 ∨ inetN [setWord (setWord (setWord l 0 0 0) i (hiB v) (loB v)) 0 (hiB n) (loB n)] = 0) = true := by
  apply valid_one
  have h1 := word_setWord_eq l 0 0 0 (by omega)
  have hn0 := inet_one_le (setWord l 0 0 0)
  have hn1 := inet_one (setWord l 0 0 0)
  have hl := setWord_length l 0 0 0
  generalize setWord l 0 0 0 = l0 at *
  have hw := word_le l0 i
  have hwn := updN_le (inetN [l0]) (word l0 i) v
  have hwm := updN_mod (inetN [l0]) (word l0 i) v
  rw [← hn] at hwn hwm
  have h2 := wordsTo_setWord l0 i (hiB v) (loB v) (by omega)
  rw [hilo _ hv] at h2
  have h3 := word_setWord_ne l0 i 0 (hiB v) (loB v) (by omega)
  have hl2 := setWord_length l0 i (hiB v) (loB v)
  generalize setWord l0 i (hiB v) (loB v) = l1 at *
  have h4 := wordsTo_setWord l1 0 (hiB n) (loB n) (by omega)
  rw [hilo _ hwn, h3, h1] at h4
  have hf := foldN_mod (wordsTo l0 l0.length)
  have hg := foldN_le (wordsTo l0 l0.length)
  simp at h4
  omega
/-- Two words change their places. -/
def swapW (l : List UInt8) (i j : Nat) : List UInt8 :=
  setWord (setWord l i (l.getD (2 * j) 0) (l.getD (2 * j + 1) 0)) j (l.getD (2 * i) 0) (l.getD (2 * i + 1) 0)
theorem swapW_length (l : List UInt8) (i j : Nat) : (swapW l i j).length = l.length := by simp [swapW, setWord_length]
theorem swapW_words (l : List UInt8) (i j : Nat) (hi : 2 * i + 1 < l.length) (hj : 2 * j + 1 < l.length) : wordsTo (swapW l i j) (swapW l i j).length = wordsTo l l.length := by
  have h1 := wordsTo_setWord l i (l.getD (2 * j) 0) (l.getD (2 * j + 1) 0) hi
  have h2 := wordsTo_setWord (setWord l i (l.getD (2 * j) 0) (l.getD (2 * j + 1) 0)) j (l.getD (2 * i) 0) (l.getD (2 * i + 1) 0) (by rw [setWord_length]; exact hj)
  have h3 : word (setWord l i (l.getD (2 * j) 0) (l.getD (2 * j + 1) 0)) j = word l j := by
    by_cases e : i = j
    · subst e
      rw [word_setWord_eq l i _ _ hi]
      rfl
    · exact word_setWord_ne l i j _ _ e
  rw [h3] at h2
  have e1 : word l i = (l.getD (2 * i) 0).toNat * 256 + (l.getD (2 * i + 1) 0).toNat := rfl
  have e2 : word l j = (l.getD (2 * j) 0).toNat * 256 + (l.getD (2 * j + 1) 0).toNat := rfl
  unfold swapW
  omega
theorem inet_words {l m : List UInt8} (h : wordsTo l l.length = wordsTo m m.length) : inetN [l] = inetN [m] := by rw [inet_one, inet_one, h]
end Go.Proofs.YtnknkmpdkdpnaaaDoor
