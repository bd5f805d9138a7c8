/- slices.Equal of bytes. -/
import Derived.Test.YtchbnablefoemaaDoorInfoB
import Derived.Deep.QuietTactic
import Derived.BigQuiet
namespace Go.Proofs.YtchbnablefoemaaDoor
open Go.RowKit
set_option linter.unusedVariables false

/-- As far as k both are the same. -/
theorem beq_of_take {l m : List UInt8} (hl : l.length = m.length) (h : l.take l.length = m.take l.length) : (l == m) = true := by
  rw [List.take_length, hl, List.take_length] at h
  simp [h]
theorem take_gb_succ {l m : List UInt8} {k : Nat} (hl : k < l.length) (hm : k < m.length) (h : l.take k = m.take k) (hg : gb l k = gb m k) : l.take (k + 1) = m.take (k + 1) := by
  rw [List.take_succ_eq_append_getElem hl, List.take_succ_eq_append_getElem hm, h]
  congr 2
  simp only [gb, List.getD_eq_getElem?_getD, List.getElem?_eq_getElem hl, List.getElem?_eq_getElem hm, Option.getD_some] at hg
  exact UInt8.toNat_inj.1 hg
theorem ne_of_gb {l m : List UInt8} {k : Nat} (hg : gb l k ≠ gb m k) : (l == m) = false := by
  cases h : (l == m) with
  | false => rfl
  | true => exact absurd (by rw [eq_of_beq h]) hg

set_option maxHeartbeats 1000000 in
theorem sliceEq_calls (A B : Option Addr) (c d : Nat) (l m : List UInt8) (w : World) (h : RB w A l) (k : RB w B m) (hl : l.length ≤ 140737488355328) (hm : m.length ≤ 140737488355328) :
    Calls Tryd.prog 17 #[.slice A l.length c, .slice B m.length d] w fun e w' => e = .returned (.bool (l == m)) ∧ ∃ n, w' = w.drewN n := by
  have H := Lib.hid h
  have K := Lib.hid k
  clear h k
  by_cases he : l.length = m.length
  · have d1 : ((l.length : Int) != (m.length : Int)) = false := by rw [bne_eq_false_iff_eq]; omega
    have HE := Lib.hid he
    clear he
    go_enter Tryd.func17, Tryd.ntmps17
    go_wp2_with fail
    go_loopw [13] (fun i wr => ∃ j : Nat, j ≤ l.length ∧ i = .int .i64 j ∧ Hid (l.take j = m.take j) ∧ Hid (∃ n, wr = w.drewN n)) (fun i _ => l.length - (intOf i).toNat)
    case atStart => exact ⟨0, Nat.zero_le _, rfl, Lib.hid rfl, Lib.hid ⟨0, rfl⟩⟩
    case round =>
      obtain ⟨j, hj, rfl, HT, HW⟩ := hrel
      by_cases h1 : j < l.length
      · obtain ⟨n, hn⟩ := HW.out
        obtain ⟨b1, o1, rfl, c1⟩ := H.out j h1
        obtain ⟨b2, o2, rfl, c2⟩ := K.out j (by have := HE.out; omega)
        subst hn
        have hj0 : (0 : Int) ≤ j := by omega
        have hj1 : (j : Int) < l.length := by omega
        have hj2 : (j : Int) < m.length := by have := HE.out; omega
        have g1 := gb_lt l j
        have g2 := gb_lt m j
        by_cases hg : gb l j = gb m j
        · have hT2 := take_gb_succ h1 (by have := HE.out; omega) HT.out hg
          have HT2 := Lib.hid hT2
          rw [← hg] at c2
          generalize gb l j = x at *
          clear hT2 hg HT
          go_wp2_with fail
          go_quiet (fail)
          go_wp2
          exact ⟨⟨j + 1, by omega, by go_num, HT2, Lib.hid ⟨_, rfl⟩⟩, by simp [intOf]; omega⟩
        · have hne := ne_of_gb hg
          have d2 : ((gb l j : Int) != (gb m j : Int)) = true := by rw [bne_iff_ne]; omega
          have HNE := Lib.hid hne
          generalize gb l j = x at *
          generalize gb m j = y at *
          clear hne hg HT
          go_wp2_with fail
          go_quiet (fail)
          go_wp2
          go_ret
          refine ⟨by rw [HNE.out]; rfl, ?_⟩
          exact ⟨_, World.drewN_drewN _ _ _⟩
      · obtain rfl : j = l.length := by omega
        have hbe := beq_of_take HE.out HT.out
        have HBE := Lib.hid hbe
        clear hbe
        go_wp2
        go_ret
        exact ⟨by rw [HBE.out]; rfl, HW.out⟩
  · have d1 : ((l.length : Int) != (m.length : Int)) = true := by rw [bne_iff_ne]; omega
    have hne : (l == m) = false := by
      cases h : (l == m) with
      | false => rfl
      | true => exact absurd (by rw [eq_of_beq h]) he
    have HNE := Lib.hid hne
    clear he hne
    go_enter Tryd.func17, Tryd.ntmps17
    go_wp2
    go_ret
    exact ⟨by rw [HNE.out]; rfl, 0, rfl⟩
end Go.Proofs.YtchbnablefoemaaDoor
