/- The walk of the law SumsInets. -/
import Derived.Test.YtnknkmpdkdpnaaaDoorSumsQ
namespace Go.Proofs.YtnknkmpdkdpnaaaDoor
open Go.RowKit
set_option linter.unusedVariables false

set_option maxHeartbeats 2000000 in
theorem inets_walk (w : World) (hN : Nib w) (A : Option Addr) (c : Nat) (ls : List (List UInt8)) (h : RBB w A ls) (hc : ls.length ≤ c) (hn : ls.length ≤ 5864062014640) (hl : ∀ i, i < ls.length → (ls.getD i []).length ≤ 140737488351232) :
    Calls Tryd.prog 5 #[.slice A ls.length c] w fun e w' => e = .returned (.bool true) ∧ Below w.heap.size w w' := by
  have H := Lib.hid h
  have HN := Lib.hid hN
  have HL := Lib.hid hl
  clear h hN hl
  cases hb : lightB ls with
  | false =>
    have HLB := Lib.hid hb
    clear hb
    go_enter Tryd.func5, Tryd.ntmps5
    go_wp2_with fail
    refine (light_calls _ _ ls _ H.out (by omega) HL.out).mono ?_
    rintro e w1 ⟨rfl, rfl⟩
    rw [HLB.out]
    go_wp2_with fail
    refine (awake_calls _ HN.out).mono ?_
    rintro e w2 ⟨rfl, hb⟩
    have HB := Lib.hid hb
    clear hb
    go_wp2
    go_ret
    exact ⟨rfl, HB.out⟩
  | true =>
    have h1 := light_len hb
    have h2 : ∀ i, i < ls.length → (ls.getD i []).length ≤ 8796093022208 := fun i hi => Nat.le_trans (light_part hb i hi) (by decide)
    have h3 : (wordsTo2 ls ls.length).length ≤ 1000000000000 := by have := light_words hb ls.length (Nat.le_refl _); omega
    have H2 := Lib.hid h2
    have H3 := Lib.hid h3
    have HLB := Lib.hid hb
    have EQ := Lib.hid (inet_eq ls)
    have hle : inetN ls ≤ 65535 := by unfold inetN; omega
    clear hb h1 h2 h3
    go_enter Tryd.func5, Tryd.ntmps5
    go_wp2_with fail
    refine (light_calls _ _ ls _ H.out (by omega) HL.out).mono ?_
    rintro e w1 ⟨rfl, rfl⟩
    rw [HLB.out]
    go_wp2_with fail
    refine (inet_calls _ _ ls _ H.out (by omega) HL.out).mono ?_
    rintro e w1 ⟨rfl, rfl⟩
    go_wp2_with fail
    refine (rinet_calls _ _ ls _ H.out (by omega) H2.out H3.out).mono ?_
    rintro e w1 ⟨rfl, hb1⟩
    rw [← EQ.out]
    have HB1 := Lib.hid hb1
    clear hb1
    go_wp2_with fail
    refine (valid_calls _ _ ls _ (H.out.ext HB1.out) (by omega) HL.out).mono ?_
    rintro e w2 ⟨rfl, rfl⟩
    generalize inetN ls = n at *
    by_cases h0 : n = 0
    · subst h0
      go_wp2_with fail
      refine (awake_calls _ (HN.out.ext HB1.out)).mono ?_
      rintro e w3 ⟨rfl, hb⟩
      have HB := Lib.hid hb
      clear hb
      go_wp2
      go_ret
      exact ⟨rfl, ext_trans HB1.out HB.out⟩
    · by_cases h5 : n = 65535
      · subst h5
        go_wp2_with fail
        refine (awake_calls _ (HN.out.ext HB1.out)).mono ?_
        rintro e w3 ⟨rfl, hb⟩
        have HB := Lib.hid hb
        clear hb
        go_wp2
        go_ret
        exact ⟨rfl, ext_trans HB1.out HB.out⟩
      · have d1 : ((n : Int) == 0) = false := beq_eq_false_iff_ne.2 (by omega)
        have d2 : ((n : Int) == 65535) = false := beq_eq_false_iff_ne.2 (by omega)
        have d3 : decide (n = 65535 ∨ n = 0) = false := decide_eq_false (by omega)
        rw [d3]
        clear d3
        go_wp2_with fail
        refine (awake_calls _ (HN.out.ext HB1.out)).mono ?_
        rintro e w3 ⟨rfl, hb⟩
        have HB := Lib.hid hb
        clear hb
        go_wp2
        go_ret
        exact ⟨rfl, ext_trans HB1.out HB.out⟩
end Go.Proofs.YtnknkmpdkdpnaaaDoor
