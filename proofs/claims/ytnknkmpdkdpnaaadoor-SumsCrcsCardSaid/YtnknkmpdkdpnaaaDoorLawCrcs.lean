/- The walk of the law SumsCrcs. -/
import Derived.Test.YtnknkmpdkdpnaaaDoorSumsQ
namespace Go.Proofs.YtnknkmpdkdpnaaaDoor
open Go.RowKit
set_option linter.unusedVariables false

set_option maxHeartbeats 2000000 in
theorem crcs_walk (w : World) (hN : Nib w) (A : Option Addr) (c : Nat) (ls : List (List UInt8)) (h : RBB w A ls) (hc : ls.length ≤ c) (hn : ls.length ≤ 5864062014640) (hl : ∀ i, i < ls.length → (ls.getD i []).length ≤ 140737488351232) :
    Calls Tryd.prog 12 #[.slice A ls.length c] w fun e w' => e = .returned (.bool true) ∧ Below w.heap.size w w' := by
  have H := Lib.hid h
  have HN := Lib.hid hN
  have HL := Lib.hid hl
  clear h hN hl
  cases hb : lightB ls with
  | false =>
    have HLB := Lib.hid hb
    clear hb
    go_enter Tryd.func12, Tryd.ntmps12
    go_wp2_with fail
    refine (light_calls _ _ ls _ H.out (by omega) HL.out).mono ?_
    rintro e w1 ⟨rfl, rfl⟩
    rw [HLB.out]
    go_wp2_with fail
    refine (awake_calls _ HN.out).mono ?_
    rintro e w2 ⟨rfl, hb⟩
    have HB := Lib.hid hb
    clear hb
    go_wp2
    go_ret
    exact ⟨rfl, HB.out⟩
  | true =>
    have h3 : (catTo ls ls.length).length ≤ 65536 := by have := light_cat hb ls.length (Nat.le_refl _); have := (light_len hb).2; omega
    have H3 := Lib.hid h3
    have HLB := Lib.hid hb
    have EQ := Lib.hid (crc_cat ls)
    have EQ1 := Lib.hid (crc_one (catTo ls ls.length))
    clear hb h3
    go_enter Tryd.func12, Tryd.ntmps12
    go_wp2_with fail
    refine (light_calls _ _ ls _ H.out (by omega) HL.out).mono ?_
    rintro e w1 ⟨rfl, rfl⟩
    rw [HLB.out]
    go_wp2_with fail
    refine (concat_calls _ _ ls _ H.out (by omega) (Nat.le_trans H3.out (by decide))).mono ?_
    rintro e w1 ⟨v, rfl, ho, hb1⟩
    obtain ⟨A1, c1, rfl, hr1, hc1, _⟩ := ho.form
    have HB1 := Lib.hid hb1
    have HR1 := Lib.hid hr1
    have HC1 := Lib.hid hc1
    clear hb1 hr1 ho hc1
    go_wp2_with fail
    refine (crc_calls _ _ ls _ (HN.out.ext HB1.out) (H.out.ext HB1.out) (by omega) HL.out).mono ?_
    rintro e w2 ⟨rfl, rfl⟩
    go_wp2_with fail
    refine (rcrc_calls _ _ _ _ HR1.out (Nat.le_trans H3.out (by decide))).mono ?_
    rintro e w2 ⟨rfl, rfl⟩
    rw [EQ.out]
    go_wp2_with fail
    refine (crc_calls _ _ [catTo ls ls.length] _ ((HN.out.ext HB1.out).ext (ext_alloc _ _)) (RBB.one A1 c1 _ _ HR1.out rfl HC1.out _) (by simp) (by have := H3.out; simp; omega)).mono ?_
    rintro e w2 ⟨rfl, rfl⟩
    go_wp2_with fail
    refine (crc_calls _ _ ls _ ((HN.out.ext HB1.out).ext (ext_alloc _ _)) ((H.out.ext HB1.out).ext (ext_alloc _ _)) (by omega) HL.out).mono ?_
    rintro e w2 ⟨rfl, rfl⟩
    rw [EQ1.out, EQ.out]
    go_wp2_with fail
    refine (awake_calls _ ((HN.out.ext HB1.out).ext (ext_alloc _ _))).mono ?_
    rintro e w3 ⟨rfl, hb⟩
    have HB := Lib.hid hb
    clear hb
    go_wp2
    go_ret
    exact ⟨rfl, ext_trans (ext_trans HB1.out (ext_alloc _ _)) HB.out⟩
end Go.Proofs.YtnknkmpdkdpnaaaDoor
