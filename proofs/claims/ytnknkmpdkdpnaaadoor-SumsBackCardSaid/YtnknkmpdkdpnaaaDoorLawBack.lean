/- The walk of the law SumsBack. -/
import Derived.Test.YtnknkmpdkdpnaaaDoorSumsQ
namespace Go.Proofs.YtnknkmpdkdpnaaaDoor
open Go.RowKit
set_option linter.unusedVariables false

set_option maxHeartbeats 4000000 in
theorem back_walk (w : World) (hN : Nib w) (A : Option Addr) (c : Nat) (p : List UInt8) (h : RB w A p) (hc : p.length ≤ c) (hl : p.length ≤ 140737488351232)
    (B : Option Addr) (d : Nat) (q : List UInt8) (h2 : RB w B q) (hd : q.length ≤ d) (hl2 : q.length ≤ 140737488351232) :
    Calls Tryd.prog 10 #[.slice A p.length c, .slice B q.length d] w fun e w' => e = .returned (.bool true) ∧ Below w.heap.size w w' := by
  have H := Lib.hid h
  have H2 := Lib.hid h2
  have HN := Lib.hid hN
  clear h h2 hN
  by_cases hs : 65536 < p.length ∨ 65536 < q.length
  · go_enter Tryd.func10, Tryd.ntmps10
    by_cases hs1 : 65536 < p.length
    all_goals
      go_wp2_with fail
      refine (awake_calls _ HN.out).mono ?_
      rintro e w2 ⟨rfl, hb⟩
      have HB := Lib.hid hb
      clear hb
      go_wp2
      go_ret
      exact ⟨rfl, HB.out⟩
  · have hs1 : ¬ 65536 < p.length := fun k => hs (.inl k)
    have hs2 : ¬ 65536 < q.length := fun k => hs (.inr k)
    clear hs
    have OS := Lib.hid (open_seal p)
    have SO := Lib.hid (seal_open q)
    have SL := Lib.hid (sealL_length p)
    go_enter Tryd.func10, Tryd.ntmps10
    go_wp2_with fail
    refine (seal_calls _ _ p _ HN.out H.out hc (by omega)).mono ?_
    rintro e w1 ⟨v1, rfl, ho, hb1⟩
    obtain ⟨A1, c1, rfl, hr1, hc1, _⟩ := ho.form
    have HB1 := Lib.hid hb1
    have HR1 := Lib.hid hr1
    have HC1 := Lib.hid hc1
    clear ho hb1 hr1 hc1
    go_wp2_with fail
    refine (open_calls _ _ (sealL p) _ (HN.out.ext HB1.out) HR1.out HC1.out (by rw [SL.out]; omega)).mono ?_
    rintro e w2 ⟨v2, rfl, ho, hb2⟩
    rw [OS.out.1]
    rw [OS.out.2] at ho
    obtain ⟨A2, c2, rfl, hr2, hc2, _⟩ := ho.form
    have HB2 := Lib.hid (ext_trans HB1.out hb2)
    have HR2 := Lib.hid hr2
    clear ho hb2 hr2 hc2
    go_wp2_with fail
    refine (open_calls _ _ q _ (HN.out.ext HB2.out) (H2.out.ext HB2.out) hd (by omega)).mono ?_
    rintro e w3 ⟨v3, rfl, ho, hb3⟩
    obtain ⟨A3, c3, rfl, hr3, hc3, _⟩ := ho.form
    have HR3 := Lib.hid hr3
    have HC3 := Lib.hid hc3
    have HR2' := Lib.hid (HR2.out.ext hb3)
    have HB3 := Lib.hid (ext_trans HB2.out hb3)
    clear ho hb3 hr3 hc3
    by_cases he : openE q = 0
    · have hle : (openL q).length ≤ q.length := by unfold openL; rw [if_pos he, List.length_take]; omega
      have SO1 := Lib.hid (SO.out he)
      rw [he]
      clear he
      go_wp2_with fail
      refine (equal_calls _ _ _ _ p p _ HR2'.out (H.out.ext HB3.out)).mono ?_
      rintro e w4 ⟨rfl, rfl⟩
      rw [beq_self_eq_true]
      generalize hq : openL q = o at *
      have HQ := Lib.hid hq
      clear hq
      go_wp2_with fail
      refine (seal_calls _ _ o _ (HN.out.ext HB3.out) HR3.out HC3.out (by omega)).mono ?_
      rintro e w4 ⟨v4, rfl, ho, hb4⟩
      rw [SO1.out] at ho
      obtain ⟨A4, c4, rfl, hr4, hc4, _⟩ := ho.form
      have HR4 := Lib.hid hr4
      have HB4 := Lib.hid (ext_trans HB3.out hb4)
      clear ho hb4 hr4 hc4
      go_wp2_with fail
      refine (equal_calls _ _ _ _ q q _ HR4.out (H2.out.ext HB4.out)).mono ?_
      rintro e w5 ⟨rfl, rfl⟩
      rw [beq_self_eq_true]
      go_wp2_with fail
      refine (awake_calls _ (HN.out.ext HB4.out)).mono ?_
      rintro e w5 ⟨rfl, hb⟩
      have HB := Lib.hid hb
      clear hb
      go_wp2
      go_ret
      exact ⟨rfl, ext_trans HB4.out HB.out⟩
    · have d1 : (((openE q : Nat) : Int) != 0) = true := by rw [bne_iff_ne]; omega
      have d2 : (((openE q : Nat) : Int) == 0) = false := beq_eq_false_iff_ne.2 (by omega)
      have e0 : (openL q).length = 0 := by unfold openL; rw [if_neg he]; rfl
      rw [e0]
      clear e0
      generalize openE q = z at *
      clear he
      go_wp2_with fail
      refine (equal_calls _ _ _ _ p p _ HR2'.out (H.out.ext HB3.out)).mono ?_
      rintro e w4 ⟨rfl, rfl⟩
      rw [beq_self_eq_true]
      go_wp2_with fail
      refine (awake_calls _ (HN.out.ext HB3.out)).mono ?_
      rintro e w5 ⟨rfl, hb⟩
      have HB := Lib.hid hb
      clear hb
      go_wp2
      go_ret
      exact ⟨rfl, ext_trans HB3.out HB.out⟩
end Go.Proofs.YtnknkmpdkdpnaaaDoor
