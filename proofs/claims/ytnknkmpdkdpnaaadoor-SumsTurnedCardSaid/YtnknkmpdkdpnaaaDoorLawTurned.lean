/- The walk of the law SumsTurned. -/
import Derived.Test.YtnknkmpdkdpnaaaDoorSumsR
namespace Go.Proofs.YtnknkmpdkdpnaaaDoor
open Go.RowKit
set_option linter.unusedVariables false

set_option maxHeartbeats 4000000 in
theorem turned_walk (w : World) (hN : Nib w) (A : Option Addr) (c : Nat) (p : List UInt8) (h : RB w A p) (hc : p.length ≤ c) (hl : p.length ≤ 140737488351232)
    (at_ : Int) (ha0 : -9223372036854775808 ≤ at_) (ha1 : at_ ≤ 9223372036854775807) (x : Int) (hx0 : -9223372036854775808 ≤ x) (hx1 : x ≤ 9223372036854775807) :
    Calls Tryd.prog 9 #[.slice A p.length c, .int .i64 at_, .int .i64 x] w fun e w' => e = .returned (.bool true) ∧ Below w.heap.size w w' := by
  have H := Lib.hid h
  have HN := Lib.hid hN
  clear h hN
  by_cases hs : 65536 < p.length
  · go_enter Tryd.func9, Tryd.ntmps9
    go_wp2_with fail
    refine (awake_calls _ HN.out).mono ?_
    rintro e w2 ⟨rfl, hb⟩
    have HB := Lib.hid hb
    clear hb
    go_wp2
    go_ret
    exact ⟨rfl, HB.out⟩
  · have SL := Lib.hid (sealL_length p)
    go_enter Tryd.func9, Tryd.ntmps9
    go_wp2_with fail
    refine (seal_calls _ _ p _ HN.out H.out hc (by omega)).mono ?_
    rintro e w1 ⟨v1, rfl, ho, hb1⟩
    have HO := Lib.hid ho
    have HB1 := Lib.hid hb1
    obtain ⟨g1, c1, rfl, hg1, hg1', _⟩ := ho.block (by rw [SL.out]; omega)
    clear ho hb1
    obtain ⟨n, hn, _⟩ := u64_some at_
    obtain ⟨m, hm, _⟩ := u64_some x
    obtain ⟨j, hj, hj1⟩ : ∃ j : Nat, (n : Int).tmod ((p.length : Int) + 4) = j ∧ j < p.length + 4 := ⟨n % (p.length + 4), tmod_nat n (p.length + 4), Nat.mod_lt _ (by omega)⟩
    obtain ⟨v, hv, hv1⟩ : ∃ v : Nat, (m : Int).tmod 255 = v ∧ v < 255 := ⟨m % 255, tmod_nat m 255, Nat.mod_lt _ (by omega)⟩
    obtain ⟨t, ht, ht1⟩ : ∃ t : Nat, (n : Int).tmod 4 = t ∧ t < 4 := ⟨n % 4, tmod_nat n 4, Nat.mod_lt _ (by omega)⟩
    have TR := Lib.hid (turned_refused p j (v + 1) hj1 (by omega) (by omega))
    obtain ⟨hc1, hf1⟩ := HO.out.cell j (by rw [SL.out]; exact hj1)
    have hgl := gb_lt (sealL p) j
    have H8 : Hid (bits BinOp.xor IntKind.u8 (gb (sealL p) j : Int) (1 + (v : Int)) = (((UInt8.ofNat (gb (sealL p) j ^^^ (v + 1))).toNat : Nat) : Int)) := by
      show _ = _
      rw [show 1 + (v : Int) = ((v + 1 : Nat) : Int) by omega, xor_u8 _ _ (by omega) (by omega), ofNat_toNat8 _ (xor_lt8 (by omega) (by omega))]
    have hL := SL.out
    have SL' := Lib.hid hL
    generalize (sealL p).length = L at hL
    subst hL
    go_wp2_with fail
    have hl2 : ((sealL p).set j (UInt8.ofNat (gb (sealL p) j ^^^ (v + 1)))).length = p.length + 4 := by rw [List.length_set, SL'.out]
    have HO2 := Lib.hid (HO.out.set j (UInt8.ofNat (gb (sealL p) j ^^^ (v + 1))))
    have HB2 := Lib.hid (HB1.out.setCell (p := ⟨g1, j, none⟩) hg1 (.int .u8 ((UInt8.ofNat (gb (sealL p) j ^^^ (v + 1))).toNat : Int)))
    rw [H8.out]
    clear H8 hc1 hf1 hgl HO HB1
    generalize (sealL p).set j (UInt8.ofNat (gb (sealL p) j ^^^ (v + 1))) = l2 at *
    have HL2 := Lib.hid hl2
    clear hl2
    generalize w1.setCell ⟨g1, j, none⟩ (.int .u8 ((UInt8.ofNat (gb (sealL p) j ^^^ (v + 1))).toNat : Int)) = w2 at *
    obtain ⟨_, _, e2, hr2, hc2, _⟩ := HO2.out.form
    injection e2 with ea _ ec
    subst ea ec
    have HR2 := Lib.hid hr2
    rw [HL2.out] at hc2
    clear hr2
    have k := open_calls (some ⟨g1, 0, none⟩) c1 l2 w2 (HN.out.ext HB2.out) HR2.out (by rw [HL2.out]; omega) (by rw [HL2.out]; omega)
    rw [HL2.out] at k
    refine k.mono ?_
    rintro e w3 ⟨v3, rfl, _, hb3⟩
    rw [TR.out]
    have HB3 := Lib.hid (ext_trans HB2.out hb3)
    have HR3 := Lib.hid ((HR2.out.ext hb3).take t)
    have HL3 : Hid ((l2.take t).length = t) := by
      have : (l2.take t).length = t := by rw [List.length_take, HL2.out]; omega
      exact this
    clear k hb3
    go_wp2_with fail
    have k := open_calls (some ⟨g1, 0, none⟩) c1 (l2.take t) w3 (HN.out.ext HB3.out) HR3.out (by rw [HL3.out]; omega) (by rw [HL3.out]; omega)
    rw [HL3.out] at k
    refine k.mono ?_
    rintro e w4 ⟨v4, rfl, _, hb4⟩
    rw [openE_short _ (by rw [HL3.out]; exact ht1)]
    have HB4 := Lib.hid (ext_trans HB3.out hb4)
    clear k hb4
    go_wp2_with fail
    refine (awake_calls _ (HN.out.ext HB4.out)).mono ?_
    rintro e wz ⟨rfl, hbz⟩
    have HBz := Lib.hid (ext_trans HB4.out hbz)
    clear hbz
    go_wp2
    go_ret
    exact ⟨rfl, HBz.out⟩
end Go.Proofs.YtnknkmpdkdpnaaaDoor
