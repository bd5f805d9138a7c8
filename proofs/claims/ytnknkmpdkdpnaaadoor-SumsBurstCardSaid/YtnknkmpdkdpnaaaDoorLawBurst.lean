/- The walk of the law SumsBurst. -/
import Derived.Test.YtnknkmpdkdpnaaaDoorSumsR
import Derived.BigRegion
namespace Go.Proofs.YtnknkmpdkdpnaaaDoor
open Go.RowKit
set_option linter.unusedVariables false

theorem pow_mod8 : ∀ r, r < 8 → (2 : Int) ^ r % 256 = ((2 ^ r : Nat) : Int) := by decide

set_option maxHeartbeats 1000000 in
theorem burst_walk (w : World) (hN : Nib w) (A : Option Addr) (c : Nat) (p : List UInt8) (h : RB w A p) (hc : p.length ≤ c) (hl : p.length ≤ 140737488351232)
    (at_ : Int) (ha0 : -9223372036854775808 ≤ at_) (ha1 : at_ ≤ 9223372036854775807) (q : Nat) (hq : q ≤ 4294967295) :
    Calls Tryd.prog 11 #[.slice A p.length c, .int .i64 at_, .int .u32 (q : Int)] w fun e w' => e = .returned (.bool true) ∧ Below w.heap.size w w' := by
  have H := Lib.hid h
  have HN := Lib.hid hN
  clear h hN
  by_cases hs : 65536 < p.length ∨ q = 0
  · go_enter Tryd.func11, Tryd.ntmps11
    by_cases hs1 : 65536 < p.length
    rotate_left
    · obtain rfl : q = 0 := by omega
      go_wp2_with fail
      refine (awake_calls _ HN.out).mono ?_
      rintro e w2 ⟨rfl, hb⟩
      have HB := Lib.hid hb
      clear hb
      go_wp2
      go_ret
      exact ⟨rfl, HB.out⟩
    all_goals
      go_wp2_with fail
      refine (awake_calls _ HN.out).mono ?_
      rintro e w2 ⟨rfl, hb⟩
      have HB := Lib.hid hb
      clear hb
      go_wp2
      go_ret
      exact ⟨rfl, HB.out⟩
  · have hs1 : ¬ 65536 < p.length := fun k => hs (.inl k)
    have hs2 : ((q : Int) == 0) = false := beq_eq_false_iff_ne.2 (by have : ¬ q = 0 := fun k => hs (.inr k); omega)
    clear hs
    have SL := Lib.hid (sealL_length p)
    have OS := Lib.hid (open_seal p)
    go_enter Tryd.func11, Tryd.ntmps11
    go_wp2_with fail
    refine (seal_calls _ _ p _ HN.out H.out hc (by omega)).mono ?_
    rintro e w1 ⟨v1, rfl, ho, hb1⟩
    have HO := Lib.hid ho
    have HB1 := Lib.hid hb1
    obtain ⟨g1, c1, rfl, hg1, hg1', _⟩ := ho.block (by rw [SL.out]; omega)
    clear ho hb1
    obtain ⟨n, hn, _⟩ := u64_some at_
    obtain ⟨j, hj, hj1⟩ : ∃ j : Nat, (n : Int).tmod (8 * ((p.length : Int) + 4)) = j ∧ j < 8 * (p.length + 4) := ⟨n % (8 * (p.length + 4)), by simpa using tmod_nat n (8 * (p.length + 4)), Nat.mod_lt _ (by omega)⟩
    have hL := SL.out
    have SL' := Lib.hid hL
    have HO' := HO.out
    rw [SL'.out] at HO'
    have HO' := Lib.hid HO'
    generalize (sealL p).length = L at hL
    subst hL
    go_wp2_with fail
    go_loopw [36] (fun i wr => ∃ k : Nat, k ≤ 32 ∧ i = .int .i64 k ∧ ∃ l, OwnB w.heap.size 5 wr (.slice (some ⟨g1, 0, none⟩) (p.length + 4) c1) l ∧ l.length = p.length + 4 ∧ leNum l = leNum (sealL p) ^^^ burstN q j (8 * (p.length + 4)) k ∧ Below w.heap.size w wr) (fun i _ => 32 - (intOf i).toNat)
    case atStart => exact ⟨0, Nat.zero_le _, rfl, sealL p, HO'.out, SL'.out, by rw [burst_zero, Nat.xor_zero], HB1.out⟩
    case round =>
      obtain ⟨k, hk, rfl, l, ho, hl, he, hb⟩ := hrel
      have HO := Lib.hid ho
      have HE := Lib.hid he
      have HB := Lib.hid hb
      clear ho he hb
      have hl2 := hl
      generalize l.length = L at hl2
      subst hl2
      by_cases h1 : k < 32
      · obtain ⟨t, ht⟩ : ∃ t, q / 2 ^ k % 2 = t := ⟨_, rfl⟩
        have ht2 : t < 2 := by omega
        have hq2 : q / 2 ^ k ≤ q := Nat.div_le_self _ _
        have hbit : bits BinOp.and IntKind.u32 ((q : Int) / 2 ^ k) 1 = (t : Int) := by
          have e := and_u32 (q / 2 ^ k) 1 (by omega) (by omega)
          rw [Nat.and_one_is_mod, ht] at e
          rw [← e]
          simp
        have HT := Lib.hid ht
        clear ht hq2
        by_cases h2 : t = 1
        · subst h2
          by_cases h3 : j + k < 8 * (p.length + 4)
          · obtain ⟨i, hi⟩ : ∃ i, (j + k) / 8 = i := ⟨_, rfl⟩
            obtain ⟨r, hr⟩ : ∃ r, (j + k) % 8 = r := ⟨_, rfl⟩
            have hi1 : i < p.length + 4 := by omega
            have hr1 : r < 8 := by omega
            have hquo : ((j : Int) + (k : Int)).tdiv 8 = (i : Int) := by rw [Int.tdiv_eq_ediv_of_nonneg (by omega)]; omega
            have hrem : ((j : Int) + (k : Int)).tmod 8 = (r : Int) := by rw [Int.tmod_eq_emod_of_nonneg (by omega)]; omega
            obtain ⟨hc1, hf1⟩ := HO.out.cell i (by rw [hl]; exact hi1)
            have hgl := gb_lt8 l i
            have hi2 : (i : Int) < (p.length : Int) + 4 := by omega
            have hi0 : (0 : Int) ≤ i := by omega
            have hr0 : (0 : Int) ≤ r := by omega
            have hr2 : (r : Int) < 8 := by omega
            have HR := Lib.hid hi
            have HM := Lib.hid hr
            clear hi hr
            go_wp2_with fail
            go_region
            have hv1 : 2 ^ r < 256 := Nat.pow_lt_pow_right (a := 2) (by omega) hr1
            have e8 : bits BinOp.xor IntKind.u8 (gb l i : Int) (2 ^ r % 256) = (((UInt8.ofNat (gb l i ^^^ 2 ^ r)).toNat : Nat) : Int) := by
              rw [pow_mod8 r hr1, xor_u8 _ _ (by omega) (by omega), ofNat_toNat8 _ (xor_lt8 (by omega) (by omega))]
            rw [e8]
            have HO2 := Lib.hid ((HO.out.set i (UInt8.ofNat (gb l i ^^^ 2 ^ r))).ext (Below.refl _ _).drew)
            have HB2 := Lib.hid ((HB.out.setCell (p := ⟨g1, i, none⟩) hg1 (.int .u8 ((UInt8.ofNat (gb l i ^^^ 2 ^ r)).toNat : Int))).drew)
            have HE2 : Hid (leNum (l.set i (UInt8.ofNat (gb l i ^^^ 2 ^ r))) = leNum (sealL p) ^^^ burstN q j (8 * (p.length + 4)) (k + 1)) := by
              show _ = _
              rw [leNum_turn l i _ (by omega) hv1, HE.out, burst_on q j _ k h3 HT.out, ← Nat.pow_add, show r + 8 * i = j + k by have := HR.out; have := HM.out; omega, Nat.xor_assoc]
            have hl3 : (l.set i (UInt8.ofNat (gb l i ^^^ 2 ^ r))).length = p.length + 4 := by rw [List.length_set, hl]
            have HL3 := Lib.hid hl3
            clear hl3 e8 hc1 hf1
            generalize l.set i (UInt8.ofNat (gb l i ^^^ 2 ^ r)) = l2 at *
            generalize (wr.setCell ⟨g1, i, none⟩ (.int .u8 ((UInt8.ofNat (gb l i ^^^ 2 ^ r)).toNat : Int))).drew = w2 at *
            go_wp2
            exact ⟨⟨k + 1, by omega, by go_num, l2, HO2.out, HL3.out, HE2.out, HB2.out⟩, by simp [intOf]; omega⟩
          · have HE2 : Hid (leNum l = leNum (sealL p) ^^^ burstN q j (8 * (p.length + 4)) (k + 1)) := by
              show _ = _
              rw [HE.out, burst_off q j _ k (fun e => h3 e.1)]
            go_wp2
            exact ⟨⟨k + 1, by omega, by go_num, l, HO.out, hl, HE2.out, HB.out⟩, by simp [intOf]; omega⟩
        · obtain rfl : t = 0 := by omega
          have HE2 : Hid (leNum l = leNum (sealL p) ^^^ burstN q j (8 * (p.length + 4)) (k + 1)) := by
            show _ = _
            rw [HE.out, burst_off q j _ k (fun e => by have := e.2; rw [HT.out] at this; cases this)]
          go_wp2
          exact ⟨⟨k + 1, by omega, by go_num, l, HO.out, hl, HE2.out, HB.out⟩, by simp [intOf]; omega⟩
      · obtain rfl : k = 32 := by omega
        have BR := Lib.hid (burst_refused p l q j hl (by omega) (by omega) (by rw [hl]; exact HE.out))
        have HLn := Lib.hid hl
        clear hl HE
        obtain ⟨_, _, e2, hr2, hc2, _⟩ := HO.out.form
        injection e2 with ea eb ec
        subst ea ec
        clear eb
        have HR2 := Lib.hid hr2
        rw [HLn.out] at hc2
        clear hr2
        have k1 := open_calls (some ⟨g1, 0, none⟩) c1 l wr (HN.out.ext HB.out) HR2.out (by rw [HLn.out]; omega) (by rw [HLn.out]; omega)
        rw [HLn.out] at k1
        have K1 := Lib.hid k1
        clear k1
        go_wp2_with fail
        refine K1.out.mono ?_
        rintro e w3 ⟨v3, rfl, ho3, hb3⟩
        have HO3 := Lib.hid ho3
        have HB3 := Lib.hid (ext_trans HB.out hb3)
        have HR3 := Lib.hid (HR2.out.ext hb3)
        clear K1 ho3 hb3 HR2
        go_wp2_with fail
        refine (seal_calls _ _ p _ (HN.out.ext HB3.out) (H.out.ext HB3.out) hc (by omega)).mono ?_
        rintro e w4 ⟨v4, rfl, ho4, hb4⟩
        obtain ⟨A4, c4, rfl, hr4, hc4, _⟩ := ho4.form
        have HB4 := Lib.hid (ext_trans HB3.out hb4)
        have HR4 := Lib.hid hr4
        have HR5 := Lib.hid (HR3.out.ext hb4)
        clear ho4 hb4 hr4 hc4 HR3
        have k1 := equal_calls (some ⟨g1, 0, none⟩) A4 c1 c4 l (sealL p) w4 HR5.out HR4.out
        rw [HLn.out] at k1
        have K1 := Lib.hid k1
        clear k1
        go_wp2_with fail
        refine K1.out.mono ?_
        rintro e w5 ⟨rfl, rfl⟩
        rcases BR.out with e | ⟨e, e2⟩
        · have OE : Hid (openE l = 0) := by rw [e]; exact Lib.hid OS.out.1
          rw [beq_iff_eq.2 e, OE.out]
          clear e
          go_wp2_with fail
          refine (awake_calls _ (HN.out.ext HB4.out)).mono ?_
          rintro e w6 ⟨rfl, hb⟩
          have HBz := Lib.hid (ext_trans HB4.out hb)
          clear hb
          go_wp2
          go_ret
          exact ⟨rfl, HBz.out⟩
        · have OL : Hid (openL l = []) := by unfold openL; rw [if_neg (by rw [e2]; decide)]; exact Lib.hid rfl
          rw [beq_eq_false_iff_ne.2 e, e2]
          have ho3 := HO3.out
          rw [OL.out] at ho3
          obtain ⟨A3, c3, rfl, _, _, _⟩ := ho3.form
          clear e e2 ho3 HO3
          go_wp2_with fail
          refine (awake_calls _ (HN.out.ext HB4.out)).mono ?_
          rintro e w6 ⟨rfl, hb⟩
          have HBz := Lib.hid (ext_trans HB4.out hb)
          clear hb
          go_wp2
          go_ret
          exact ⟨rfl, HBz.out⟩
end Go.Proofs.YtnknkmpdkdpnaaaDoor
