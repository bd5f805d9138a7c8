/- The walk of the law PacketGets. -/
import Derived.Test.YtobkelpeenckeaaPkI
import Derived.Test.YtobkelpeenckeaaPkS
import Derived.Test.YtobkelpeenckeaaRowPk
import Derived.Test.YtobkelpeenckeaaBytesEq
namespace Go.Proofs.Ytobkelpeenckeaa
open Go.RowKit
set_option linter.unusedVariables false
set_option linter.unusedSimpArgs false

theorem xor_lt8' {a b : Nat} (h : a < 256) (k : b < 256) : a ^^^ b < 256 := Nat.xor_lt_two_pow (n := 8) h k
theorem ofNat_toNat8' (n : Nat) (h : n < 256) : (UInt8.ofNat n).toNat = n := by simp; omega
def FlipIs (B0 n d : Nat) (R : Option Addr) (w : World) : Prop := ∃ l' : List UInt8, l'.length = n ∧ OwnB B0 5 w (.slice R n d) l'
set_option maxRecDepth 100000 in
set_option maxHeartbeats 2000000 in
theorem gets_walk (w : World) (A : Option Addr) (c : Nat) (l : List UInt8) (h : RB w A l) (hc : l.length ≤ c) (hl : l.length ≤ 140737488351232) (hcm : c ≤ maxLen) :
    Calls Try.prog 8 #[.slice A l.length c] w fun e w' => e = .returned (.bool true) ∧ Below w.heap.size w w' := by
  obtain ⟨n, hn⟩ : ∃ n, l.length = n := ⟨_, rfl⟩
  rw [hn] at hc hl ⊢
  have hcM : c ≤ 9223372036854775807 := Nat.le_trans hcm (by decide)
  by_cases hs : 16384 < n
  · clear h hn hcm
    go_enter Try.func8, Try.ntmps8
    go_wp2_with fail
    refine (awake_calls _).mono ?_
    rintro e w2 ⟨rfl, hb⟩
    have HB := Lib.hid hb
    clear hb
    go_wp2
    go_ret
    exact ⟨rfl, HB.out⟩
  · have H := Lib.hid h
    have HN := Lib.hid hn
    obtain ⟨Q, hQ⟩ : ∃ Q, getP l = Q := ⟨_, rfl⟩
    obtain ⟨P, E⟩ := Q
    obtain ⟨m, hm⟩ : ∃ m, P.data.length = m := ⟨_, rfl⟩
    have hm128 : m ≤ 128 := by have := getP_len l; rw [hQ] at this; dsimp only at this; omega
    have HGT : Hid (∀ (W : World) (R : Option Addr) (d : Nat), RB W R l → n ≤ d → d ≤ 9223372036854775807 → Calls Try.prog 16 #[.slice R n d] W fun e w' => ∃ R3 d3, e = .returned (.tuple #[.agg (P.cs R3 m d3).toArray, .int .i64 E]) ∧ OwnB W.heap.size 5 w' (.slice R3 m d3) P.data ∧ Below W.heap.size W w') := Lib.hid fun W R d hr hd hd2 => by
      refine (get_calls R d n l hn W hr hd hd2 (by omega)).mono ?_
      rintro e w' ⟨R', m', c', rfl, hm', _, ho, hb⟩
      rw [hQ] at hm' ho ⊢
      dsimp only at hm' ho ⊢
      rw [hm] at hm'
      subst hm'
      exact ⟨R', c', rfl, ho, hb⟩
    have HRGT : Hid (∀ (W : World) (R : Option Addr) (d : Nat), RB W R l → n ≤ d → d ≤ 9223372036854775807 → Calls Try.prog 28 #[.slice R n d] W fun e w' => ∃ R3 d3, e = .returned (.tuple #[.agg (P.cs R3 m d3).toArray, .int .i64 E]) ∧ OwnB W.heap.size 5 w' (.slice R3 m d3) P.data ∧ Below W.heap.size W w') := Lib.hid fun W R d hr hd hd2 => by
      refine (rget_calls R d n l hn W hr hd hd2 (by omega)).mono ?_
      rintro e w' ⟨R', m', c', rfl, hm', _, ho, hb⟩
      rw [hQ] at hm' ho ⊢
      dsimp only at hm' ho ⊢
      rw [hm] at hm'
      subst hm'
      exact ⟨R', c', rfl, ho, hb⟩
    have HSM : Hid (∀ (W : World) (R3 R4 : Option Addr) (d3 d4 : Nat), RB W R3 P.data → RB W R4 P.data → Calls Try.prog 17 #[.agg (P.cs R3 m d3).toArray, .agg (P.cs R4 m d4).toArray] W fun e w' => e = .returned (.bool true) ∧ Below W.heap.size W w') := Lib.hid fun W R3 R4 d3 d4 h1 h2 => by
      have := same_n P P R3 R4 m d3 m d4 hm.symm hm.symm W h1 h2
      rw [sameP_self] at this
      exact this
    have HEQ2 : Hid (∀ (W : World) (R1 R2 : Option Addr) (d1 d2 : Nat), RB W R1 l → RB W R2 l → Calls Try.prog 26 #[.slice R1 n d1, .slice R2 n d2] W fun e w' => e = .returned (.bool true) ∧ W = w') := Lib.hid fun W R1 R2 d1 d2 h1 h2 => by
      have := equal_calls R1 R2 d1 d2 l l W h1 h2
      rw [hn, beq_self_eq_true] at this
      exact this
    have HPM := Lib.hid hm
    have hEE : (E == E) = true := beq_self_eq_true E
    clear h hn hQ hm hcm
    obtain ⟨src, dst, sp, dp, seq, ack, fl, wn, pr, og, data⟩ := P
    simp only [Pk.cs] at HGT HRGT HSM HPM
    go_enter Try.func8, Try.ntmps8
    go_wp2_with fail
    refine (clone_n A c n l HN.out w H.out (by omega)).mono ?_
    rintro e w1 ⟨R1, d1, rfl, hnd1, hr1, ho1, hb1⟩
    have hd1 : d1 ≤ 9223372036854775807 := by
      obtain ⟨_, _, ea, _, _, hm⟩ := ho1.form
      injection ea with ea eb ec
      rw [ec]
      exact Nat.le_trans hm (by decide)
    have HR1 := Lib.hid hr1
    have HA1 := Lib.hid (H.out.ext hb1)
    have HB1 := Lib.hid hb1
    clear hr1 ho1 hb1
    go_wp2_with fail
    refine (HGT.out w1 R1 d1 HR1.out hnd1 hd1).mono ?_
    rintro e w2 ⟨R3, d3, rfl, ho2, hb2⟩
    obtain ⟨k1, hk1⟩ : ∃ k, w1.heap.size = k := ⟨_, rfl⟩
    have HK1 := Lib.hid hk1
    obtain ⟨k2, hk2⟩ : ∃ k, w2.heap.size = k := ⟨_, rfl⟩
    have HK2 := Lib.hid hk2
    have hk12 : k1 ≤ k2 := by have := hb2.size; omega
    have hwk : w.heap.size ≤ k1 := by have := HB1.out.size; omega
    have hx := ext_alloc w2 (.cells #[.int .i64 src, .int .i64 dst, .int .i64 sp, .int .i64 dp, .int .u32 (seq : Int), .int .u32 (ack : Int), .int .i64 fl, .int .i64 wn, .int .i64 pr, .int .i64 og, .slice R3 m d3] 25)
    have HP2 : Hid (BK (w2.alloc (.cells #[.int .i64 src, .int .i64 dst, .int .i64 sp, .int .i64 dp, .int .u32 (seq : Int), .int .u32 (ack : Int), .int .i64 fl, .int .i64 wn, .int .i64 pr, .int .i64 og, .slice R3 m d3] 25)) k2 25 [.int .i64 src, .int .i64 dst, .int .i64 sp, .int .i64 dp, .int .u32 (seq : Int), .int .u32 (ack : Int), .int .i64 fl, .int .i64 wn, .int .i64 pr, .int .i64 og, .slice R3 m d3]) := Lib.hid (heap_end hk2 _ _)
    have HO2 := Lib.hid ((hk1 ▸ ho2 : OwnB k1 _ _ _ _).ext hx)
    have HA2 := Lib.hid ((HA1.out.ext hb2).ext hx)
    have HR2 := Lib.hid ((HR1.out.ext hb2).ext hx)
    have HB2 := Lib.hid (ext_trans (ext_trans HB1.out hb2) hx)
    have hs2 : k2 < (w2.alloc (.cells #[.int .i64 src, .int .i64 dst, .int .i64 sp, .int .i64 dp, .int .u32 (seq : Int), .int .u32 (ack : Int), .int .i64 fl, .int .i64 wn, .int .i64 pr, .int .i64 og, .slice R3 m d3] 25)).heap.size := by rw [← hk2]; simp
    clear ho2 hb2 hx hk1
    go_upto_region 5 with fail
    clear hk2
    generalize w2.alloc (.cells #[.int .i64 src, .int .i64 dst, .int .i64 sp, .int .i64 dp, .int .u32 (seq : Int), .int .u32 (ack : Int), .int .i64 fl, .int .i64 wn, .int .i64 pr, .int .i64 og, .slice R3 m d3] 25) = w3 at *
    go_wp2_with fail
    refine (HRGT.out w3 A c HA2.out hc hcM).mono ?_
    rintro e w4 ⟨R4, d4, rfl, ho4, hb4⟩
    obtain ⟨k4, hk4⟩ : ∃ k, w4.heap.size = k := ⟨_, rfl⟩
    have hx := ext_alloc w4 (.cells #[.int .i64 src, .int .i64 dst, .int .i64 sp, .int .i64 dp, .int .u32 (seq : Int), .int .u32 (ack : Int), .int .i64 fl, .int .i64 wn, .int .i64 pr, .int .i64 og, .slice R4 m d4] 25)
    have HQ4 : Hid (BK (w4.alloc (.cells #[.int .i64 src, .int .i64 dst, .int .i64 sp, .int .i64 dp, .int .u32 (seq : Int), .int .u32 (ack : Int), .int .i64 fl, .int .i64 wn, .int .i64 pr, .int .i64 og, .slice R4 m d4] 25)) k4 25 [.int .i64 src, .int .i64 dst, .int .i64 sp, .int .i64 dp, .int .u32 (seq : Int), .int .u32 (ack : Int), .int .i64 fl, .int .i64 wn, .int .i64 pr, .int .i64 og, .slice R4 m d4]) := Lib.hid (heap_end hk4 _ _)
    have HP4 := Lib.hid ((HP2.out.ext hb4).ext hx)
    have HO4 := Lib.hid ((HO2.out.ext hb4).ext hx)
    have HOR := Lib.hid (ho4.ext hx)
    have HA4 := Lib.hid ((HA2.out.ext hb4).ext hx)
    have HR4 := Lib.hid ((HR2.out.ext hb4).ext hx)
    have HB4 := Lib.hid (ext_trans (ext_trans HB2.out hb4) hx)
    clear ho4 hb4 hx HP2 HO2 HA2 HR2 HB2
    go_upto_region 6 with fail
    clear hk4
    generalize w4.alloc (.cells #[.int .i64 src, .int .i64 dst, .int .i64 sp, .int .i64 dp, .int .u32 (seq : Int), .int .u32 (ack : Int), .int .i64 fl, .int .i64 wn, .int .i64 pr, .int .i64 og, .slice R4 m d4] 25) = w5 at *
    have q0 : w5.cell? ⟨k2, 0, none⟩ = some (.int .i64 src) := HP4.out.cell rfl
    have q1 : w5.cell? ⟨k2, 1, none⟩ = some (.int .i64 dst) := HP4.out.cell rfl
    have q2 : w5.cell? ⟨k2, 2, none⟩ = some (.int .i64 sp) := HP4.out.cell rfl
    have q3 : w5.cell? ⟨k2, 3, none⟩ = some (.int .i64 dp) := HP4.out.cell rfl
    have q4 : w5.cell? ⟨k2, 4, none⟩ = some (.int .u32 (seq : Int)) := HP4.out.cell rfl
    have q5 : w5.cell? ⟨k2, 5, none⟩ = some (.int .u32 (ack : Int)) := HP4.out.cell rfl
    have q6 : w5.cell? ⟨k2, 6, none⟩ = some (.int .i64 fl) := HP4.out.cell rfl
    have q7 : w5.cell? ⟨k2, 7, none⟩ = some (.int .i64 wn) := HP4.out.cell rfl
    have q8 : w5.cell? ⟨k2, 8, none⟩ = some (.int .i64 pr) := HP4.out.cell rfl
    have q9 : w5.cell? ⟨k2, 9, none⟩ = some (.int .i64 og) := HP4.out.cell rfl
    have q10 : w5.cell? ⟨k2, 10, none⟩ = some (.slice R3 m d3) := HP4.out.cell rfl
    have z0 : w5.cell? ⟨k4, 0, none⟩ = some (.int .i64 src) := HQ4.out.cell rfl
    have z1 : w5.cell? ⟨k4, 1, none⟩ = some (.int .i64 dst) := HQ4.out.cell rfl
    have z2 : w5.cell? ⟨k4, 2, none⟩ = some (.int .i64 sp) := HQ4.out.cell rfl
    have z3 : w5.cell? ⟨k4, 3, none⟩ = some (.int .i64 dp) := HQ4.out.cell rfl
    have z4 : w5.cell? ⟨k4, 4, none⟩ = some (.int .u32 (seq : Int)) := HQ4.out.cell rfl
    have z5 : w5.cell? ⟨k4, 5, none⟩ = some (.int .u32 (ack : Int)) := HQ4.out.cell rfl
    have z6 : w5.cell? ⟨k4, 6, none⟩ = some (.int .i64 fl) := HQ4.out.cell rfl
    have z7 : w5.cell? ⟨k4, 7, none⟩ = some (.int .i64 wn) := HQ4.out.cell rfl
    have z8 : w5.cell? ⟨k4, 8, none⟩ = some (.int .i64 pr) := HQ4.out.cell rfl
    have z9 : w5.cell? ⟨k4, 9, none⟩ = some (.int .i64 og) := HQ4.out.cell rfl
    have z10 : w5.cell? ⟨k4, 10, none⟩ = some (.slice R4 m d4) := HQ4.out.cell rfl
    have hrp : RB w5 R3 data := by
      obtain ⟨_, _, ea, hr, _⟩ := HO4.out.form
      injection ea with ea
      rw [ea]
      exact hr
    have hrq : RB w5 R4 data := by
      obtain ⟨_, _, ea, hr, _⟩ := HOR.out.form
      injection ea with ea
      rw [ea]
      exact hr
    have HRP := Lib.hid hrp
    have HRQ := Lib.hid hrq
    clear hrp hrq
    go_wp2_with fail
    refine (HSM.out w5 R3 R4 d3 d4 HRP.out HRQ.out).mono ?_
    rintro e w6 ⟨rfl, hb6⟩
    have HP6 := Lib.hid (HP4.out.ext hb6)
    have HF6 : Hid (FlipIs k1 m d3 R3 w6) := Lib.hid ⟨data, HPM.out, HO4.out.ext hb6⟩
    have HA6 := Lib.hid (HA4.out.ext hb6)
    have HR6 := Lib.hid (HR4.out.ext hb6)
    have HB6 := Lib.hid (ext_trans HB4.out hb6)
    have k10 := HP6.out.cell (i := 10) rfl
    clear hb6 HP4 HO4 HA4 HR4 HB4 HQ4 HOR HRP HRQ q0 q1 q2 q3 q4 q5 q6 q7 q8 q9 q10 z0 z1 z2 z3 z4 z5 z6 z7 z8 z9 z10
    go_wp2_with fail
    clear k10
    go_loopw [37] (fun i wr => ∃ k : Nat, k ≤ m ∧ i = .int .i64 k ∧ Hid (FlipIs k1 m d3 R3 wr) ∧ Hid (BK wr k2 25 [.int .i64 src, .int .i64 dst, .int .i64 sp, .int .i64 dp, .int .u32 (seq : Int), .int .u32 (ack : Int), .int .i64 fl, .int .i64 wn, .int .i64 pr, .int .i64 og, .slice R3 m d3]) ∧ Hid (RB wr A l) ∧ Hid (RB wr R1 l) ∧ Hid (Below w.heap.size w wr)) (fun i _ => m - (intOf i).toNat)
    case atStart => exact ⟨0, Nat.zero_le _, rfl, HF6, HP6, HA6, HR6, HB6⟩
    case round =>
      obtain ⟨k, hk, rfl, HF, HP, HA, HR, HB⟩ := hrel
      by_cases h1 : k < m
      · obtain ⟨l', hl', ho'⟩ := HF.out
        obtain ⟨g1, c1, ev, hg1, hg1', _, _⟩ := ho'.block (by omega)
        injection ev with eR em ec
        subst eR
        have HO := Lib.hid ho'
        obtain ⟨c0, f0⟩ := HO.out.cell k (by omega)
        have hx := gb_lt l' k
        have HX : Hid (bits BinOp.xor IntKind.u8 (gb l' k : Int) 255 = (((UInt8.ofNat (gb l' k ^^^ 255)).toNat : Nat) : Int)) := Lib.hid (by
          rw [show (255 : Int) = ((255 : Nat) : Int) from rfl, xor_u8 _ _ (by omega) (by omega), ofNat_toNat8' _ (xor_lt8' (by omega) (by omega))])
        have k10 := HP.out.cell (i := 10) rfl
        have HL' := Lib.hid hl'
        clear ho' em ec hl'
        go_wp2_with fail
        rw [HX.out]
        have hgr := grown_setCell wr g1 k (.int .u8 ((UInt8.ofNat (gb l' k ^^^ 255)).toNat : Int))
        have HGR := Lib.hid hgr
        clear hgr
        go_roundw
        case rel =>
          refine ⟨k + 1, by omega, by go_num, Lib.hid ⟨l'.set k (UInt8.ofNat (gb l' k ^^^ 255)), by rw [List.length_set]; exact HL'.out, HO.out.set k _⟩, Lib.hid (HP.out.same (HGR.out.block k2 HP.out.lt (fun e => ?_))), Lib.hid (HA.out.grown HGR.out fun h0 => ?_), Lib.hid (HR.out.grown HGR.out fun h0 => ?_), Lib.hid (below_grown HB.out HGR.out HB.out.size (by omega))⟩
          · exact own_ne_bk HO.out HP.out (by decide) (by rw [e]; rfl)
          · obtain ⟨b0, o0, hA0, hc0⟩ := H.out 0 h0
            have hlt := World.block_lt_of_cell? w _ hc0
            intro b o eb
            rw [hA0] at eb
            injection eb with eb
            injection eb with eb
            subst eb
            simp at hlt
            omega
          · obtain ⟨b0, o0, hA0, hc0⟩ := HR1.out 0 h0
            have hlt := World.block_lt_of_cell? w1 _ hc0
            rw [HK1.out] at hlt
            intro b o eb
            rw [hA0] at eb
            injection eb with eb
            injection eb with eb
            subst eb
            simp at hlt
            omega
        case measure => simp [intOf]; omega
      · obtain rfl : k = m := by omega
        go_wp2_with fail
        refine (HEQ2.out wr R1 A d1 c HR.out HA.out).mono ?_
        rintro e w4 ⟨rfl, rfl⟩
        go_wp2_with fail
        refine (awake_calls _).mono ?_
        rintro e w7 ⟨rfl, hb7⟩
        have HB7 := Lib.hid (ext_trans HB.out hb7)
        clear hb7
        go_wp2
        go_ret
        exact ⟨rfl, HB7.out⟩
end Go.Proofs.Ytobkelpeenckeaa
