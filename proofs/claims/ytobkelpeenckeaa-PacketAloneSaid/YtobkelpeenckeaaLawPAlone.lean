/- The walk of the law PacketAlone. -/
import Derived.Test.YtobkelpeenckeaaPkL
import Derived.Test.YtobkelpeenckeaaBytesEq
namespace Go.Proofs.Ytobkelpeenckeaa
open Go.RowKit
set_option linter.unusedVariables false
set_option linter.unusedSimpArgs false

theorem okN_probe (p : Pk) (n : Nat) (k : Int) (h : okN (p.probe 0) n = true) (h1 : 1 ≤ k) (h2 : k ≤ 1099511627776) : okN (p.probe k) n = true := by
  unfold okN Pk.probe at h ⊢
  simp only [Bool.and_eq_true, decide_eq_true_eq] at h ⊢
  omega
set_option maxRecDepth 100000 in
set_option maxHeartbeats 2000000 in
theorem palone_walk (w : World) (p : Pk) (A : Option Addr) (c : Nat) (h : RB w A p.data) (hc : p.data.length ≤ c) (hcm : c ≤ maxLen) (hin : PkIn p) (k : Int) (hk0 : -9223372036854775808 ≤ k) (hk1 : k ≤ 9223372036854775807) :
    Calls Try.prog 12 #[.agg (p.cs A p.data.length c).toArray, .int .i64 k] w fun e w' => e = .returned (.bool true) ∧ Below w.heap.size w w' := by
  obtain ⟨n, hn⟩ : ∃ n, p.data.length = n := ⟨_, rfl⟩
  rw [hn] at hc ⊢
  by_cases hs : 16384 < n
  · clear h hin hn hc
    obtain ⟨src, dst, sp, dp, seq, ack, fl, wn, pr, og, data⟩ := p
    simp only [Pk.cs]
    go_enter Try.func12, Try.ntmps12
    go_wp2_with fail
    refine (awake_calls _).mono ?_
    rintro e w2 ⟨rfl, hb⟩
    have HB := Lib.hid (ext_trans (ext_alloc _ _) hb)
    clear hb
    go_wp2
    go_ret
    exact ⟨rfl, HB.out⟩
  · have hn1 : n ≤ 16384 := by omega
    clear hs
    have HCK : Hid (∀ W : World, Calls Try.prog 15 #[.agg ((p.probe 0).cs A n c).toArray] W fun e w' => e = .returned (.int .i64 (if okN (p.probe 0) n then 0 else 40)) ∧ Below W.heap.size W w') := Lib.hid (check_n (p.probe 0) A n c)
    by_cases hok : okN (p.probe 0) n = true
    · rw [hok] at HCK
      have HCK0 : Hid (∀ W : World, Calls Try.prog 15 #[.agg ((p.probe 0).cs A n c).toArray] W fun e w' => e = .returned (.int .i64 0) ∧ Below W.heap.size W w') := HCK
      clear HCK
      by_cases h1 : k < 1
      · clear h hin hn hok hc
        obtain ⟨src, dst, sp, dp, seq, ack, fl, wn, pr, og, data⟩ := p
        simp only [Pk.cs, Pk.probe] at HCK0 ⊢
        go_enter Try.func12, Try.ntmps12
        go_wp2_with fail
        refine (HCK0.out _).mono ?_
        rintro e w3 ⟨rfl, hb3⟩
        have HB3 := Lib.hid (ext_trans (ext_alloc _ _) hb3)
        clear hb3
        go_wp2_with fail
        refine (awake_calls _).mono ?_
        rintro e w2 ⟨rfl, hb⟩
        have HB := Lib.hid (ext_trans HB3.out hb)
        clear hb
        go_wp2
        go_ret
        exact ⟨rfl, HB.out⟩
      · by_cases h2 : 1099511627776 < k
        · clear h hin hn hok hc
          obtain ⟨src, dst, sp, dp, seq, ack, fl, wn, pr, og, data⟩ := p
          simp only [Pk.cs, Pk.probe] at HCK0 ⊢
          go_enter Try.func12, Try.ntmps12
          go_wp2_with fail
          refine (HCK0.out _).mono ?_
          rintro e w3 ⟨rfl, hb3⟩
          have HB3 := Lib.hid (ext_trans (ext_alloc _ _) hb3)
          clear hb3
          go_wp2_with fail
          refine (awake_calls _).mono ?_
          rintro e w2 ⟨rfl, hb⟩
          have HB := Lib.hid (ext_trans HB3.out hb)
          clear hb
          go_wp2
          go_ret
          exact ⟨rfl, HB.out⟩
        · have okk := okN_probe p n k hok (by omega) (by omega)
          have hkk : (k == k) = true := beq_self_eq_true k
          obtain ⟨L0, hL0⟩ : ∃ x, putP (p.probe 0) = x := ⟨_, rfl⟩
          obtain ⟨Lk, hLk⟩ : ∃ x, putP (p.probe k) = x := ⟨_, rfl⟩
          obtain ⟨m0, hm0⟩ : ∃ x, L0.length = x := ⟨_, rfl⟩
          obtain ⟨mk, hmk⟩ : ∃ x, Lk.length = x := ⟨_, rfl⟩
          have HPT : Hid (∀ W : World, RB W A p.data → Calls Try.prog 14 #[.agg ((p.probe 0).cs A n c).toArray] W fun e w' => ∃ R cR, e = .returned (.tuple #[.slice R m0 cR, .int .i64 0]) ∧ m0 ≤ cR ∧ cR ≤ 9223372036854775807 ∧ RB w' R L0 ∧ Below W.heap.size W w') := Lib.hid fun W hr => by
            have := put_ok2 (p.probe 0) A n c hn hin hok hc W hr
            rw [hL0, hm0] at this
            exact this
          have HPR : Hid (∀ (W : World) (R : Option Addr) (cR : Nat), RB W R L0 → m0 ≤ cR → cR ≤ 9223372036854775807 → Calls Try.prog 29 #[.slice R m0 cR, .int .i64 k] W fun e w' => ∃ R cR, e = .returned (.tuple #[.slice R mk cR, .int .i64 0]) ∧ mk ≤ cR ∧ cR ≤ 9223372036854775807 ∧ RB w' R Lk ∧ Below W.heap.size W w') := Lib.hid fun W R cR a b d => by
            have := probed_ok2 (p.probe 0) k n hn hin hok okk W R cR (by rw [hL0]; exact a) (by rw [hL0, hm0]; exact b) d
            rw [show (p.probe 0).probe k = p.probe k from rfl, hL0, hLk, hm0, hmk] at this
            exact this
          have HPR2 : Hid (∀ (W : World) (R : Option Addr) (cR : Nat), RB W R Lk → mk ≤ cR → cR ≤ 9223372036854775807 → Calls Try.prog 29 #[.slice R mk cR, .int .i64 0] W fun e w' => ∃ R cR, e = .returned (.tuple #[.slice R m0 cR, .int .i64 0]) ∧ m0 ≤ cR ∧ cR ≤ 9223372036854775807 ∧ RB w' R L0 ∧ Below W.heap.size W w') := Lib.hid fun W R cR a b d => by
            have := probed_ok2 (p.probe k) 0 n hn hin okk hok W R cR (by rw [hLk]; exact a) (by rw [hLk, hmk]; exact b) d
            rw [show (p.probe k).probe 0 = p.probe 0 from rfl, hL0, hLk, hm0, hmk] at this
            exact this
          have HGT : Hid (∀ (W : World) (R : Option Addr) (cR : Nat), RB W R Lk → mk ≤ cR → cR ≤ 9223372036854775807 → Calls Try.prog 16 #[.slice R mk cR] W fun e w' => ∃ R3 d3, e = .returned (.tuple #[.agg ((p.probe k).cs R3 n d3).toArray, .int .i64 0]) ∧ RB w' R3 p.data ∧ Below W.heap.size W w') := Lib.hid fun W R cR a b d => by
            have := get_ok2 (p.probe k) n hn hin okk W R cR (by rw [hLk]; exact a) (by rw [hLk, hmk]; exact b) d
            rw [hLk, hmk] at this
            exact this
          have HSM : Hid (∀ (W : World) (R3 : Option Addr) (d3 : Nat), RB W A p.data → RB W R3 p.data → Calls Try.prog 17 #[.agg ((p.probe 0).cs A n c).toArray, .agg ((p.probe 0).cs R3 n d3).toArray] W fun e w' => e = .returned (.bool true) ∧ Below W.heap.size W w') := Lib.hid fun W R3 d3 a b => by
            have := same_n (p.probe 0) (p.probe 0) A R3 n c n d3 hn.symm hn.symm W a b
            rw [sameP_self] at this
            exact this
          have HEQ : Hid (∀ (W : World) (R R2 : Option Addr) (cR c2 : Nat), RB W R L0 → RB W R2 L0 → Calls Try.prog 26 #[.slice R m0 cR, .slice R2 m0 c2] W fun e w' => e = .returned (.bool true) ∧ W = w') := Lib.hid fun W R R2 cR c2 a b => by
            have := equal_calls R R2 cR c2 L0 L0 W a b
            rw [hm0, beq_self_eq_true] at this
            exact this
          have H := Lib.hid h
          clear h hin hn hok hc okk hL0 hLk hm0 hmk
          obtain ⟨src, dst, sp, dp, seq, ack, fl, wn, pr, og, data⟩ := p
          dsimp only at H
          simp only [Pk.cs, Pk.probe] at HCK0 HPT HGT HSM ⊢
          go_enter Try.func12, Try.ntmps12
          go_wp2_with fail
          refine (HCK0.out _).mono ?_
          rintro e w3 ⟨rfl, hb3⟩
          have HP3 : Hid (BK w3 w.heap.size 25 [.int .i64 src, .int .i64 dst, .int .i64 sp, .int .i64 dp, .int .u32 (seq : Int), .int .u32 (ack : Int), .int .i64 fl, .int .i64 wn, .int .i64 0, .int .i64 og, .slice A n c]) := Lib.hid ((hb3.block w.heap.size (by simp)).trans (heap_end rfl _ _))
          have HB3 := Lib.hid (ext_trans (ext_alloc _ _) hb3)
          clear hb3
          have q0 : w3.cell? ⟨w.heap.size, 0, none⟩ = some (.int .i64 src) := HP3.out.cell rfl
          have q1 : w3.cell? ⟨w.heap.size, 1, none⟩ = some (.int .i64 dst) := HP3.out.cell rfl
          have q2 : w3.cell? ⟨w.heap.size, 2, none⟩ = some (.int .i64 sp) := HP3.out.cell rfl
          have q3 : w3.cell? ⟨w.heap.size, 3, none⟩ = some (.int .i64 dp) := HP3.out.cell rfl
          have q4 : w3.cell? ⟨w.heap.size, 4, none⟩ = some (.int .u32 (seq : Int)) := HP3.out.cell rfl
          have q5 : w3.cell? ⟨w.heap.size, 5, none⟩ = some (.int .u32 (ack : Int)) := HP3.out.cell rfl
          have q6 : w3.cell? ⟨w.heap.size, 6, none⟩ = some (.int .i64 fl) := HP3.out.cell rfl
          have q7 : w3.cell? ⟨w.heap.size, 7, none⟩ = some (.int .i64 wn) := HP3.out.cell rfl
          have q8 : w3.cell? ⟨w.heap.size, 8, none⟩ = some (.int .i64 0) := HP3.out.cell rfl
          have q9 : w3.cell? ⟨w.heap.size, 9, none⟩ = some (.int .i64 og) := HP3.out.cell rfl
          have q10 : w3.cell? ⟨w.heap.size, 10, none⟩ = some (.slice A n c) := HP3.out.cell rfl
          go_wp2_with fail
          refine (HPT.out _ (H.out.ext HB3.out)).mono ?_
          rintro e w4 ⟨R, cR, rfl, g1, g2, hr4, hb4⟩
          have HR4 := Lib.hid hr4
          have HB4 := Lib.hid (ext_trans HB3.out hb4)
          have HP4 := Lib.hid (HP3.out.ext hb4)
          clear hr4 hb4 q0 q1 q2 q3 q4 q5 q6 q7 q8 q9 q10
          go_wp2_with fail
          refine (HPR.out _ R cR HR4.out g1 g2).mono ?_
          rintro e w5 ⟨R5, c5, rfl, g3, g4, hr5, hb5⟩
          have HR5 := Lib.hid hr5
          have HR45 := Lib.hid (HR4.out.ext hb5)
          have HB5 := Lib.hid (ext_trans HB4.out hb5)
          have HP5 := Lib.hid (HP4.out.ext hb5)
          clear hr5 hb5
          go_wp2_with fail
          refine (HPR2.out _ R5 c5 HR5.out g3 g4).mono ?_
          rintro e w6 ⟨R6, c6, rfl, g5, g6, hr6, hb6⟩
          have HR6 := Lib.hid hr6
          have HR56 := Lib.hid (HR5.out.ext hb6)
          have HR46 := Lib.hid (HR45.out.ext hb6)
          have HB6 := Lib.hid (ext_trans HB5.out hb6)
          have HP6 := Lib.hid (HP5.out.ext hb6)
          clear hr6 hb6
          go_wp2_with fail
          refine (HGT.out _ R5 c5 HR56.out g3 g4).mono ?_
          rintro e w7 ⟨R3, d3, rfl, hr7, hb7⟩
          have HR7 := Lib.hid hr7
          have HR67 := Lib.hid (HR6.out.ext hb7)
          have HR47 := Lib.hid (HR46.out.ext hb7)
          have HB7 := Lib.hid (ext_trans HB6.out hb7)
          have HP7 := Lib.hid (HP6.out.ext hb7)
          clear hr7 hb7
          go_upto_region 11 with fail
          have hx := ext_alloc w7 (.cells #[.int .i64 src, .int .i64 dst, .int .i64 sp, .int .i64 dp, .int .u32 (seq : Int), .int .u32 (ack : Int), .int .i64 fl, .int .i64 wn, .int .i64 0, .int .i64 og, .slice R3 n d3] 25)
          have HP8 := Lib.hid (HP7.out.ext hx)
          have HQ8 : Hid (BK (w7.alloc (.cells #[.int .i64 src, .int .i64 dst, .int .i64 sp, .int .i64 dp, .int .u32 (seq : Int), .int .u32 (ack : Int), .int .i64 fl, .int .i64 wn, .int .i64 0, .int .i64 og, .slice R3 n d3] 25)) w7.heap.size 25 [.int .i64 src, .int .i64 dst, .int .i64 sp, .int .i64 dp, .int .u32 (seq : Int), .int .u32 (ack : Int), .int .i64 fl, .int .i64 wn, .int .i64 0, .int .i64 og, .slice R3 n d3]) := Lib.hid (heap_end rfl _ _)
          have HB8 := Lib.hid (ext_trans HB7.out hx)
          have HA8 := Lib.hid (HR67.out.ext hx)
          have HC8 := Lib.hid (HR47.out.ext hx)
          have HD8 := Lib.hid (HR7.out.ext hx)
          have HH8 := Lib.hid (H.out.ext HB8.out)
          clear hx
          generalize w7.alloc (.cells #[.int .i64 src, .int .i64 dst, .int .i64 sp, .int .i64 dp, .int .u32 (seq : Int), .int .u32 (ack : Int), .int .i64 fl, .int .i64 wn, .int .i64 0, .int .i64 og, .slice R3 n d3] 25) = w8 at *
          have q0 : w8.cell? ⟨w.heap.size, 0, none⟩ = some (.int .i64 src) := HP8.out.cell rfl
          have q1 : w8.cell? ⟨w.heap.size, 1, none⟩ = some (.int .i64 dst) := HP8.out.cell rfl
          have q2 : w8.cell? ⟨w.heap.size, 2, none⟩ = some (.int .i64 sp) := HP8.out.cell rfl
          have q3 : w8.cell? ⟨w.heap.size, 3, none⟩ = some (.int .i64 dp) := HP8.out.cell rfl
          have q4 : w8.cell? ⟨w.heap.size, 4, none⟩ = some (.int .u32 (seq : Int)) := HP8.out.cell rfl
          have q5 : w8.cell? ⟨w.heap.size, 5, none⟩ = some (.int .u32 (ack : Int)) := HP8.out.cell rfl
          have q6 : w8.cell? ⟨w.heap.size, 6, none⟩ = some (.int .i64 fl) := HP8.out.cell rfl
          have q7 : w8.cell? ⟨w.heap.size, 7, none⟩ = some (.int .i64 wn) := HP8.out.cell rfl
          have q8 : w8.cell? ⟨w.heap.size, 8, none⟩ = some (.int .i64 0) := HP8.out.cell rfl
          have q9 : w8.cell? ⟨w.heap.size, 9, none⟩ = some (.int .i64 og) := HP8.out.cell rfl
          have q10 : w8.cell? ⟨w.heap.size, 10, none⟩ = some (.slice A n c) := HP8.out.cell rfl
          have z0 : w8.cell? ⟨w7.heap.size, 0, none⟩ = some (.int .i64 src) := HQ8.out.cell rfl
          have z1 : w8.cell? ⟨w7.heap.size, 1, none⟩ = some (.int .i64 dst) := HQ8.out.cell rfl
          have z2 : w8.cell? ⟨w7.heap.size, 2, none⟩ = some (.int .i64 sp) := HQ8.out.cell rfl
          have z3 : w8.cell? ⟨w7.heap.size, 3, none⟩ = some (.int .i64 dp) := HQ8.out.cell rfl
          have z4 : w8.cell? ⟨w7.heap.size, 4, none⟩ = some (.int .u32 (seq : Int)) := HQ8.out.cell rfl
          have z5 : w8.cell? ⟨w7.heap.size, 5, none⟩ = some (.int .u32 (ack : Int)) := HQ8.out.cell rfl
          have z6 : w8.cell? ⟨w7.heap.size, 6, none⟩ = some (.int .i64 fl) := HQ8.out.cell rfl
          have z7 : w8.cell? ⟨w7.heap.size, 7, none⟩ = some (.int .i64 wn) := HQ8.out.cell rfl
          have z8 : w8.cell? ⟨w7.heap.size, 8, none⟩ = some (.int .i64 0) := HQ8.out.cell rfl
          have z9 : w8.cell? ⟨w7.heap.size, 9, none⟩ = some (.int .i64 og) := HQ8.out.cell rfl
          have z10 : w8.cell? ⟨w7.heap.size, 10, none⟩ = some (.slice R3 n d3) := HQ8.out.cell rfl
          go_wp2_with fail
          refine (HEQ.out _ R6 R c6 cR HA8.out HC8.out).mono ?_
          rintro e w9 ⟨rfl, rfl⟩
          go_wp2_with fail
          refine (HSM.out _ R3 d3 HH8.out HD8.out).mono ?_
          rintro e w9 ⟨rfl, hb9⟩
          have HB9 := Lib.hid (ext_trans HB8.out hb9)
          clear hb9
          go_wp2_with fail
          refine (awake_calls _).mono ?_
          rintro e w2 ⟨rfl, hb⟩
          have HB := Lib.hid (ext_trans HB9.out hb)
          clear hb
          go_wp2
          go_ret
          exact ⟨rfl, HB.out⟩
    · have hok2 : okN (p.probe 0) n = false := by simpa using hok
      rw [hok2] at HCK
      have HCK0 : Hid (∀ W : World, Calls Try.prog 15 #[.agg ((p.probe 0).cs A n c).toArray] W fun e w' => e = .returned (.int .i64 40) ∧ Below W.heap.size W w') := HCK
      clear HCK h hin hn hok hok2 hc
      obtain ⟨src, dst, sp, dp, seq, ack, fl, wn, pr, og, data⟩ := p
      simp only [Pk.cs, Pk.probe] at HCK0 ⊢
      go_enter Try.func12, Try.ntmps12
      go_wp2_with fail
      refine (HCK0.out _).mono ?_
      rintro e w3 ⟨rfl, hb3⟩
      have HB3 := Lib.hid (ext_trans (ext_alloc _ _) hb3)
      clear hb3
      go_wp2_with fail
      refine (awake_calls _).mono ?_
      rintro e w2 ⟨rfl, hb⟩
      have HB := Lib.hid (ext_trans HB3.out hb)
      clear hb
      go_wp2
      go_ret
      exact ⟨rfl, HB.out⟩
end Go.Proofs.Ytobkelpeenckeaa
