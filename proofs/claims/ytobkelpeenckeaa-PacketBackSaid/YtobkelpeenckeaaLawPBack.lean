/- The walk of the law PacketBack. -/
import Derived.Test.YtobkelpeenckeaaPkI
import Derived.Test.YtobkelpeenckeaaPkJ
import Derived.Test.YtobkelpeenckeaaRowPk
namespace Go.Proofs.Ytobkelpeenckeaa
open Go.RowKit
set_option linter.unusedVariables false
set_option linter.unusedSimpArgs false

theorem okN_len (p : Pk) (n : Nat) (h : okN p n = true) : n ≤ 128 := by
  unfold okN at h
  simp only [Bool.and_eq_true, decide_eq_true_eq] at h
  omega
set_option maxRecDepth 100000 in
set_option maxHeartbeats 2000000 in
theorem pback_walk (w : World) (p : Pk) (A : Option Addr) (c : Nat) (h : RB w A p.data) (hc : p.data.length ≤ c) (hcm : c ≤ maxLen) (hin : PkIn p) :
    Calls Try.prog 3 #[.agg (p.cs A p.data.length c).toArray] w fun e w' => e = .returned (.bool true) ∧ Below w.heap.size w w' := by
  by_cases hs : 16384 < p.data.length
  · clear h hin
    obtain ⟨src, dst, sp, dp, seq, ack, fl, wn, pr, og, data⟩ := p
    dsimp only at hs
    obtain ⟨n, hn⟩ : ∃ n, data.length = n := ⟨_, rfl⟩
    simp only [Pk.cs]
    rw [hn] at hs ⊢
    clear hn
    go_enter Try.func3, Try.ntmps3
    go_wp2_with fail
    refine (awake_calls _).mono ?_
    rintro e w2 ⟨rfl, hb⟩
    have HB := Lib.hid (ext_trans (ext_alloc _ _) hb)
    clear hb
    go_wp2
    go_ret
    exact ⟨rfl, HB.out⟩
  · obtain ⟨n, hn⟩ : ∃ n, p.data.length = n := ⟨_, rfl⟩
    rw [hn] at hs hc ⊢
    have HN := Lib.hid hn
    have H := Lib.hid h
    have HIN := Lib.hid hin
    have HC := Lib.hid hc
    have HCKP : Hid (∀ W : World, Calls Try.prog 15 #[.agg (p.cs A n c).toArray] W fun e w' => e = .returned (.int .i64 (if okN p n then 0 else 40)) ∧ Below W.heap.size W w') := Lib.hid (check_n p A n c)
    have hin' := hin
    clear h hin hc hn hcm
    by_cases hok : okN p n = true
    · have hput : ∃ m, (putP p).length = m ∧ 22 + n ≤ m ∧ m ≤ 10000 := ⟨_, rfl, by
        have := okN_len p n hok
        unfold putP
        rw [putL_length, HN.out, optL_length]
        constructor
        · omega
        · split <;> split <;> omega⟩
      obtain ⟨m, hm, hm1, hm2⟩ := hput
      have HM := Lib.hid hm
      have HPT : Hid (∀ W : World, RB W A p.data → Calls Try.prog 14 #[.agg (p.cs A n c).toArray] W fun e w' => ∃ R cR, e = .returned (.tuple #[.slice R m cR, .int .i64 0]) ∧ m ≤ cR ∧ cR ≤ 9223372036854775807 ∧ RB w' R (putP p) ∧ Below W.heap.size W w') := Lib.hid fun W hr => by
        refine (put_good p A n c HN.out W hr HC.out hin'.1 hin'.2 hok).mono ?_
        rintro e w' ⟨R, m', cR, rfl, hm', ho, hb⟩
        obtain ⟨_, _, ea, hr2, hc2, hc3⟩ := ho.form
        injection ea with ea eb ec
        subst ea ec
        refine ⟨R, cR, by rw [hm', hm], by rw [← hm]; exact hc2, Nat.le_trans hc3 (by decide), hr2, hb⟩
      have HGT : Hid (∀ (W : World) (R : Option Addr) (cR : Nat), RB W R (putP p) → m ≤ cR → cR ≤ 9223372036854775807 → Calls Try.prog 16 #[.slice R m cR] W fun e w' => ∃ R3 d3, e = .returned (.tuple #[.agg (p.cs R3 n d3).toArray, .int .i64 0]) ∧ RB w' R3 p.data ∧ Below W.heap.size W w') := Lib.hid fun W R cR hr h1 h2 => by
        refine (get_calls R cR m (putP p) HM.out W hr h1 h2 (by omega)).mono ?_
        rintro e w' ⟨R3, n3, d3, rfl, hn3, hnd3, ho3, hb3⟩
        rw [getP_put p hin'.1 hin'.2 (by unfold okP; rw [HN.out]; exact hok)] at hn3 ho3 ⊢
        obtain ⟨_, _, ea, hr2, _, _⟩ := ho3.form
        injection ea with ea eb ec
        subst ea
        rw [HN.out] at hn3
        subst hn3
        exact ⟨R3, d3, rfl, hr2, hb3⟩
      have HSM : Hid (∀ (W : World) (R3 : Option Addr) (d3 : Nat), RB W A p.data → RB W R3 p.data → Calls Try.prog 17 #[.agg (p.cs A n c).toArray, .agg (p.cs R3 n d3).toArray] W fun e w' => e = .returned (.bool true) ∧ Below W.heap.size W w') := Lib.hid fun W R3 d3 h1 h2 => by
        have := same_n p p A R3 n c n d3 HN.out.symm HN.out.symm W h1 h2
        rw [sameP_self] at this
        exact this
      clear hok hin' hm HCKP
      obtain ⟨src, dst, sp, dp, seq, ack, fl, wn, pr, og, data⟩ := p
      simp only [Pk.cs] at HPT HGT HSM H ⊢
      go_enter Try.func3, Try.ntmps3
      go_wp2_with fail
      refine (HPT.out _ (H.out.ext (ext_alloc _ _))).mono ?_
      rintro e w3 ⟨R, cR, rfl, hmc, hcR, hr3, hb3⟩
      have HP3 := Lib.hid ((hb3.block w.heap.size (by simp)).trans (heap_end rfl _ _))
      have HB3 := Lib.hid (ext_trans (ext_alloc _ _) hb3)
      have HR3 := Lib.hid hr3
      clear hb3 hr3
      go_wp2_with fail
      refine (HGT.out _ R cR HR3.out hmc hcR).mono ?_
      rintro e w4 ⟨R3, d3, rfl, hr4, hb4⟩
      have HP4 : Hid (BK w4 w.heap.size 25 [.int .i64 src, .int .i64 dst, .int .i64 sp, .int .i64 dp, .int .u32 (seq : Int), .int .u32 (ack : Int), .int .i64 fl, .int .i64 wn, .int .i64 pr, .int .i64 og, .slice A n c]) := Lib.hid (BK.ext (HP3.out : BK w3 w.heap.size 25 [.int .i64 src, .int .i64 dst, .int .i64 sp, .int .i64 dp, .int .u32 (seq : Int), .int .u32 (ack : Int), .int .i64 fl, .int .i64 wn, .int .i64 pr, .int .i64 og, .slice A n c]) hb4)
      have HB4 := Lib.hid (ext_trans HB3.out hb4)
      have HR4 := Lib.hid hr4
      clear hr4 hb4 HR3 HP3 HB3
      go_upto_region 7 with fail
      have hx := ext_alloc w4 (.cells #[.int .i64 src, .int .i64 dst, .int .i64 sp, .int .i64 dp, .int .u32 (seq : Int), .int .u32 (ack : Int), .int .i64 fl, .int .i64 wn, .int .i64 pr, .int .i64 og, .slice R3 n d3] 25)
      have HP5 := Lib.hid (HP4.out.ext hx)
      have HB5 := Lib.hid (ext_trans HB4.out hx)
      have HR5 := Lib.hid (HR4.out.ext hx)
      have HA5 := Lib.hid (H.out.ext HB5.out)
      have HQ5 : Hid (BK (w4.alloc (.cells #[.int .i64 src, .int .i64 dst, .int .i64 sp, .int .i64 dp, .int .u32 (seq : Int), .int .u32 (ack : Int), .int .i64 fl, .int .i64 wn, .int .i64 pr, .int .i64 og, .slice R3 n d3] 25)) w4.heap.size 25 [.int .i64 src, .int .i64 dst, .int .i64 sp, .int .i64 dp, .int .u32 (seq : Int), .int .u32 (ack : Int), .int .i64 fl, .int .i64 wn, .int .i64 pr, .int .i64 og, .slice R3 n d3]) := Lib.hid (heap_end rfl _ _)
      clear hx HP4 HB4 HR4
      generalize w4.alloc (.cells #[.int .i64 src, .int .i64 dst, .int .i64 sp, .int .i64 dp, .int .u32 (seq : Int), .int .u32 (ack : Int), .int .i64 fl, .int .i64 wn, .int .i64 pr, .int .i64 og, .slice R3 n d3] 25) = w5 at *
      have q0 : w5.cell? ⟨w.heap.size, 0, none⟩ = some (.int .i64 src) := HP5.out.cell rfl
      have q1 : w5.cell? ⟨w.heap.size, 1, none⟩ = some (.int .i64 dst) := HP5.out.cell rfl
      have q2 : w5.cell? ⟨w.heap.size, 2, none⟩ = some (.int .i64 sp) := HP5.out.cell rfl
      have q3 : w5.cell? ⟨w.heap.size, 3, none⟩ = some (.int .i64 dp) := HP5.out.cell rfl
      have q4 : w5.cell? ⟨w.heap.size, 4, none⟩ = some (.int .u32 (seq : Int)) := HP5.out.cell rfl
      have q5 : w5.cell? ⟨w.heap.size, 5, none⟩ = some (.int .u32 (ack : Int)) := HP5.out.cell rfl
      have q6 : w5.cell? ⟨w.heap.size, 6, none⟩ = some (.int .i64 fl) := HP5.out.cell rfl
      have q7 : w5.cell? ⟨w.heap.size, 7, none⟩ = some (.int .i64 wn) := HP5.out.cell rfl
      have q8 : w5.cell? ⟨w.heap.size, 8, none⟩ = some (.int .i64 pr) := HP5.out.cell rfl
      have q9 : w5.cell? ⟨w.heap.size, 9, none⟩ = some (.int .i64 og) := HP5.out.cell rfl
      have q10 : w5.cell? ⟨w.heap.size, 10, none⟩ = some (.slice A n c) := HP5.out.cell rfl
      have z0 : w5.cell? ⟨w4.heap.size, 0, none⟩ = some (.int .i64 src) := HQ5.out.cell rfl
      have z1 : w5.cell? ⟨w4.heap.size, 1, none⟩ = some (.int .i64 dst) := HQ5.out.cell rfl
      have z2 : w5.cell? ⟨w4.heap.size, 2, none⟩ = some (.int .i64 sp) := HQ5.out.cell rfl
      have z3 : w5.cell? ⟨w4.heap.size, 3, none⟩ = some (.int .i64 dp) := HQ5.out.cell rfl
      have z4 : w5.cell? ⟨w4.heap.size, 4, none⟩ = some (.int .u32 (seq : Int)) := HQ5.out.cell rfl
      have z5 : w5.cell? ⟨w4.heap.size, 5, none⟩ = some (.int .u32 (ack : Int)) := HQ5.out.cell rfl
      have z6 : w5.cell? ⟨w4.heap.size, 6, none⟩ = some (.int .i64 fl) := HQ5.out.cell rfl
      have z7 : w5.cell? ⟨w4.heap.size, 7, none⟩ = some (.int .i64 wn) := HQ5.out.cell rfl
      have z8 : w5.cell? ⟨w4.heap.size, 8, none⟩ = some (.int .i64 pr) := HQ5.out.cell rfl
      have z9 : w5.cell? ⟨w4.heap.size, 9, none⟩ = some (.int .i64 og) := HQ5.out.cell rfl
      have z10 : w5.cell? ⟨w4.heap.size, 10, none⟩ = some (.slice R3 n d3) := HQ5.out.cell rfl
      go_wp2_with fail
      refine (HSM.out _ R3 d3 HA5.out HR5.out).mono ?_
      rintro e w6 ⟨rfl, hb6⟩
      have HB6 := Lib.hid (ext_trans HB5.out hb6)
      have q10' : w6.cell? ⟨w.heap.size, 10, none⟩ = some (.slice A n c) := (HP5.out.ext hb6).cell rfl
      clear hb6
      go_wp2_with fail
      refine (awake_calls _).mono ?_
      rintro e w7 ⟨rfl, hb7⟩
      have HB7 := Lib.hid (ext_trans HB6.out hb7)
      clear hb7
      go_wp2
      go_ret
      exact ⟨rfl, HB7.out⟩
    · have hok' : okN p n = false := by simpa using hok
      rw [hok'] at HCKP
      have HPT : Hid (∀ W : World, Calls Try.prog 14 #[.agg (p.cs A n c).toArray] W fun e w' => e = .returned (.tuple #[.slice none 0 0, .int .i64 40]) ∧ Below W.heap.size W w') := Lib.hid fun W => put_bad p A n c W hok'
      have HCK : Hid (∀ W : World, Calls Try.prog 15 #[.agg (p.cs A n c).toArray] W fun e w' => e = .returned (.int .i64 40) ∧ Below W.heap.size W w') := HCKP
      clear hok hok' hin' HCKP
      obtain ⟨src, dst, sp, dp, seq, ack, fl, wn, pr, og, data⟩ := p
      simp only [Pk.cs] at HPT HCK ⊢
      go_enter Try.func3, Try.ntmps3
      go_wp2_with fail
      refine (HPT.out _).mono ?_
      rintro e w5 ⟨rfl, hb3⟩
      have HP5 : Hid (BK w5 w.heap.size 25 [.int .i64 src, .int .i64 dst, .int .i64 sp, .int .i64 dp, .int .u32 (seq : Int), .int .u32 (ack : Int), .int .i64 fl, .int .i64 wn, .int .i64 pr, .int .i64 og, .slice A n c]) := Lib.hid ((hb3.block w.heap.size (by simp)).trans (heap_end rfl _ _))
      have HB5 := Lib.hid (ext_trans (ext_alloc _ _) hb3)
      clear hb3
      have q0 : w5.cell? ⟨w.heap.size, 0, none⟩ = some (.int .i64 src) := HP5.out.cell rfl
      have q1 : w5.cell? ⟨w.heap.size, 1, none⟩ = some (.int .i64 dst) := HP5.out.cell rfl
      have q2 : w5.cell? ⟨w.heap.size, 2, none⟩ = some (.int .i64 sp) := HP5.out.cell rfl
      have q3 : w5.cell? ⟨w.heap.size, 3, none⟩ = some (.int .i64 dp) := HP5.out.cell rfl
      have q4 : w5.cell? ⟨w.heap.size, 4, none⟩ = some (.int .u32 (seq : Int)) := HP5.out.cell rfl
      have q5 : w5.cell? ⟨w.heap.size, 5, none⟩ = some (.int .u32 (ack : Int)) := HP5.out.cell rfl
      have q6 : w5.cell? ⟨w.heap.size, 6, none⟩ = some (.int .i64 fl) := HP5.out.cell rfl
      have q7 : w5.cell? ⟨w.heap.size, 7, none⟩ = some (.int .i64 wn) := HP5.out.cell rfl
      have q8 : w5.cell? ⟨w.heap.size, 8, none⟩ = some (.int .i64 pr) := HP5.out.cell rfl
      have q9 : w5.cell? ⟨w.heap.size, 9, none⟩ = some (.int .i64 og) := HP5.out.cell rfl
      have q10 : w5.cell? ⟨w.heap.size, 10, none⟩ = some (.slice A n c) := HP5.out.cell rfl
      go_wp2_with fail
      refine (HCK.out _).mono ?_
      rintro e w6 ⟨rfl, hb6⟩
      have HB6 := Lib.hid (ext_trans HB5.out hb6)
      clear hb6
      go_wp2_with fail
      refine (awake_calls _).mono ?_
      rintro e w7 ⟨rfl, hb7⟩
      have HB7 := Lib.hid (ext_trans HB6.out hb7)
      clear hb7
      go_wp2
      go_ret
      exact ⟨rfl, HB7.out⟩
end Go.Proofs.Ytobkelpeenckeaa
