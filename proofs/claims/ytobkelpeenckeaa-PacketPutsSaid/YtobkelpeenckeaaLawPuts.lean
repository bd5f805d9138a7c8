/- The walk of the law PacketPuts. -/
import Derived.Test.YtobkelpeenckeaaPkI
import Derived.Test.YtobkelpeenckeaaPkP
import Derived.Test.YtobkelpeenckeaaRowPk
import Derived.Test.YtobkelpeenckeaaBytesEq
namespace Go.Proofs.Ytobkelpeenckeaa
open Go.RowKit
set_option linter.unusedVariables false
set_option linter.unusedSimpArgs false

def putE (p : Pk) : List UInt8 := if okP p = true then putP p else []
def putN (p : Pk) : Int := if okP p = true then 0 else 40
theorem putE_len (p : Pk) : (putE p).length ≤ 10000 := by
  unfold putE
  split
  · rename_i h
    have h' := h
    unfold okP okN at h'
    simp only [Bool.and_eq_true, decide_eq_true_eq] at h'
    unfold putP
    rw [putL_length]
    have := optL_le p.pr.toNat p.og.toNat
    omega
  · simp
theorem put_any (p : Pk) (A : Option Addr) (n c : Nat) (hn : p.data.length = n) (w : World) (h : RB w A p.data) (hnc : n ≤ c) (hin : PkIn p) :
    Calls Try.prog 14 #[.agg (p.cs A n c).toArray] w fun e w' => ∃ R m cR, e = .returned (.tuple #[.slice R m cR, .int .i64 (putN p)]) ∧ (putE p).length = m ∧ m ≤ cR ∧ cR ≤ 9223372036854775807 ∧ RB w' R (putE p) ∧ Below w.heap.size w w' := by
  cases hok : okN p n with
  | true =>
    have hok' : okP p = true := by unfold okP; rw [hn]; exact hok
    refine (put_good p A n c hn w h hnc hin.1 hin.2 hok).mono ?_
    rintro e w' ⟨R, m, cR, rfl, hm, ho, hb⟩
    obtain ⟨_, _, ea, hr2, hc2, hc3⟩ := ho.form
    injection ea with ea eb ec
    subst ea ec
    unfold putE putN
    rw [if_pos hok', if_pos hok']
    exact ⟨R, m, cR, rfl, hm.symm, by omega, Nat.le_trans hc3 (by decide), hr2, hb⟩
  | false =>
    have hok' : ¬ okP p = true := by unfold okP; rw [hn, hok]; decide
    refine (put_bad p A n c w hok).mono ?_
    rintro e w' ⟨rfl, hb⟩
    unfold putE putN
    rw [if_neg hok', if_neg hok']
    exact ⟨none, 0, 0, rfl, rfl, by omega, by omega, RB.nil _ _, hb⟩
theorem rput_any (p : Pk) (A : Option Addr) (n c : Nat) (hn : p.data.length = n) (hs : n ≤ 100000) (w : World) (h : RB w A p.data) (hnc : n ≤ c) (hin : PkIn p) :
    Calls Try.prog 25 #[.agg (p.cs A n c).toArray] w fun e w' => ∃ R m cR, e = .returned (.tuple #[.slice R m cR, .int .i64 (putN p)]) ∧ (putE p).length = m ∧ m ≤ cR ∧ cR ≤ 9223372036854775807 ∧ RB w' R (putE p) ∧ Below w.heap.size w w' := by
  cases hok : okN p n with
  | true =>
    have hok' : okP p = true := by unfold okP; rw [hn]; exact hok
    refine (rput_good p A n c hn w h hnc hin.1 hin.2 hok).mono ?_
    rintro e w' ⟨R, m, cR, rfl, hm, ho, hb⟩
    obtain ⟨_, _, ea, hr2, hc2, hc3⟩ := ho.form
    injection ea with ea eb ec
    subst ea ec
    unfold putE putN
    rw [if_pos hok', if_pos hok']
    exact ⟨R, m, cR, rfl, hm.symm, by omega, Nat.le_trans hc3 (by decide), hr2, hb⟩
  | false =>
    have hok' : ¬ okP p = true := by unfold okP; rw [hn, hok]; decide
    refine (rput_bad p A n c hs w hok).mono ?_
    rintro e w' ⟨rfl, hb⟩
    unfold putE putN
    rw [if_neg hok', if_neg hok']
    exact ⟨none, 0, 0, rfl, rfl, by omega, by omega, RB.nil _ _, hb⟩
set_option maxRecDepth 100000 in
set_option maxHeartbeats 2000000 in
theorem puts_walk (w : World) (p : Pk) (A : Option Addr) (c : Nat) (h : RB w A p.data) (hc : p.data.length ≤ c) (hcm : c ≤ maxLen) (hin : PkIn p) :
    Calls Try.prog 7 #[.agg (p.cs A p.data.length c).toArray] w fun e w' => e = .returned (.bool true) ∧ Below w.heap.size w w' := by
  by_cases hs : 16384 < p.data.length
  · clear h hin
    obtain ⟨src, dst, sp, dp, seq, ack, fl, wn, pr, og, data⟩ := p
    dsimp only at hs
    obtain ⟨n, hn⟩ : ∃ n, data.length = n := ⟨_, rfl⟩
    simp only [Pk.cs]
    rw [hn] at hs ⊢
    clear hn
    go_enter Try.func7, Try.ntmps7
    go_wp2_with fail
    refine (awake_calls _).mono ?_
    rintro e w2 ⟨rfl, hb⟩
    have HB := Lib.hid (ext_trans (ext_alloc _ _) hb)
    clear hb
    go_wp2
    go_ret
    exact ⟨rfl, HB.out⟩
  · obtain ⟨n, hn⟩ : ∃ n, p.data.length = n := ⟨_, rfl⟩
    rw [hn] at hs hc ⊢
    have HN := Lib.hid hn
    have H := Lib.hid h
    obtain ⟨E, hE⟩ : ∃ E, putN p = E := ⟨_, rfl⟩
    obtain ⟨L, hL⟩ : ∃ L, putE p = L := ⟨_, rfl⟩
    obtain ⟨m, hm⟩ : ∃ m, L.length = m := ⟨_, rfl⟩
    have hm1 : m ≤ 10000 := by rw [← hm, ← hL]; exact putE_len p
    have HM := Lib.hid hm
    have HPT : Hid (∀ (W : World) (R : Option Addr) (d : Nat), RB W R p.data → n ≤ d → Calls Try.prog 14 #[.agg (p.cs R n d).toArray] W fun e w' => ∃ R cR, e = .returned (.tuple #[.slice R m cR, .int .i64 E]) ∧ m ≤ cR ∧ RB w' R L ∧ Below W.heap.size W w') := Lib.hid fun W R d hr hd => by
      refine (put_any p R n d hn W hr hd hin).mono ?_
      rintro e w' ⟨R', m', cR, rfl, hm', h1, _, h3, h4⟩
      rw [hL] at hm' h3
      rw [hE]
      obtain rfl : m' = m := hm'.symm.trans hm
      exact ⟨R', cR, rfl, h1, h3, h4⟩
    have HRPT : Hid (∀ (W : World) (R : Option Addr) (d : Nat), RB W R p.data → n ≤ d → Calls Try.prog 25 #[.agg (p.cs R n d).toArray] W fun e w' => ∃ R cR, e = .returned (.tuple #[.slice R m cR, .int .i64 E]) ∧ m ≤ cR ∧ RB w' R L ∧ Below W.heap.size W w') := Lib.hid fun W R d hr hd => by
      refine (rput_any p R n d hn (by omega) W hr hd hin).mono ?_
      rintro e w' ⟨R', m', cR, rfl, hm', h1, _, h3, h4⟩
      rw [hL] at hm' h3
      rw [hE]
      obtain rfl : m' = m := hm'.symm.trans hm
      exact ⟨R', cR, rfl, h1, h3, h4⟩
    have hEN : (if okN p n = true then (0 : Int) else 40) = E := by rw [← hE]; unfold putN okP; rw [hn]
    have HCK : Hid (∀ (W : World) (R : Option Addr) (d : Nat), Calls Try.prog 15 #[.agg (p.cs R n d).toArray] W fun e w' => e = .returned (.int .i64 E) ∧ Below W.heap.size W w') := Lib.hid fun W R d => by
      have := check_n p R n d W
      rw [hEN] at this
      exact this
    have HRCK : Hid (∀ (W : World) (R : Option Addr) (d : Nat), Calls Try.prog 27 #[.agg (p.cs R n d).toArray] W fun e w' => e = .returned (.int .i64 E) ∧ Below W.heap.size W w') := Lib.hid fun W R d => by
      have := rcheck_n p R n d (by omega) W
      rw [hEN] at this
      exact this
    have HSM : Hid (∀ (W : World) (R3 : Option Addr) (d3 : Nat), RB W R3 p.data → RB W A p.data → Calls Try.prog 17 #[.agg (p.cs R3 n d3).toArray, .agg (p.cs A n c).toArray] W fun e w' => e = .returned (.bool true) ∧ Below W.heap.size W w') := Lib.hid fun W R3 d3 h1 h2 => by
      have := same_n p p R3 A n d3 n c HN.out.symm HN.out.symm W h1 h2
      rw [sameP_self] at this
      exact this
    have HEQ : Hid (∀ (W : World) (R1 R2 : Option Addr) (d1 d2 : Nat), RB W R1 L → RB W R2 L → Calls Try.prog 26 #[.slice R1 m d1, .slice R2 m d2] W fun e w' => e = .returned (.bool true) ∧ W = w') := Lib.hid fun W R1 R2 d1 d2 h1 h2 => by
      have := equal_calls R1 R2 d1 d2 L L W h1 h2
      rw [hm, beq_self_eq_true] at this
      exact this
    clear h hin hn hE hL hm hEN hcm
    obtain ⟨src, dst, sp, dp, seq, ack, fl, wn, pr, og, data⟩ := p
    simp only [Pk.cs] at HPT HRPT HCK HRCK HSM H HN ⊢
    have HP0 : Hid (BK (w.alloc (.cells #[.int .i64 src, .int .i64 dst, .int .i64 sp, .int .i64 dp, .int .u32 (seq : Int), .int .u32 (ack : Int), .int .i64 fl, .int .i64 wn, .int .i64 pr, .int .i64 og, .slice A n c] 25)) w.heap.size 25 [.int .i64 src, .int .i64 dst, .int .i64 sp, .int .i64 dp, .int .u32 (seq : Int), .int .u32 (ack : Int), .int .i64 fl, .int .i64 wn, .int .i64 pr, .int .i64 og, .slice A n c]) := Lib.hid (heap_end rfl _ _)
    go_enter Try.func7, Try.ntmps7
    go_wp2_with fail
    refine (clone_n A c n data HN.out _ (H.out.ext (ext_trans (ext_alloc _ _) (ext_alloc _ _))) (by omega)).mono ?_
    rintro e w3 ⟨R, d, rfl, hnd, hr3, ho3, hb3⟩
    obtain ⟨kp, hkp⟩ : ∃ k, w.heap.size = k := ⟨_, rfl⟩
    have HKP := Lib.hid hkp
    have hbA := ext_trans (ext_trans (ext_alloc w (.cells #[.int .i64 src, .int .i64 dst, .int .i64 sp, .int .i64 dp, .int .u32 (seq : Int), .int .u32 (ack : Int), .int .i64 fl, .int .i64 wn, .int .i64 pr, .int .i64 og, .slice A n c] 25)) (ext_alloc _ (.cells #[.int .i64 src, .int .i64 dst, .int .i64 sp, .int .i64 dp, .int .u32 (seq : Int), .int .u32 (ack : Int), .int .i64 fl, .int .i64 wn, .int .i64 pr, .int .i64 og, .slice A n c] 25))) hb3
    have HP3 : Hid (BK w3 kp 25 [.int .i64 src, .int .i64 dst, .int .i64 sp, .int .i64 dp, .int .u32 (seq : Int), .int .u32 (ack : Int), .int .i64 fl, .int .i64 wn, .int .i64 pr, .int .i64 og, .slice A n c]) := Lib.hid (hkp ▸ ((HP0.out.ext (ext_alloc _ (.cells #[.int .i64 src, .int .i64 dst, .int .i64 sp, .int .i64 dp, .int .u32 (seq : Int), .int .u32 (ack : Int), .int .i64 fl, .int .i64 wn, .int .i64 pr, .int .i64 og, .slice A n c] 25))).ext hb3))
    have HG3 : Hid (BK w3 (kp + 1) 25 [.int .i64 src, .int .i64 dst, .int .i64 sp, .int .i64 dp, .int .u32 (seq : Int), .int .u32 (ack : Int), .int .i64 fl, .int .i64 wn, .int .i64 pr, .int .i64 og, .slice A n c]) := Lib.hid (BK.ext (show BK _ _ _ _ from heap_end (by rw [size_alloc, hkp]) _ _) hb3)
    have HB3 : Hid (Below kp w w3) := Lib.hid (hkp ▸ hbA)
    have HR3 := Lib.hid hr3
    have ho3' := ho3.mono (base' := kp + 2) (by rw [size_alloc, size_alloc]; omega)
    have HO3 := Lib.hid ho3'
    have HA3 := Lib.hid (H.out.ext hbA)
    rw [hkp]
    clear hbA hr3 ho3 ho3' hb3 HP0 hkp
    have fz : w3.frozen? ⟨kp + 1, 10, none⟩ = false := HG3.out.frozen 10
    have z10 : w3.cell? ⟨kp + 1, 10, none⟩ = some (.slice A n c) := HG3.out.cell rfl
    go_upto_region 5 with fail
    have hgr := grown_setCell w3 (kp + 1) 10 (.slice R n d)
    refine name_world (fun w4 => BK w4 kp 25 [.int .i64 src, .int .i64 dst, .int .i64 sp, .int .i64 dp, .int .u32 (seq : Int), .int .u32 (ack : Int), .int .i64 fl, .int .i64 wn, .int .i64 pr, .int .i64 og, .slice A n c] ∧ BK w4 (kp + 1) 25 [.int .i64 src, .int .i64 dst, .int .i64 sp, .int .i64 dp, .int .u32 (seq : Int), .int .u32 (ack : Int), .int .i64 fl, .int .i64 wn, .int .i64 pr, .int .i64 og, .slice R n d] ∧ Below kp w w4 ∧ RB w4 R data ∧ RB w4 A data ∧ kp + 1 < w4.heap.size) ⟨HP3.out.same (Below.heap_setCell _ _ _ _ (by simp)), HG3.out.set 10 _, below_grown HB3.out hgr (by have := HP3.out.lt; omega) (by omega), ?_, ?_, by have := HG3.out.lt; simpa [World.setCell] using this⟩ ?_
    · refine HR3.out.grown hgr fun h0 => ?_
      obtain ⟨g1, c1, ev, hg1, _⟩ := HO3.out.block h0
      injection ev with eR em ec
      subst eR
      intro b o eb
      injection eb with eb
      injection eb with eb
      omega
    · refine HA3.out.grown hgr fun h0 => ?_
      obtain ⟨b0, o0, hA0, hc0⟩ := H.out 0 h0
      subst hA0
      have hlt := World.block_lt_of_cell? w _ hc0
      rw [HKP.out] at hlt
      intro b o eb
      injection eb with eb
      injection eb with eb
      simp at hlt
      omega
    clear hgr fz z10 HP3 HG3 HB3 HR3 HO3 HA3
    rintro w4 ⟨hp4, hg4, hb4, hr4, ha4, hz4⟩
    have HP4 := Lib.hid hp4
    have HG4 := Lib.hid hg4
    have HB4 := Lib.hid hb4
    have HR4 := Lib.hid hr4
    have HA4 := Lib.hid ha4
    clear hp4 hg4 hb4 hr4 ha4
    have z0 : w4.cell? ⟨kp + 1, 0, none⟩ = some (.int .i64 src) := HG4.out.cell rfl
    have z1 : w4.cell? ⟨kp + 1, 1, none⟩ = some (.int .i64 dst) := HG4.out.cell rfl
    have z2 : w4.cell? ⟨kp + 1, 2, none⟩ = some (.int .i64 sp) := HG4.out.cell rfl
    have z3 : w4.cell? ⟨kp + 1, 3, none⟩ = some (.int .i64 dp) := HG4.out.cell rfl
    have z4 : w4.cell? ⟨kp + 1, 4, none⟩ = some (.int .u32 (seq : Int)) := HG4.out.cell rfl
    have z5 : w4.cell? ⟨kp + 1, 5, none⟩ = some (.int .u32 (ack : Int)) := HG4.out.cell rfl
    have z6 : w4.cell? ⟨kp + 1, 6, none⟩ = some (.int .i64 fl) := HG4.out.cell rfl
    have z7 : w4.cell? ⟨kp + 1, 7, none⟩ = some (.int .i64 wn) := HG4.out.cell rfl
    have z8 : w4.cell? ⟨kp + 1, 8, none⟩ = some (.int .i64 pr) := HG4.out.cell rfl
    have z9 : w4.cell? ⟨kp + 1, 9, none⟩ = some (.int .i64 og) := HG4.out.cell rfl
    have z10 : w4.cell? ⟨kp + 1, 10, none⟩ = some (.slice R n d) := HG4.out.cell rfl
    go_wp2_with fail
    refine (HPT.out w4 R d HR4.out hnd).mono ?_
    rintro e w5 ⟨R5, c5, rfl, hmc5, hr5, hb5⟩
    have HP5 := Lib.hid (HP4.out.ext hb5)
    have HG5 := Lib.hid (HG4.out.ext hb5)
    have hz5 : kp ≤ w4.heap.size := by omega
    have HB5 := Lib.hid (HB4.out.trans (hb5.mono hz5))
    have HD5 := Lib.hid (HR4.out.ext hb5)
    have HA5 := Lib.hid (HA4.out.ext hb5)
    have HR5 := Lib.hid hr5
    have hz5' : kp + 1 < w5.heap.size := HG5.out.lt
    clear hr5 hb5 HP4 HG4 HB4 HR4 HA4
    clear z0 z1 z2 z3 z4 z5 z6 z7 z8 z9 z10
    have z0 : w5.cell? ⟨kp, 0, none⟩ = some (.int .i64 src) := HP5.out.cell rfl
    have z1 : w5.cell? ⟨kp, 1, none⟩ = some (.int .i64 dst) := HP5.out.cell rfl
    have z2 : w5.cell? ⟨kp, 2, none⟩ = some (.int .i64 sp) := HP5.out.cell rfl
    have z3 : w5.cell? ⟨kp, 3, none⟩ = some (.int .i64 dp) := HP5.out.cell rfl
    have z4 : w5.cell? ⟨kp, 4, none⟩ = some (.int .u32 (seq : Int)) := HP5.out.cell rfl
    have z5 : w5.cell? ⟨kp, 5, none⟩ = some (.int .u32 (ack : Int)) := HP5.out.cell rfl
    have z6 : w5.cell? ⟨kp, 6, none⟩ = some (.int .i64 fl) := HP5.out.cell rfl
    have z7 : w5.cell? ⟨kp, 7, none⟩ = some (.int .i64 wn) := HP5.out.cell rfl
    have z8 : w5.cell? ⟨kp, 8, none⟩ = some (.int .i64 pr) := HP5.out.cell rfl
    have z9 : w5.cell? ⟨kp, 9, none⟩ = some (.int .i64 og) := HP5.out.cell rfl
    have z10 : w5.cell? ⟨kp, 10, none⟩ = some (.slice A n c) := HP5.out.cell rfl
    go_wp2_with fail
    refine (HRPT.out w5 A c HA5.out hc).mono ?_
    rintro e w6 ⟨R6, c6, rfl, hmc6, hr6, hb6⟩
    have HP6 := Lib.hid (HP5.out.ext hb6)
    have HG6 := Lib.hid (HG5.out.ext hb6)
    have HB6 := Lib.hid (HB5.out.trans (hb6.mono (show kp ≤ w5.heap.size by omega)))
    have HD6 := Lib.hid (HD5.out.ext hb6)
    have HA6 := Lib.hid (HA5.out.ext hb6)
    have HR6 := Lib.hid (HR5.out.ext hb6)
    have HS6 := Lib.hid hr6
    have hz6 : kp + 1 < w6.heap.size := HG6.out.lt
    clear hr6 hb6 HP5 HG5 HB5 HD5 HA5 HR5 hz5' hz5 hz4 HPT HRPT
    clear z0 z1 z2 z3 z4 z5 z6 z7 z8 z9 z10
    go_upto_region 7 with fail
    set_option pp.deepTerms true in
    set_option pp.maxSteps 1000000 in
    refine wp_region_facts [[], [], [0, 1], [0, 1, 2], [0, 1, 2, 3], [0, 1, 2, 3], [0, 1, 2, 3, 4, 5], [0, 1, 2, 3, 4, 5, 6], [0, 1, 2, 3, 4, 5, 6, 7], [0, 1, 2, 3, 4, 5, 6, 7, 8], [0, 1, 2, 3, 4, 5, 6, 7, 8, 9], [0, 1, 2, 3, 4, 5, 6, 7, 8], [0, 1, 2, 3, 4, 5, 6, 7, 8, 11], [0, 1, 2, 3, 4, 5, 6, 7, 8, 9, 10, 11, 12], [0, 1, 2, 3, 4, 5, 6, 7, 8, 9, 10, 11, 12, 13], [0, 1, 2, 3, 4, 5, 6, 7, 8, 9, 10, 11, 12, 13, 14], [0, 1, 2, 3, 4, 5, 6, 7, 8, 9, 10, 11, 12, 13, 14, 15], [0, 1, 2, 3, 4, 5, 6, 7, 8, 9, 10, 11, 12, 13, 14, 15], [0, 1, 2, 3, 4, 5, 6, 7, 8, 9, 10, 11, 12, 13, 14, 15, 16, 17], [0, 1, 2, 3, 4, 5, 6, 7, 8, 9, 10, 11, 12, 13, 14, 15, 16, 17, 18], [0, 1, 2, 3, 4, 5, 6, 7, 8, 9, 10, 11, 12, 13, 14, 15, 16, 17, 18, 19], [0, 1, 2, 3, 4, 5, 6, 7, 8, 9, 10, 11, 12, 13, 14, 15, 16, 17, 18, 19, 20], [0, 1, 2, 3, 4, 5, 6, 7, 8, 9, 10, 11, 12, 13, 14, 15, 16, 17, 18, 19, 20, 21], [0, 1, 2, 3, 4, 5, 6, 7, 8, 9, 10, 11, 12, 13, 14, 15, 16, 17, 18, 19, 20, 21, 22]]
      [fun u _ => u = .slice R5 m c5,
       fun u _ => u = .slice R6 m c6,
       fun u _ => u = .bool true,
       fun u _ => u = .bool true,
       fun u _ => u = .int .i64 E,
       fun u _ => u = .int .i64 E,
       fun u _ => u = .bool true,
       fun u _ => u = .bool true,
       fun u _ => u = .bool true,
       fun u _ => u = .agg #[.int .i64 src, .int .i64 dst, .int .i64 sp, .int .i64 dp, .int .u32 (seq : Int), .int .u32 (ack : Int), .int .i64 fl, .int .i64 wn, .int .i64 pr, .int .i64 og, .slice R n d],
       fun u _ => u = .int .i64 E,
       fun u _ => u = .agg #[.int .i64 src, .int .i64 dst, .int .i64 sp, .int .i64 dp, .int .u32 (seq : Int), .int .u32 (ack : Int), .int .i64 fl, .int .i64 wn, .int .i64 pr, .int .i64 og, .slice A n c],
       fun u _ => u = .int .i64 E,
       fun u _ => u = .bool true,
       fun u _ => u = .bool true,
       fun u _ => u = .bool true,
       fun u _ => u = .agg #[.int .i64 src, .int .i64 dst, .int .i64 sp, .int .i64 dp, .int .u32 (seq : Int), .int .u32 (ack : Int), .int .i64 fl, .int .i64 wn, .int .i64 pr, .int .i64 og, .slice R n d],
       fun u _ => u = .agg #[.int .i64 src, .int .i64 dst, .int .i64 sp, .int .i64 dp, .int .u32 (seq : Int), .int .u32 (ack : Int), .int .i64 fl, .int .i64 wn, .int .i64 pr, .int .i64 og, .slice A n c],
       fun u _ => u = .bool true,
       fun u _ => u = .bool true,
       fun u _ => u = .bool true,
       fun u _ => u = .bool true,
       fun u _ => u = .bool true,
       fun u _ => u = .bool true]
      (fun u => ⟨#[Value.agg #[Value.int IntKind.i64 src, Value.int IntKind.i64 dst, Value.int IntKind.i64 sp, Value.int IntKind.i64 dp, Value.int IntKind.u32 (seq : Int), Value.int IntKind.u32 (ack : Int), Value.int IntKind.i64 fl, Value.int IntKind.i64 wn, Value.int IntKind.i64 pr, Value.int IntKind.i64 og, Value.slice A n c], Value.pointer (some { block := kp, off := 0 }), u 23, Value.pointer (some { block := kp + 1, off := 0 }), Value.slice R5 m c5, Value.int IntKind.i64 E, Value.slice R6 m c6, Value.int IntKind.i64 E, Value.pointer (some { block := kp, off := 10 }), Value.slice A n c, Value.int IntKind.i64 (n : Int), Value.bool (decide (16384 < (n : Int))), undef, Value.agg #[Value.int IntKind.i64 src, Value.int IntKind.i64 dst, Value.int IntKind.i64 sp, Value.int IntKind.i64 dp, Value.int IntKind.u32 (seq : Int), Value.int IntKind.u32 (ack : Int), Value.int IntKind.i64 fl, Value.int IntKind.i64 wn, Value.int IntKind.i64 pr, Value.int IntKind.i64 og, Value.slice A n c], Value.pointer (some { block := kp, off := 10 }), Value.slice A n c, Value.slice R n d, Value.pointer (some { block := kp + 1, off := 10 }), Value.tuple #[Value.slice R5 m c5, Value.int IntKind.i64 E], Value.agg #[Value.int IntKind.i64 src, Value.int IntKind.i64 dst, Value.int IntKind.i64 sp, Value.int IntKind.i64 dp, Value.int IntKind.u32 (seq : Int), Value.int IntKind.u32 (ack : Int), Value.int IntKind.i64 fl, Value.int IntKind.i64 wn, Value.int IntKind.i64 pr, Value.int IntKind.i64 og, Value.slice R n d], Value.tuple #[Value.slice R5 m c5, Value.int IntKind.i64 E], Value.slice R5 m c5, Value.int IntKind.i64 E, Value.tuple #[Value.slice R6 m c6, Value.int IntKind.i64 E], Value.agg #[Value.int IntKind.i64 src, Value.int IntKind.i64 dst, Value.int IntKind.i64 sp, Value.int IntKind.i64 dp, Value.int IntKind.u32 (seq : Int), Value.int IntKind.u32 (ack : Int), Value.int IntKind.i64 fl, Value.int IntKind.i64 wn, Value.int IntKind.i64 pr, Value.int IntKind.i64 og, Value.slice A n c], Value.tuple #[Value.slice R6 m c6, Value.int IntKind.i64 E], Value.slice R6 m c6, Value.int IntKind.i64 E, u 0, u 1, u 2, u 3, u 4, u 5, u 6, u 7, u 8, u 9, u 10, u 11, u 12, u 13, u 14, u 15, u 16, u 17, u 18, u 19, u 20, u 21, u 22], []⟩)
      (fun j => [undef, undef, undef, undef, undef, undef, undef, undef, undef, undef, undef, undef, undef, undef, undef, undef, undef, undef, undef, undef, undef, undef, undef, Value.bool false].getD j undef) (by kernel_rfl) (by kernel_rfl) (by kernel_rfl) rfl ⟨Mono.eq _, Mono.eq _, Mono.eq _, Mono.eq _, Mono.eq _, Mono.eq _, Mono.eq _, Mono.eq _, Mono.eq _, Mono.eq _, Mono.eq _, Mono.eq _, Mono.eq _, Mono.eq _, Mono.eq _, Mono.eq _, Mono.eq _, Mono.eq _, Mono.eq _, Mono.eq _, Mono.eq _, Mono.eq _, Mono.eq _, Mono.eq _, trivial⟩ ?_ ?_
    · refine ⟨?_, ?_, ?_, ?_, ?_, ?_, ?_, ?_, ?_, ?_, ?_, ?_, ?_, ?_, ?_, ?_, ?_, ?_, ?_, ?_, ?_, ?_, ?_, ?_, trivial⟩
      · intro u w2 hb hF J K hJ hK
        have HB2 := Lib.hid hb
        have HF := Lib.hid hF
        clear hb hF
        go_wp2
        exact hJ _ _ _ (Below.refl _ _) (rfl) (by simp [setU] <;> omega)
      · intro u w2 hb hF J K hJ hK
        have HB2 := Lib.hid hb
        have HF := Lib.hid hF
        clear hb hF
        go_wp2
        exact hJ _ _ _ (Below.refl _ _) (rfl) (by simp [setU] <;> omega)
      · intro u w2 hb hF J K hJ hK
        have HB2 := Lib.hid hb
        have HF := Lib.hid hF
        clear hb hF
        have f0 : u 0 = .slice R5 m c5 := HF.out 0 (by decide)
        have f1 : u 1 = .slice R6 m c6 := HF.out 1 (by decide)
        go_wp2_with fail
        refine (HEQ.out w2 R5 R6 c5 c6 (HR6.out.ext HB2.out) (HS6.out.ext HB2.out)).mono ?_
        rintro e w4 ⟨rfl, rfl⟩
        go_wp2
        exact hJ _ _ _ (Below.refl _ _) (rfl) (by simp [setU, f0, f1] <;> omega)
      · intro u w2 hb hF J K hJ hK
        have HB2 := Lib.hid hb
        have HF := Lib.hid hF
        clear hb hF
        have f2 : u 2 = .bool true := HF.out 2 (by decide)
        go_wp2
        exact hJ _ _ _ (Below.refl _ _) (rfl) (by simp [setU, f2] <;> omega)
      · intro u w2 hb hF J K hJ hK
        have HB2 := Lib.hid hb
        have HF := Lib.hid hF
        clear hb hF
        have f3 : u 3 = .bool true := HF.out 3 (by decide)
        go_wp2
        exact hJ _ _ _ (Below.refl _ _) (rfl) (by simp [setU, f3] <;> omega)
      · intro u w2 hb hF J K hJ hK
        have HB2 := Lib.hid hb
        have HF := Lib.hid hF
        clear hb hF
        have f3 : u 3 = .bool true := HF.out 3 (by decide)
        go_wp2
        exact hJ _ _ _ (Below.refl _ _) (rfl) (by simp [setU, f3] <;> omega)
      · intro u w2 hb hF J K hJ hK
        have HB2 := Lib.hid hb
        have HF := Lib.hid hF
        clear hb hF
        have f3 : u 3 = .bool true := HF.out 3 (by decide)
        have f4 : u 4 = .int .i64 E := HF.out 4 (by decide)
        have f5 : u 5 = .int .i64 E := HF.out 5 (by decide)
        go_wp2
        exact hJ _ _ _ (Below.refl _ _) (rfl) (by simp [setU, f3, f4, f5] <;> omega)
      · intro u w2 hb hF J K hJ hK
        have HB2 := Lib.hid hb
        have HF := Lib.hid hF
        clear hb hF
        have f3 : u 3 = .bool true := HF.out 3 (by decide)
        have f6 : u 6 = .bool true := HF.out 6 (by decide)
        go_wp2
        exact hJ _ _ _ (Below.refl _ _) (rfl) (by simp [setU, f3, f6] <;> omega)
      · intro u w2 hb hF J K hJ hK
        have HB2 := Lib.hid hb
        have HF := Lib.hid hF
        clear hb hF
        have f7 : u 7 = .bool true := HF.out 7 (by decide)
        go_wp2
        exact hJ _ _ _ (Below.refl _ _) (rfl) (by simp [setU, f7] <;> omega)
      · intro u w2 hb hF J K hJ hK
        have HB2 := Lib.hid hb
        have HF := Lib.hid hF
        clear hb hF
        have f8 : u 8 = .bool true := HF.out 8 (by decide)
        have q0 : w2.cell? ⟨kp + 1, 0, none⟩ = some (.int .i64 src) := (HG6.out.ext HB2.out).cell rfl
        have q1 : w2.cell? ⟨kp + 1, 1, none⟩ = some (.int .i64 dst) := (HG6.out.ext HB2.out).cell rfl
        have q2 : w2.cell? ⟨kp + 1, 2, none⟩ = some (.int .i64 sp) := (HG6.out.ext HB2.out).cell rfl
        have q3 : w2.cell? ⟨kp + 1, 3, none⟩ = some (.int .i64 dp) := (HG6.out.ext HB2.out).cell rfl
        have q4 : w2.cell? ⟨kp + 1, 4, none⟩ = some (.int .u32 (seq : Int)) := (HG6.out.ext HB2.out).cell rfl
        have q5 : w2.cell? ⟨kp + 1, 5, none⟩ = some (.int .u32 (ack : Int)) := (HG6.out.ext HB2.out).cell rfl
        have q6 : w2.cell? ⟨kp + 1, 6, none⟩ = some (.int .i64 fl) := (HG6.out.ext HB2.out).cell rfl
        have q7 : w2.cell? ⟨kp + 1, 7, none⟩ = some (.int .i64 wn) := (HG6.out.ext HB2.out).cell rfl
        have q8 : w2.cell? ⟨kp + 1, 8, none⟩ = some (.int .i64 pr) := (HG6.out.ext HB2.out).cell rfl
        have q9 : w2.cell? ⟨kp + 1, 9, none⟩ = some (.int .i64 og) := (HG6.out.ext HB2.out).cell rfl
        have q10 : w2.cell? ⟨kp + 1, 10, none⟩ = some (.slice R n d) := (HG6.out.ext HB2.out).cell rfl
        go_wp2
        exact hJ _ _ _ (Below.refl _ _) (rfl) (by simp [setU, f8] <;> omega)
      · intro u w2 hb hF J K hJ hK
        have HB2 := Lib.hid hb
        have HF := Lib.hid hF
        clear hb hF
        have f8 : u 8 = .bool true := HF.out 8 (by decide)
        have f9 : u 9 = .agg #[.int .i64 src, .int .i64 dst, .int .i64 sp, .int .i64 dp, .int .u32 (seq : Int), .int .u32 (ack : Int), .int .i64 fl, .int .i64 wn, .int .i64 pr, .int .i64 og, .slice R n d] := HF.out 9 (by decide)
        go_wp2_with fail
        refine (HCK.out w2 R d).mono ?_
        rintro e w4 ⟨rfl, hb4⟩
        have HB4 := Lib.hid hb4
        clear hb4
        go_wp2
        exact hJ _ _ _ (HB4.out) (rfl) (by simp [setU, f8, f9] <;> omega)
      · intro u w2 hb hF J K hJ hK
        have HB2 := Lib.hid hb
        have HF := Lib.hid hF
        clear hb hF
        have f8 : u 8 = .bool true := HF.out 8 (by decide)
        have q0 : w2.cell? ⟨kp, 0, none⟩ = some (.int .i64 src) := (HP6.out.ext HB2.out).cell rfl
        have q1 : w2.cell? ⟨kp, 1, none⟩ = some (.int .i64 dst) := (HP6.out.ext HB2.out).cell rfl
        have q2 : w2.cell? ⟨kp, 2, none⟩ = some (.int .i64 sp) := (HP6.out.ext HB2.out).cell rfl
        have q3 : w2.cell? ⟨kp, 3, none⟩ = some (.int .i64 dp) := (HP6.out.ext HB2.out).cell rfl
        have q4 : w2.cell? ⟨kp, 4, none⟩ = some (.int .u32 (seq : Int)) := (HP6.out.ext HB2.out).cell rfl
        have q5 : w2.cell? ⟨kp, 5, none⟩ = some (.int .u32 (ack : Int)) := (HP6.out.ext HB2.out).cell rfl
        have q6 : w2.cell? ⟨kp, 6, none⟩ = some (.int .i64 fl) := (HP6.out.ext HB2.out).cell rfl
        have q7 : w2.cell? ⟨kp, 7, none⟩ = some (.int .i64 wn) := (HP6.out.ext HB2.out).cell rfl
        have q8 : w2.cell? ⟨kp, 8, none⟩ = some (.int .i64 pr) := (HP6.out.ext HB2.out).cell rfl
        have q9 : w2.cell? ⟨kp, 9, none⟩ = some (.int .i64 og) := (HP6.out.ext HB2.out).cell rfl
        have q10 : w2.cell? ⟨kp, 10, none⟩ = some (.slice A n c) := (HP6.out.ext HB2.out).cell rfl
        go_wp2
        exact hJ _ _ _ (Below.refl _ _) (rfl) (by simp [setU, f8] <;> omega)
      · intro u w2 hb hF J K hJ hK
        have HB2 := Lib.hid hb
        have HF := Lib.hid hF
        clear hb hF
        have f8 : u 8 = .bool true := HF.out 8 (by decide)
        have f11 : u 11 = .agg #[.int .i64 src, .int .i64 dst, .int .i64 sp, .int .i64 dp, .int .u32 (seq : Int), .int .u32 (ack : Int), .int .i64 fl, .int .i64 wn, .int .i64 pr, .int .i64 og, .slice A n c] := HF.out 11 (by decide)
        go_wp2_with fail
        refine (HRCK.out w2 A c).mono ?_
        rintro e w4 ⟨rfl, hb4⟩
        have HB4 := Lib.hid hb4
        clear hb4
        go_wp2
        exact hJ _ _ _ (HB4.out) (rfl) (by simp [setU, f8, f11] <;> omega)
      · intro u w2 hb hF J K hJ hK
        have HB2 := Lib.hid hb
        have HF := Lib.hid hF
        clear hb hF
        have f8 : u 8 = .bool true := HF.out 8 (by decide)
        have f10 : u 10 = .int .i64 E := HF.out 10 (by decide)
        have f12 : u 12 = .int .i64 E := HF.out 12 (by decide)
        go_wp2
        exact hJ _ _ _ (Below.refl _ _) (rfl) (by simp [setU, f8, f10, f12] <;> omega)
      · intro u w2 hb hF J K hJ hK
        have HB2 := Lib.hid hb
        have HF := Lib.hid hF
        clear hb hF
        have f8 : u 8 = .bool true := HF.out 8 (by decide)
        have f13 : u 13 = .bool true := HF.out 13 (by decide)
        go_wp2
        exact hJ _ _ _ (Below.refl _ _) (rfl) (by simp [setU, f8, f13] <;> omega)
      · intro u w2 hb hF J K hJ hK
        have HB2 := Lib.hid hb
        have HF := Lib.hid hF
        clear hb hF
        have f14 : u 14 = .bool true := HF.out 14 (by decide)
        go_wp2
        exact hJ _ _ _ (Below.refl _ _) (rfl) (by simp [setU, f14] <;> omega)
      · intro u w2 hb hF J K hJ hK
        have HB2 := Lib.hid hb
        have HF := Lib.hid hF
        clear hb hF
        have f15 : u 15 = .bool true := HF.out 15 (by decide)
        have q0 : w2.cell? ⟨kp + 1, 0, none⟩ = some (.int .i64 src) := (HG6.out.ext HB2.out).cell rfl
        have q1 : w2.cell? ⟨kp + 1, 1, none⟩ = some (.int .i64 dst) := (HG6.out.ext HB2.out).cell rfl
        have q2 : w2.cell? ⟨kp + 1, 2, none⟩ = some (.int .i64 sp) := (HG6.out.ext HB2.out).cell rfl
        have q3 : w2.cell? ⟨kp + 1, 3, none⟩ = some (.int .i64 dp) := (HG6.out.ext HB2.out).cell rfl
        have q4 : w2.cell? ⟨kp + 1, 4, none⟩ = some (.int .u32 (seq : Int)) := (HG6.out.ext HB2.out).cell rfl
        have q5 : w2.cell? ⟨kp + 1, 5, none⟩ = some (.int .u32 (ack : Int)) := (HG6.out.ext HB2.out).cell rfl
        have q6 : w2.cell? ⟨kp + 1, 6, none⟩ = some (.int .i64 fl) := (HG6.out.ext HB2.out).cell rfl
        have q7 : w2.cell? ⟨kp + 1, 7, none⟩ = some (.int .i64 wn) := (HG6.out.ext HB2.out).cell rfl
        have q8 : w2.cell? ⟨kp + 1, 8, none⟩ = some (.int .i64 pr) := (HG6.out.ext HB2.out).cell rfl
        have q9 : w2.cell? ⟨kp + 1, 9, none⟩ = some (.int .i64 og) := (HG6.out.ext HB2.out).cell rfl
        have q10 : w2.cell? ⟨kp + 1, 10, none⟩ = some (.slice R n d) := (HG6.out.ext HB2.out).cell rfl
        go_wp2
        exact hJ _ _ _ (Below.refl _ _) (rfl) (by simp [setU, f15] <;> omega)
      · intro u w2 hb hF J K hJ hK
        have HB2 := Lib.hid hb
        have HF := Lib.hid hF
        clear hb hF
        have f15 : u 15 = .bool true := HF.out 15 (by decide)
        have q0 : w2.cell? ⟨kp, 0, none⟩ = some (.int .i64 src) := (HP6.out.ext HB2.out).cell rfl
        have q1 : w2.cell? ⟨kp, 1, none⟩ = some (.int .i64 dst) := (HP6.out.ext HB2.out).cell rfl
        have q2 : w2.cell? ⟨kp, 2, none⟩ = some (.int .i64 sp) := (HP6.out.ext HB2.out).cell rfl
        have q3 : w2.cell? ⟨kp, 3, none⟩ = some (.int .i64 dp) := (HP6.out.ext HB2.out).cell rfl
        have q4 : w2.cell? ⟨kp, 4, none⟩ = some (.int .u32 (seq : Int)) := (HP6.out.ext HB2.out).cell rfl
        have q5 : w2.cell? ⟨kp, 5, none⟩ = some (.int .u32 (ack : Int)) := (HP6.out.ext HB2.out).cell rfl
        have q6 : w2.cell? ⟨kp, 6, none⟩ = some (.int .i64 fl) := (HP6.out.ext HB2.out).cell rfl
        have q7 : w2.cell? ⟨kp, 7, none⟩ = some (.int .i64 wn) := (HP6.out.ext HB2.out).cell rfl
        have q8 : w2.cell? ⟨kp, 8, none⟩ = some (.int .i64 pr) := (HP6.out.ext HB2.out).cell rfl
        have q9 : w2.cell? ⟨kp, 9, none⟩ = some (.int .i64 og) := (HP6.out.ext HB2.out).cell rfl
        have q10 : w2.cell? ⟨kp, 10, none⟩ = some (.slice A n c) := (HP6.out.ext HB2.out).cell rfl
        go_wp2
        exact hJ _ _ _ (Below.refl _ _) (rfl) (by simp [setU, f15] <;> omega)
      · intro u w2 hb hF J K hJ hK
        have HB2 := Lib.hid hb
        have HF := Lib.hid hF
        clear hb hF
        have f15 : u 15 = .bool true := HF.out 15 (by decide)
        have f16 : u 16 = .agg #[.int .i64 src, .int .i64 dst, .int .i64 sp, .int .i64 dp, .int .u32 (seq : Int), .int .u32 (ack : Int), .int .i64 fl, .int .i64 wn, .int .i64 pr, .int .i64 og, .slice R n d] := HF.out 16 (by decide)
        have f17 : u 17 = .agg #[.int .i64 src, .int .i64 dst, .int .i64 sp, .int .i64 dp, .int .u32 (seq : Int), .int .u32 (ack : Int), .int .i64 fl, .int .i64 wn, .int .i64 pr, .int .i64 og, .slice A n c] := HF.out 17 (by decide)
        go_wp2_with fail
        refine (HSM.out w2 R d (HD6.out.ext HB2.out) (HA6.out.ext HB2.out)).mono ?_
        rintro e w4 ⟨rfl, hb4⟩
        have HB4 := Lib.hid hb4
        clear hb4
        go_wp2
        exact hJ _ _ _ (HB4.out) (rfl) (by simp [setU, f15, f16, f17] <;> omega)
      · intro u w2 hb hF J K hJ hK
        have HB2 := Lib.hid hb
        have HF := Lib.hid hF
        clear hb hF
        have f15 : u 15 = .bool true := HF.out 15 (by decide)
        have f18 : u 18 = .bool true := HF.out 18 (by decide)
        go_wp2
        exact hJ _ _ _ (Below.refl _ _) (rfl) (by simp [setU, f15, f18] <;> omega)
      · intro u w2 hb hF J K hJ hK
        have HB2 := Lib.hid hb
        have HF := Lib.hid hF
        clear hb hF
        have f19 : u 19 = .bool true := HF.out 19 (by decide)
        go_wp2
        exact hJ _ _ _ (Below.refl _ _) (rfl) (by simp [setU, f19] <;> omega)
      · intro u w2 hb hF J K hJ hK
        have HB2 := Lib.hid hb
        have HF := Lib.hid hF
        clear hb hF
        have f20 : u 20 = .bool true := HF.out 20 (by decide)
        go_wp2_with fail
        refine (awake_calls w2).mono ?_
        rintro e w4 ⟨rfl, hb4⟩
        have HB4 := Lib.hid hb4
        clear hb4
        go_wp2
        exact hJ _ _ _ (HB4.out) (rfl) (by simp [setU, f20] <;> omega)
      · intro u w2 hb hF J K hJ hK
        have HB2 := Lib.hid hb
        have HF := Lib.hid hF
        clear hb hF
        have f20 : u 20 = .bool true := HF.out 20 (by decide)
        have f21 : u 21 = .bool true := HF.out 21 (by decide)
        go_wp2
        exact hJ _ _ _ (Below.refl _ _) (rfl) (by simp [setU, f20, f21] <;> omega)
      · intro u w2 hb hF J K hJ hK
        have HB2 := Lib.hid hb
        have HF := Lib.hid hF
        clear hb hF
        have f22 : u 22 = .bool true := HF.out 22 (by decide)
        go_wp2
        exact hJ _ _ _ (Below.refl _ _) (rfl) (by simp [setU, f22] <;> omega)
    · intro u w2 hb hF
      have HB2 := Lib.hid hb
      have f23 : u 23 = .bool true := hF 23 (by decide)
      clear hb hF
      have HB8 := Lib.hid (HB6.out.trans (HB2.out.mono (show kp ≤ w6.heap.size by omega)))
      clear HB2
      dsimp only
      rw [f23]
      go_wp2
      go_ret
      exact ⟨rfl, by rw [HKP.out]; exact HB8.out⟩
end Go.Proofs.Ytobkelpeenckeaa
