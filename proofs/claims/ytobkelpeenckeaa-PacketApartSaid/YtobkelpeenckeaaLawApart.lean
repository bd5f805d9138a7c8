/- The walk of the law PacketApart (printed by gentk.py). -/
import Derived.Test.YtobkelpeenckeaaPkI
import Derived.Test.YtobkelpeenckeaaPkJ
import Derived.Test.YtobkelpeenckeaaBytesEq
import Derived.Test.YtobkelpeenckeaaRowPk
namespace Go.Proofs.Ytobkelpeenckeaa
open Go.RowKit
set_option linter.unusedVariables false
set_option linter.unusedSimpArgs false

/-- What Put gives: bytes and 0, or 40. -/
def Outs (p : Pk) (n : Nat) (R : Option Addr) (m : Nat) (E : Int) (w : World) : Prop := E = 40 ∨ (E = 0 ∧ okN p n = true ∧ m = (putP p).length ∧ RB w R (putP p))
theorem put_any (p : Pk) (A : Option Addr) (n c : Nat) (hn : p.data.length = n) (w : World) (h : RB w A p.data) (hnc : n ≤ c) (hin : PkIn p) :
    Calls Try.prog 14 #[.agg (p.cs A n c).toArray] w fun e w' => ∃ R m cR E, e = .returned (.tuple #[.slice R m cR, .int .i64 E]) ∧ Outs p n R m E w' ∧ Below w.heap.size w w' := by
  by_cases hok : okN p n = true
  · refine (put_good p A n c hn w h hnc hin.1 hin.2 hok).mono ?_
    rintro e w' ⟨R, m, cR, rfl, hm, ho, hb⟩
    obtain ⟨_, _, ea, hr, _, _⟩ := ho.form
    injection ea with ea eb ec
    subst ea
    exact ⟨R, m, cR, 0, rfl, .inr ⟨rfl, hok, hm, hr⟩, hb⟩
  · refine (put_bad p A n c w (by simpa using hok)).mono ?_
    rintro e w' ⟨rfl, hb⟩
    exact ⟨none, 0, 0, 40, rfl, .inl rfl, hb⟩
theorem put_inj {p q : Pk} (hp : PkIn p) (hq : PkIn q) (op : okP p = true) (oq : okP q = true) : (putP p == putP q) = sameP p q := by
  have h1 := getP_put p hp.1 hp.2 op
  have h2 := getP_put q hq.1 hq.2 oq
  by_cases h : putP p = putP q
  · rw [h] at h1
    have : p = q := (Prod.mk.inj (h1.symm.trans h2)).1
    subst this
    rw [sameP_self, beq_self_eq_true]
  · rw [beq_eq_false_iff_ne.2 h]
    cases hs : sameP p q with
    | false => rfl
    | true => exact absurd (congrArg putP ((sameP_iff p q).1 hs)) h
set_option maxRecDepth 100000 in
set_option maxHeartbeats 2000000 in
theorem apart_walk (w : World) (p : Pk) (A : Option Addr) (c : Nat) (h : RB w A p.data) (hc : p.data.length ≤ c) (hcm : c ≤ maxLen) (hin : PkIn p) (q : Pk) (B : Option Addr) (d : Nat) (k : RB w B q.data) (kc : q.data.length ≤ d) (kcm : d ≤ maxLen) (kin : PkIn q) :
    Calls Try.prog 10 #[.agg (p.cs A p.data.length c).toArray, .agg (q.cs B q.data.length d).toArray] w fun e w' => e = .returned (.bool true) ∧ Below w.heap.size w w' := by
  obtain ⟨n, hn⟩ : ∃ n, p.data.length = n := ⟨_, rfl⟩
  obtain ⟨m, hm⟩ : ∃ m, q.data.length = m := ⟨_, rfl⟩
  rw [hn] at hc ⊢
  rw [hm] at kc ⊢
  have HN := Lib.hid hn
  have HM := Lib.hid hm
  by_cases hs : 16384 < n ∨ 16384 < m
  · clear h k hin kin hn hm
    obtain ⟨src, dst, sp, dp, seq, ack, fl, wn, pr, og, data⟩ := p
    obtain ⟨src2, dst2, sp2, dp2, seq2, ack2, fl2, wn2, pr2, og2, data2⟩ := q
    simp only [Pk.cs]
    by_cases hs1 : 16384 < n
    · clear hs
      go_enter Try.func10, Try.ntmps10
      go_wp2_with fail
      refine (awake_calls _).mono ?_
      rintro e w2 ⟨rfl, hb⟩
      have HB := Lib.hid ((((Below.refl w.heap.size w).alloc (Nat.le_refl _) _).alloc (by simp) _).trans (hb.mono (by simp; omega)))
      clear hb
      go_wp2
      go_ret
      exact ⟨rfl, HB.out⟩
    · have hs2 : 16384 < m := by omega
      clear hs
      go_enter Try.func10, Try.ntmps10
      go_wp2_with fail
      refine (awake_calls _).mono ?_
      rintro e w2 ⟨rfl, hb⟩
      have HB := Lib.hid ((((Below.refl w.heap.size w).alloc (Nat.le_refl _) _).alloc (by simp) _).trans (hb.mono (by simp; omega)))
      clear hb
      go_wp2
      go_ret
      exact ⟨rfl, HB.out⟩
  · have hs1 : n ≤ 16384 := by omega
    have hs2 : m ≤ 16384 := by omega
    have HP := Lib.hid h
    have HQ := Lib.hid k
    have HPT : Hid (∀ W : World, RB W A p.data → Calls Try.prog 14 #[.agg (p.cs A n c).toArray] W fun e w' => ∃ R m cR E, e = .returned (.tuple #[.slice R m cR, .int .i64 E]) ∧ Outs p n R m E w' ∧ Below W.heap.size W w') := Lib.hid fun W hr => put_any p A n c hn W hr hc hin
    have HQT : Hid (∀ W : World, RB W B q.data → Calls Try.prog 14 #[.agg (q.cs B m d).toArray] W fun e w' => ∃ R m' cR E, e = .returned (.tuple #[.slice R m' cR, .int .i64 E]) ∧ Outs q m R m' E w' ∧ Below W.heap.size W w') := Lib.hid fun W hr => put_any q B m d hm W hr kc kin
    have HSM : Hid (∀ W : World, RB W A p.data → RB W B q.data → Calls Try.prog 17 #[.agg (p.cs A n c).toArray, .agg (q.cs B m d).toArray] W fun e w' => e = .returned (.bool (sameP p q)) ∧ Below W.heap.size W w') := Lib.hid fun W h1 h2 => same_n p q A B n c m d hn.symm hm.symm W h1 h2
    have HINJ : Hid (okN p n = true → okN q m = true → (putP p == putP q) = sameP p q) := Lib.hid fun h1 h2 => put_inj hin kin (by unfold okP; rw [hn]; exact h1) (by unfold okP; rw [hm]; exact h2)
    clear h k hin kin hn hm hc hcm kc kcm hs
    obtain ⟨SP, hSP⟩ : ∃ x, sameP p q = x := ⟨_, rfl⟩
    rw [hSP] at HSM HINJ
    clear hSP
    obtain ⟨Lp, hLp⟩ : ∃ x, putP p = x := ⟨_, rfl⟩
    obtain ⟨Lq, hLq⟩ : ∃ x, putP q = x := ⟨_, rfl⟩
    rw [hLp, hLq] at HINJ
    have HO1 : Hid (∀ R m' E w', Outs p n R m' E w' → E = 40 ∨ (E = 0 ∧ okN p n = true ∧ m' = Lp.length ∧ RB w' R Lp)) := Lib.hid fun R m' E w' o => by rw [← hLp]; exact o
    have HO2 : Hid (∀ R m' E w', Outs q m R m' E w' → E = 40 ∨ (E = 0 ∧ okN q m = true ∧ m' = Lq.length ∧ RB w' R Lq)) := Lib.hid fun R m' E w' o => by rw [← hLq]; exact o
    clear hLp hLq
    obtain ⟨src, dst, sp, dp, seq, ack, fl, wn, pr, og, data⟩ := p
    obtain ⟨src2, dst2, sp2, dp2, seq2, ack2, fl2, wn2, pr2, og2, data2⟩ := q
    dsimp only at HP HQ
    simp only [Pk.cs] at HPT HQT HSM ⊢
    go_enter Try.func10, Try.ntmps10
    go_wp2_with fail
    have HB0 : Hid (Below w.heap.size w ((w.alloc (.cells #[.int .i64 src, .int .i64 dst, .int .i64 sp, .int .i64 dp, .int .u32 (seq : Int), .int .u32 (ack : Int), .int .i64 fl, .int .i64 wn, .int .i64 pr, .int .i64 og, .slice A n c] 25)).alloc (.cells #[.int .i64 src2, .int .i64 dst2, .int .i64 sp2, .int .i64 dp2, .int .u32 (seq2 : Int), .int .u32 (ack2 : Int), .int .i64 fl2, .int .i64 wn2, .int .i64 pr2, .int .i64 og2, .slice B m d] 25))) := Lib.hid (((Below.refl w.heap.size w).alloc (Nat.le_refl _) _).alloc (by simp) _)
    refine (HPT.out _ (HP.out.ext HB0.out)).mono ?_
    rintro e w3 ⟨R, m1, cR, E1, rfl, ho, hb3⟩
    have HP3 : Hid (BK w3 w.heap.size 25 [.int .i64 src, .int .i64 dst, .int .i64 sp, .int .i64 dp, .int .u32 (seq : Int), .int .u32 (ack : Int), .int .i64 fl, .int .i64 wn, .int .i64 pr, .int .i64 og, .slice A n c]) := Lib.hid ((hb3.block w.heap.size (by simp; omega)).trans (heap_old (heap_end rfl _ _)))
    have HQ3 : Hid (BK w3 (w.heap.size + 1) 25 [.int .i64 src2, .int .i64 dst2, .int .i64 sp2, .int .i64 dp2, .int .u32 (seq2 : Int), .int .u32 (ack2 : Int), .int .i64 fl2, .int .i64 wn2, .int .i64 pr2, .int .i64 og2, .slice B m d]) := Lib.hid ((hb3.block (w.heap.size + 1) (by simp)).trans (heap_end (by simp) _ _))
    have HB3 := Lib.hid (HB0.out.trans (hb3.mono (by simp; omega)))
    have HE1 := Lib.hid (HO1.out _ _ _ _ ho)
    clear hb3 ho HB0 HPT HO1
    have z0 : w3.cell? ⟨w.heap.size + 1, 0, none⟩ = some (.int .i64 src2) := HQ3.out.cell rfl
    have z1 : w3.cell? ⟨w.heap.size + 1, 1, none⟩ = some (.int .i64 dst2) := HQ3.out.cell rfl
    have z2 : w3.cell? ⟨w.heap.size + 1, 2, none⟩ = some (.int .i64 sp2) := HQ3.out.cell rfl
    have z3 : w3.cell? ⟨w.heap.size + 1, 3, none⟩ = some (.int .i64 dp2) := HQ3.out.cell rfl
    have z4 : w3.cell? ⟨w.heap.size + 1, 4, none⟩ = some (.int .u32 (seq2 : Int)) := HQ3.out.cell rfl
    have z5 : w3.cell? ⟨w.heap.size + 1, 5, none⟩ = some (.int .u32 (ack2 : Int)) := HQ3.out.cell rfl
    have z6 : w3.cell? ⟨w.heap.size + 1, 6, none⟩ = some (.int .i64 fl2) := HQ3.out.cell rfl
    have z7 : w3.cell? ⟨w.heap.size + 1, 7, none⟩ = some (.int .i64 wn2) := HQ3.out.cell rfl
    have z8 : w3.cell? ⟨w.heap.size + 1, 8, none⟩ = some (.int .i64 pr2) := HQ3.out.cell rfl
    have z9 : w3.cell? ⟨w.heap.size + 1, 9, none⟩ = some (.int .i64 og2) := HQ3.out.cell rfl
    have z10 : w3.cell? ⟨w.heap.size + 1, 10, none⟩ = some (.slice B m d) := HQ3.out.cell rfl
    go_wp2_with fail
    refine (HQT.out _ (HQ.out.ext HB3.out)).mono ?_
    rintro e w4 ⟨R2, m2, cR2, E2, rfl, ho, hb4⟩
    have HE2 := Lib.hid (HO2.out _ _ _ _ ho)
    have HP4 := Lib.hid (HP3.out.ext hb4)
    have HQ4 := Lib.hid (HQ3.out.ext hb4)
    have HB4 := Lib.hid (ext_trans HB3.out hb4)
    have HX4 := Lib.hid hb4
    clear hb4 ho HQT HO2 HP3 HQ3 z0 z1 z2 z3 z4 z5 z6 z7 z8 z9 z10
    rcases HE1.out with e1 | ⟨e1, ok1, hm1, hr1⟩
    · subst e1
      clear HE1 HE2
      go_wp2_with fail
      refine (awake_calls _).mono ?_
      rintro e w5 ⟨rfl, hb⟩
      have HB := Lib.hid (ext_trans HB4.out hb)
      clear hb
      go_wp2
      go_ret
      exact ⟨rfl, HB.out⟩
    · subst e1
      have HR1 := Lib.hid (hr1.ext HX4.out)
      have HM1 := Lib.hid hm1
      have HK1 := Lib.hid ok1
      clear HE1 ok1 hm1 hr1
      rcases HE2.out with e2 | ⟨e2, ok2, hm2, hr2⟩
      · subst e2
        clear HE2
        go_wp2_with fail
        refine (awake_calls _).mono ?_
        rintro e w5 ⟨rfl, hb⟩
        have HB := Lib.hid (ext_trans HB4.out hb)
        clear hb
        go_wp2
        go_ret
        exact ⟨rfl, HB.out⟩
      · subst e2
        have HR2 := Lib.hid hr2
        have heq := HINJ.out HK1.out ok2
        have HEQ : Hid (∀ W : World, RB W R Lp → RB W R2 Lq → Calls Try.prog 26 #[.slice R m1 cR, .slice R2 m2 cR2] W fun e w' => e = .returned (.bool SP) ∧ W = w') := Lib.hid fun W h1 h2 => by
          have := equal_calls R R2 cR cR2 Lp Lq W h1 h2
          rw [heq, ← HM1.out, ← hm2] at this
          exact this
        clear HE2 ok2 hm2 hr2 heq
        go_upto_region 7 with fail
        refine wp_region_facts [[], [], [0, 1], [], [], [3, 4], [0, 1, 2, 3, 4, 5], [0, 1, 2, 3, 4, 5, 6], [0, 1, 2, 3, 4, 5, 6, 7], [0, 1, 2, 3, 4, 5, 6, 7, 8], [0, 1, 2, 3, 4, 5, 6, 7, 8, 9]]
          [fun u _ => u = .slice R m1 cR,
           fun u _ => u = .slice R2 m2 cR2,
           fun u _ => u = .bool SP,
           fun u _ => u = .agg #[.int .i64 src, .int .i64 dst, .int .i64 sp, .int .i64 dp, .int .u32 (seq : Int), .int .u32 (ack : Int), .int .i64 fl, .int .i64 wn, .int .i64 pr, .int .i64 og, .slice A n c],
           fun u _ => u = .agg #[.int .i64 src2, .int .i64 dst2, .int .i64 sp2, .int .i64 dp2, .int .u32 (seq2 : Int), .int .u32 (ack2 : Int), .int .i64 fl2, .int .i64 wn2, .int .i64 pr2, .int .i64 og2, .slice B m d],
           fun u _ => u = .bool SP,
           fun u _ => u = .bool true,
           fun u _ => u = .bool true,
           fun u _ => u = .bool true,
           fun u _ => u = .bool true,
           fun u _ => u = .bool true]
          (fun u => ⟨#[Value.agg #[Value.int IntKind.i64 src, Value.int IntKind.i64 dst, Value.int IntKind.i64 sp, Value.int IntKind.i64 dp, Value.int IntKind.u32 (seq : Int), Value.int IntKind.u32 (ack : Int), Value.int IntKind.i64 fl, Value.int IntKind.i64 wn, Value.int IntKind.i64 pr, Value.int IntKind.i64 og, Value.slice A n c], Value.agg #[Value.int IntKind.i64 src2, Value.int IntKind.i64 dst2, Value.int IntKind.i64 sp2, Value.int IntKind.i64 dp2, Value.int IntKind.u32 (seq2 : Int), Value.int IntKind.u32 (ack2 : Int), Value.int IntKind.i64 fl2, Value.int IntKind.i64 wn2, Value.int IntKind.i64 pr2, Value.int IntKind.i64 og2, Value.slice B m d], Value.pointer (some { block := w.heap.size, off := 0 }), Value.pointer (some { block := w.heap.size + 1, off := 0 }), u 10, Value.slice R m1 cR, Value.int IntKind.i64 0, Value.slice R2 m2 cR2, Value.int IntKind.i64 0, Value.pointer (some { block := w.heap.size, off := 10 }), Value.slice A n c, Value.int IntKind.i64 (n : Int), Value.bool (decide (16384 < (n : Int))), Value.bool (decide (16384 < (n : Int))), Value.pointer (some { block := w.heap.size + 1, off := 10 }), Value.slice B m d, Value.int IntKind.i64 (m : Int), Value.bool (decide (16384 < (m : Int))), Value.bool (decide (16384 < (n : Int)) || decide (16384 < (m : Int))), undef, Value.tuple #[Value.slice R m1 cR, Value.int IntKind.i64 0], Value.agg #[Value.int IntKind.i64 src, Value.int IntKind.i64 dst, Value.int IntKind.i64 sp, Value.int IntKind.i64 dp, Value.int IntKind.u32 (seq : Int), Value.int IntKind.u32 (ack : Int), Value.int IntKind.i64 fl, Value.int IntKind.i64 wn, Value.int IntKind.i64 pr, Value.int IntKind.i64 og, Value.slice A n c], Value.tuple #[Value.slice R m1 cR, Value.int IntKind.i64 0], Value.slice R m1 cR, Value.int IntKind.i64 0, Value.tuple #[Value.slice R2 m2 cR2, Value.int IntKind.i64 0], Value.agg #[Value.int IntKind.i64 src2, Value.int IntKind.i64 dst2, Value.int IntKind.i64 sp2, Value.int IntKind.i64 dp2, Value.int IntKind.u32 (seq2 : Int), Value.int IntKind.u32 (ack2 : Int), Value.int IntKind.i64 fl2, Value.int IntKind.i64 wn2, Value.int IntKind.i64 pr2, Value.int IntKind.i64 og2, Value.slice B m d], Value.tuple #[Value.slice R2 m2 cR2, Value.int IntKind.i64 0], Value.slice R2 m2 cR2, Value.int IntKind.i64 0, Value.int IntKind.i64 0, Value.bool false, Value.bool false, Value.int IntKind.i64 0, Value.bool false, Value.bool false, undef, u 0, u 1, u 2, u 3, u 4, u 5, u 6, u 7, u 8, u 9], []⟩)
          (fun j => [undef, undef, undef, undef, undef, undef, undef, undef, undef, undef, Value.bool false].getD j undef) (by kernel_rfl) (by kernel_rfl) (by kernel_rfl) rfl ⟨Mono.eq _, Mono.eq _, Mono.eq _, Mono.eq _, Mono.eq _, Mono.eq _, Mono.eq _, Mono.eq _, Mono.eq _, Mono.eq _, Mono.eq _, trivial⟩ ?_ ?_
        · refine ⟨?_, ?_, ?_, ?_, ?_, ?_, ?_, ?_, ?_, ?_, ?_, trivial⟩
          · intro u w2 hb hF J K hJ hK
            have HB2 := Lib.hid hb
            have HF := Lib.hid hF
            clear hb hF
            go_wp2
            exact hJ _ _ _ (Below.refl _ _) (rfl) (by simp [setU] <;> omega)
          · intro u w2 hb hF J K hJ hK
            have HB2 := Lib.hid hb
            have HF := Lib.hid hF
            clear hb hF
            go_wp2
            exact hJ _ _ _ (Below.refl _ _) (rfl) (by simp [setU] <;> omega)
          · intro u w2 hb hF J K hJ hK
            have HB2 := Lib.hid hb
            have HF := Lib.hid hF
            clear hb hF
            have f0 : u 0 = .slice R m1 cR := HF.out 0 (by decide)
            have f1 : u 1 = .slice R2 m2 cR2 := HF.out 1 (by decide)
            go_wp2_with fail
            refine (HEQ.out w2 (HR1.out.ext HB2.out) (HR2.out.ext HB2.out)).mono ?_
            rintro e w4 ⟨rfl, rfl⟩
            go_wp2
            exact hJ _ _ _ (Below.refl _ _) (rfl) (by simp [setU, f0, f1] <;> omega)
          · intro u w2 hb hF J K hJ hK
            have HB2 := Lib.hid hb
            have HF := Lib.hid hF
            clear hb hF
            have q0 : w2.cell? ⟨w.heap.size, 0, none⟩ = some (.int .i64 src) := (HP4.out.ext HB2.out).cell rfl
            have q1 : w2.cell? ⟨w.heap.size, 1, none⟩ = some (.int .i64 dst) := (HP4.out.ext HB2.out).cell rfl
            have q2 : w2.cell? ⟨w.heap.size, 2, none⟩ = some (.int .i64 sp) := (HP4.out.ext HB2.out).cell rfl
            have q3 : w2.cell? ⟨w.heap.size, 3, none⟩ = some (.int .i64 dp) := (HP4.out.ext HB2.out).cell rfl
            have q4 : w2.cell? ⟨w.heap.size, 4, none⟩ = some (.int .u32 (seq : Int)) := (HP4.out.ext HB2.out).cell rfl
            have q5 : w2.cell? ⟨w.heap.size, 5, none⟩ = some (.int .u32 (ack : Int)) := (HP4.out.ext HB2.out).cell rfl
            have q6 : w2.cell? ⟨w.heap.size, 6, none⟩ = some (.int .i64 fl) := (HP4.out.ext HB2.out).cell rfl
            have q7 : w2.cell? ⟨w.heap.size, 7, none⟩ = some (.int .i64 wn) := (HP4.out.ext HB2.out).cell rfl
            have q8 : w2.cell? ⟨w.heap.size, 8, none⟩ = some (.int .i64 pr) := (HP4.out.ext HB2.out).cell rfl
            have q9 : w2.cell? ⟨w.heap.size, 9, none⟩ = some (.int .i64 og) := (HP4.out.ext HB2.out).cell rfl
            have q10 : w2.cell? ⟨w.heap.size, 10, none⟩ = some (.slice A n c) := (HP4.out.ext HB2.out).cell rfl
            go_wp2
            exact hJ _ _ _ (Below.refl _ _) (rfl) (by simp [setU] <;> omega)
          · intro u w2 hb hF J K hJ hK
            have HB2 := Lib.hid hb
            have HF := Lib.hid hF
            clear hb hF
            have q0 : w2.cell? ⟨w.heap.size + 1, 0, none⟩ = some (.int .i64 src2) := (HQ4.out.ext HB2.out).cell rfl
            have q1 : w2.cell? ⟨w.heap.size + 1, 1, none⟩ = some (.int .i64 dst2) := (HQ4.out.ext HB2.out).cell rfl
            have q2 : w2.cell? ⟨w.heap.size + 1, 2, none⟩ = some (.int .i64 sp2) := (HQ4.out.ext HB2.out).cell rfl
            have q3 : w2.cell? ⟨w.heap.size + 1, 3, none⟩ = some (.int .i64 dp2) := (HQ4.out.ext HB2.out).cell rfl
            have q4 : w2.cell? ⟨w.heap.size + 1, 4, none⟩ = some (.int .u32 (seq2 : Int)) := (HQ4.out.ext HB2.out).cell rfl
            have q5 : w2.cell? ⟨w.heap.size + 1, 5, none⟩ = some (.int .u32 (ack2 : Int)) := (HQ4.out.ext HB2.out).cell rfl
            have q6 : w2.cell? ⟨w.heap.size + 1, 6, none⟩ = some (.int .i64 fl2) := (HQ4.out.ext HB2.out).cell rfl
            have q7 : w2.cell? ⟨w.heap.size + 1, 7, none⟩ = some (.int .i64 wn2) := (HQ4.out.ext HB2.out).cell rfl
            have q8 : w2.cell? ⟨w.heap.size + 1, 8, none⟩ = some (.int .i64 pr2) := (HQ4.out.ext HB2.out).cell rfl
            have q9 : w2.cell? ⟨w.heap.size + 1, 9, none⟩ = some (.int .i64 og2) := (HQ4.out.ext HB2.out).cell rfl
            have q10 : w2.cell? ⟨w.heap.size + 1, 10, none⟩ = some (.slice B m d) := (HQ4.out.ext HB2.out).cell rfl
            go_wp2
            exact hJ _ _ _ (Below.refl _ _) (rfl) (by simp [setU] <;> omega)
          · intro u w2 hb hF J K hJ hK
            have HB2 := Lib.hid hb
            have HF := Lib.hid hF
            clear hb hF
            have f3 : u 3 = .agg #[.int .i64 src, .int .i64 dst, .int .i64 sp, .int .i64 dp, .int .u32 (seq : Int), .int .u32 (ack : Int), .int .i64 fl, .int .i64 wn, .int .i64 pr, .int .i64 og, .slice A n c] := HF.out 3 (by decide)
            have f4 : u 4 = .agg #[.int .i64 src2, .int .i64 dst2, .int .i64 sp2, .int .i64 dp2, .int .u32 (seq2 : Int), .int .u32 (ack2 : Int), .int .i64 fl2, .int .i64 wn2, .int .i64 pr2, .int .i64 og2, .slice B m d] := HF.out 4 (by decide)
            go_wp2_with fail
            refine (HSM.out w2 ((HP.out.ext HB4.out).ext HB2.out) ((HQ.out.ext HB4.out).ext HB2.out)).mono ?_
            rintro e w4 ⟨rfl, hb4⟩
            have HB4 := Lib.hid hb4
            clear hb4
            go_wp2
            exact hJ _ _ _ (HB4.out) (rfl) (by simp [setU, f3, f4] <;> omega)
          · intro u w2 hb hF J K hJ hK
            have HB2 := Lib.hid hb
            have HF := Lib.hid hF
            clear hb hF
            have f2 : u 2 = .bool SP := HF.out 2 (by decide)
            have f5 : u 5 = .bool SP := HF.out 5 (by decide)
            go_wp2
            exact hJ _ _ _ (Below.refl _ _) (rfl) (by simp [setU, f2, f5] <;> omega)
          · intro u w2 hb hF J K hJ hK
            have HB2 := Lib.hid hb
            have HF := Lib.hid hF
            clear hb hF
            have f6 : u 6 = .bool true := HF.out 6 (by decide)
            go_wp2
            exact hJ _ _ _ (Below.refl _ _) (rfl) (by simp [setU, f6] <;> omega)
          · intro u w2 hb hF J K hJ hK
            have HB2 := Lib.hid hb
            have HF := Lib.hid hF
            clear hb hF
            have f7 : u 7 = .bool true := HF.out 7 (by decide)
            go_wp2_with fail
            refine (awake_calls w2).mono ?_
            rintro e w4 ⟨rfl, hb4⟩
            have HB4 := Lib.hid hb4
            clear hb4
            go_wp2
            exact hJ _ _ _ (HB4.out) (rfl) (by simp [setU, f7] <;> omega)
          · intro u w2 hb hF J K hJ hK
            have HB2 := Lib.hid hb
            have HF := Lib.hid hF
            clear hb hF
            have f7 : u 7 = .bool true := HF.out 7 (by decide)
            have f8 : u 8 = .bool true := HF.out 8 (by decide)
            go_wp2
            exact hJ _ _ _ (Below.refl _ _) (rfl) (by simp [setU, f7, f8] <;> omega)
          · intro u w2 hb hF J K hJ hK
            have HB2 := Lib.hid hb
            have HF := Lib.hid hF
            clear hb hF
            have f9 : u 9 = .bool true := HF.out 9 (by decide)
            go_wp2
            exact hJ _ _ _ (Below.refl _ _) (rfl) (by simp [setU, f9] <;> omega)
        · intro u w2 hb hF
          have HB2 := Lib.hid hb
          have f10 : u 10 = .bool true := hF 10 (by decide)
          clear hb hF
          have HB8 := Lib.hid (ext_trans HB4.out HB2.out)
          clear HB2
          dsimp only
          rw [f10]
          go_wp2
          go_ret
          exact ⟨rfl, HB8.out⟩
end Go.Proofs.Ytobkelpeenckeaa
