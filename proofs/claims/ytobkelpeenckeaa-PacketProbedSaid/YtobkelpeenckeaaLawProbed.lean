/- The walk of the law PacketProbed. -/
import Derived.Test.YtobkelpeenckeaaPkI
import Derived.Test.YtobkelpeenckeaaPkS
import Derived.Test.YtobkelpeenckeaaRowPk
import Derived.Test.YtobkelpeenckeaaBytesEq
namespace Go.Proofs.Ytobkelpeenckeaa
open Go.RowKit
set_option linter.unusedVariables false
set_option linter.unusedSimpArgs false

theorem probedN_len (l : List UInt8) (k : Int) : (probedN l k).1.length ≤ 10000 := by
  unfold probedN
  split
  · simp
  · split
    · rename_i h
      have h' := h
      unfold okP okN at h'
      simp only [Bool.and_eq_true, decide_eq_true_eq] at h'
      unfold putP
      rw [putL_length]
      have := optL_le ((getP l).1.probe k).pr.toNat ((getP l).1.probe k).og.toNat
      omega
    · simp
set_option maxRecDepth 100000 in
set_option maxHeartbeats 2000000 in
theorem lprobed_walk (w : World) (A : Option Addr) (c : Nat) (l : List UInt8) (h : RB w A l) (hc : l.length ≤ c) (hl : l.length ≤ 140737488351232) (hcm : c ≤ maxLen) (k : Int) (hk0 : -9223372036854775808 ≤ k) (hk1 : k ≤ 9223372036854775807) :
    Calls Try.prog 11 #[.slice A l.length c, .int .i64 k] w fun e w' => e = .returned (.bool true) ∧ Below w.heap.size w w' := by
  obtain ⟨n, hn⟩ : ∃ n, l.length = n := ⟨_, rfl⟩
  rw [hn] at hc hl ⊢
  have hcM : c ≤ 9223372036854775807 := Nat.le_trans hcm (by decide)
  by_cases hs : 16384 < n
  · clear h hn hcm
    go_enter Try.func11, Try.ntmps11
    go_wp2_with fail
    refine (awake_calls _).mono ?_
    rintro e w2 ⟨rfl, hb⟩
    have HB := Lib.hid hb
    clear hb
    go_wp2
    go_ret
    exact ⟨rfl, HB.out⟩
  · have H := Lib.hid h
    have HN := Lib.hid hn
    obtain ⟨Q, hQ⟩ : ∃ Q, probedN l k = Q := ⟨_, rfl⟩
    have hql := probedN_len l k
    rw [hQ] at hql
    obtain ⟨L, E⟩ := Q
    dsimp only at hql
    obtain ⟨m, hm⟩ : ∃ m, L.length = m := ⟨_, rfl⟩
    have HPR : Hid (∀ (W : World) (R : Option Addr) (d : Nat), RB W R l → n ≤ d → d ≤ 9223372036854775807 → Calls Try.prog 29 #[.slice R n d, .int .i64 k] W fun e w' => ∃ R cR, e = .returned (.tuple #[.slice R m cR, .int .i64 E]) ∧ RB w' R L ∧ Below W.heap.size W w') := Lib.hid fun W R d hr hd hd2 => by
      refine (probed_calls R d n l hn k W hr hd hd2 (by omega)).mono ?_
      rintro e w' ⟨R', m', c', rfl, hm', _, _, ho, hb⟩
      rw [hQ] at hm' ho ⊢
      dsimp only at hm' ho ⊢
      rw [hm] at hm'
      subst hm'
      obtain ⟨_, _, ea, hr2, _, _⟩ := ho.form
      injection ea with ea
      rw [← ea] at hr2
      exact ⟨R', c', rfl, hr2, hb⟩
    have HRPR : Hid (∀ (W : World) (R : Option Addr) (d : Nat), RB W R l → n ≤ d → d ≤ 9223372036854775807 → Calls Try.prog 30 #[.slice R n d, .int .i64 k] W fun e w' => ∃ R cR, e = .returned (.tuple #[.slice R m cR, .int .i64 E]) ∧ RB w' R L ∧ Below W.heap.size W w') := Lib.hid fun W R d hr hd hd2 => by
      refine (rprobed_calls R d n l hn k W hr hd hd2 (by omega)).mono ?_
      rintro e w' ⟨R', m', c', rfl, hm', _, _, ho, hb⟩
      rw [hQ] at hm' ho ⊢
      dsimp only at hm' ho ⊢
      rw [hm] at hm'
      subst hm'
      obtain ⟨_, _, ea, hr2, _, _⟩ := ho.form
      injection ea with ea
      rw [← ea] at hr2
      exact ⟨R', c', rfl, hr2, hb⟩
    have HEQ : Hid (∀ (W : World) (R1 R2 : Option Addr) (d1 d2 : Nat), RB W R1 L → RB W R2 L → Calls Try.prog 26 #[.slice R1 m d1, .slice R2 m d2] W fun e w' => e = .returned (.bool true) ∧ W = w') := Lib.hid fun W R1 R2 d1 d2 h1 h2 => by
      have := equal_calls R1 R2 d1 d2 L L W h1 h2
      rw [hm, beq_self_eq_true] at this
      exact this
    have HEQ2 : Hid (∀ (W : World) (R1 R2 : Option Addr) (d1 d2 : Nat), RB W R1 l → RB W R2 l → Calls Try.prog 26 #[.slice R1 n d1, .slice R2 n d2] W fun e w' => e = .returned (.bool true) ∧ W = w') := Lib.hid fun W R1 R2 d1 d2 h1 h2 => by
      have := equal_calls R1 R2 d1 d2 l l W h1 h2
      rw [hn, beq_self_eq_true] at this
      exact this
    have hEE : (E == E) = true := beq_self_eq_true E
    clear h hn hQ hql hm hcm
    go_enter Try.func11, Try.ntmps11
    go_wp2_with fail
    refine (clone_n A c n l HN.out w H.out (by omega)).mono ?_
    rintro e w1 ⟨R1, d1, rfl, hnd1, hr1, ho1, hb1⟩
    have hd1 : d1 ≤ 9223372036854775807 := by
      obtain ⟨_, _, ea, _, _, hm⟩ := ho1.form
      injection ea with ea eb ec
      rw [ec]
      exact Nat.le_trans hm (by decide)
    have HR1 := Lib.hid hr1
    have HA1 := Lib.hid (H.out.ext hb1)
    have HB1 := Lib.hid hb1
    clear hr1 ho1 hb1
    go_wp2_with fail
    refine (HPR.out w1 R1 d1 HR1.out hnd1 hd1).mono ?_
    rintro e w2 ⟨R2, d2, rfl, hr2, hb2⟩
    have HR2 := Lib.hid hr2
    have HA2 := Lib.hid (HA1.out.ext hb2)
    have HG2 := Lib.hid (HR1.out.ext hb2)
    have HB2 := Lib.hid (ext_trans HB1.out hb2)
    clear hr2 hb2
    go_wp2_with fail
    refine (HRPR.out w2 A c HA2.out hc hcM).mono ?_
    rintro e w3 ⟨R3, d3, rfl, hr3, hb3⟩
    have HR3 := Lib.hid hr3
    have HL3 := Lib.hid (HR2.out.ext hb3)
    have HA3 := Lib.hid (HA2.out.ext hb3)
    have HG3 := Lib.hid (HG2.out.ext hb3)
    have HB3 := Lib.hid (ext_trans HB2.out hb3)
    clear hr3 hb3
    go_wp2_with fail
    refine (HEQ.out w3 R2 R3 d2 d3 HL3.out HR3.out).mono ?_
    rintro e w4 ⟨rfl, rfl⟩
    go_wp2_with fail
    refine (HEQ2.out w3 R1 A d1 c HG3.out HA3.out).mono ?_
    rintro e w4 ⟨rfl, rfl⟩
    go_wp2_with fail
    refine (awake_calls _).mono ?_
    rintro e w5 ⟨rfl, hb5⟩
    have HB5 := Lib.hid (ext_trans HB3.out hb5)
    clear hb5
    go_wp2
    go_ret
    exact ⟨rfl, HB5.out⟩
end Go.Proofs.Ytobkelpeenckeaa
