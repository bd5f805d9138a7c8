/- The walk of the law PacketForm. -/
import Derived.Test.YtobkelpeenckeaaPkI
import Derived.Test.YtobkelpeenckeaaBytesEq
namespace Go.Proofs.Ytobkelpeenckeaa
open Go.RowKit
set_option linter.unusedVariables false
set_option linter.unusedSimpArgs false

theorem getP_cases (l : List UInt8) : ((getP l).1 = Pk.zero ∧ (getP l).2 ≠ 0) ∨ ((getP l).2 = 0 ∧ okP (getP l).1 = true ∧ putP (getP l).1 = l ∧ (getP l).1.seq < 4294967296 ∧ (getP l).1.ack < 4294967296) := by
  unfold getP
  split
  · exact .inl ⟨rfl, by decide⟩
  · split
    · exact .inl ⟨rfl, by decide⟩
    · split
      · exact .inl ⟨rfl, by decide⟩
      · split
        · rename_i h
          exact .inr ⟨rfl, h.1, h.2, nb4_lt _ _, nb4_lt _ _⟩
        · exact .inl ⟨rfl, by decide⟩
set_option maxRecDepth 100000 in
set_option maxHeartbeats 2000000 in
theorem form_walk (w : World) (A : Option Addr) (c : Nat) (l : List UInt8) (h : RB w A l) (hc : l.length ≤ c) (hl : l.length ≤ 140737488351232) (hcm : c ≤ maxLen) :
    Calls Try.prog 9 #[.slice A l.length c] w fun e w' => e = .returned (.bool true) ∧ Below w.heap.size w w' := by
  by_cases hs : 16384 < l.length
  · clear h
    go_enter Try.func9, Try.ntmps9
    go_wp2_with fail
    refine (awake_calls w).mono ?_
    rintro e w2 ⟨rfl, hb⟩
    have HB := Lib.hid hb
    clear hb
    go_wp2
    go_ret
    exact ⟨rfl, HB.out⟩
  · have hcm' : c ≤ 9223372036854775807 := Nat.le_trans hcm (by decide)
    obtain ⟨n, hn⟩ : ∃ n, l.length = n := ⟨_, rfl⟩
    have H := Lib.hid h
    have HN := Lib.hid hn
    have hg := getP_cases l
    rw [hn] at hs hc hl ⊢
    have HG := Lib.hid hg
    clear h hn hg hcm
    go_enter Try.func9, Try.ntmps9
    go_wp2_with fail
    refine (get_calls A c n l HN.out w H.out hc hcm' (by omega)).mono ?_
    rintro e w3 ⟨R3, n3, d3, rfl, hn3, hnd3, ho3, hb3⟩
    obtain ⟨P, hP⟩ : ∃ P, getP l = P := ⟨_, rfl⟩
    rw [hP] at hn3 ho3 HG ⊢
    obtain ⟨P, E⟩ := P
    dsimp only at hn3 ho3 HG ⊢
    have HR3 := Lib.hid (H.out.ext hb3)
    have HO3 := Lib.hid ho3
    have HB3 := Lib.hid hb3
    have HN3 := Lib.hid hn3
    clear hn3 ho3 hb3 hP
    obtain ⟨k3, hk3⟩ : ∃ k, w3.heap.size = k := ⟨_, rfl⟩
    rcases HG.out with ⟨e0, e1⟩ | ⟨e0, h1, h2, h3, h4⟩
    · subst e0
      have hn30 : n3 = 0 := HN3.out
      subst hn30
      have HSM : Hid (∀ W : World, Calls Try.prog 17 #[.agg #[.int .i64 0, .int .i64 0, .int .i64 0, .int .i64 0, .int .u32 0, .int .u32 0, .int .i64 0, .int .i64 0, .int .i64 0, .int .i64 0, .slice R3 0 d3], .agg #[.int .i64 0, .int .i64 0, .int .i64 0, .int .i64 0, .int .u32 0, .int .u32 0, .int .i64 0, .int .i64 0, .int .i64 0, .int .i64 0, .slice none 0 0]] W fun e w' => e = .returned (.bool true) ∧ Below W.heap.size W w') := Lib.hid fun W => by
        have := same_n Pk.zero Pk.zero R3 none 0 d3 0 0 rfl rfl W (RB.nil _ _) (RB.nil _ _)
        rw [sameP_self] at this
        exact this
      have e2 : (E == 0) = false := beq_eq_false_iff_ne.2 e1
      clear HN3 HO3 HG HR3 hnd3 e1
      simp only [Pk.cs, Pk.zero]
      go_wp2_with fail
      refine (HSM.out _).mono ?_
      rintro e w4 ⟨rfl, hb4⟩
      have HB4 := Lib.hid ((HB3.out.alloc HB3.out.size _).trans (hb4.mono (by have := HB3.out.size; simp; omega)))
      clear hb4
      go_wp2_with fail
      refine (awake_calls _).mono ?_
      rintro e w5 ⟨rfl, hb5⟩
      have HB5 := Lib.hid (ext_trans HB4.out hb5)
      clear hb5
      go_wp2
      go_ret
      exact ⟨rfl, HB5.out⟩
    · subst e0
      have HPT : Hid (∀ W : World, RB W R3 P.data → Calls Try.prog 14 #[.agg (P.cs R3 n3 d3).toArray] W fun e w' => ∃ R m cR, e = .returned (.tuple #[.slice R m cR, .int .i64 0]) ∧ m = l.length ∧ OwnB W.heap.size 5 w' (.slice R m cR) l ∧ Below W.heap.size W w') := Lib.hid fun W hr => by
        have := put_good P R3 n3 d3 HN3.out.symm W hr hnd3 h3 h4 (by rw [HN3.out]; exact h1)
        rw [h2] at this
        exact this
      have HRD : Hid (RB w3 R3 P.data) := Lib.hid (by
        obtain ⟨_, _, ea, hr, _⟩ := HO3.out.form
        injection ea with ea
        rw [ea]
        exact hr)
      clear HN3 HO3 HG hnd3 h1 h2 h3 h4
      obtain ⟨src, dst, sp, dp, seq, ack, fl, wn, pr, og, data⟩ := P
      dsimp only at HRD
      simp only [Pk.cs] at HPT ⊢
      go_wp2_with fail
      refine (HPT.out _ (HRD.out.ext (ext_alloc _ _))).mono ?_
      rintro e w4 ⟨R4, m4, c4, rfl, hm4, ho4, hb4⟩
      have HB4 := Lib.hid ((HB3.out.alloc HB3.out.size _).trans (hb4.mono (by have := HB3.out.size; simp; omega)))
      have HR4 := Lib.hid ((HR3.out.ext (ext_alloc w3 _)).ext hb4)
      obtain ⟨_, _, ea, hr4, _⟩ := ho4.form
      injection ea with ea eb ec
      subst ea
      have HQ4 := Lib.hid hr4
      rw [HN.out] at hm4
      subst hm4
      clear ho4 hb4 hr4 eb ec
      have HEQ := Lib.hid (equal_calls A R4 c c4 l l w4 HR4.out HQ4.out)
      have heq := HEQ.out
      rw [HN.out] at heq
      have HEQ2 := Lib.hid heq
      clear HEQ heq
      go_wp2_with fail
      refine HEQ2.out.mono ?_
      rintro e w5 ⟨rfl, rfl⟩
      rw [show (l == l) = true from beq_self_eq_true l]
      go_wp2_with fail
      refine (awake_calls _).mono ?_
      rintro e w5 ⟨rfl, hb5⟩
      have HB5 := Lib.hid (ext_trans HB4.out hb5)
      clear hb5
      go_wp2
      go_ret
      exact ⟨rfl, HB5.out⟩
end Go.Proofs.Ytobkelpeenckeaa
