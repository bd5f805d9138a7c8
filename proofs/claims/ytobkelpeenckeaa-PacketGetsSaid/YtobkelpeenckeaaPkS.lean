/- The walk of flumeref04's Probed. -/
import Derived.Test.YtobkelpeenckeaaPkK
import Derived.Test.YtobkelpeenckeaaPkR
namespace Go.Proofs.Ytobkelpeenckeaa
open Go.RowKit
set_option linter.unusedVariables false
set_option linter.unusedSimpArgs false

theorem getP_len (l : List UInt8) : (getP l).1.data.length ≤ 128 := by
  unfold getP
  split
  · exact Nat.zero_le _
  · split
    · exact Nat.zero_le _
    · split
      · exact Nat.zero_le _
      · split
        · rename_i h
          have h1 := h.1
          unfold okN at h1
          simp only [Bool.and_eq_true, decide_eq_true_eq] at h1
          exact h1.2.2.2.2.2.2.2.2.2
        · exact Nat.zero_le _
set_option maxRecDepth 100000 in
set_option maxHeartbeats 2000000 in
theorem rprobed_calls (A : Option Addr) (c n : Nat) (l : List UInt8) (hn : l.length = n) (k : Int) (w : World) (h : RB w A l) (hc : n ≤ c) (hcm : c ≤ 9223372036854775807) (hl : n ≤ 100000) :
    Calls Try.prog 30 #[.slice A n c, .int .i64 k] w (Prb w l k) := by
  have H := Lib.hid h
  have HN := Lib.hid hn
  have hlt := getP_lt l
  have hlen := getP_len l
  have HP0 : Hid (∀ w', Below w.heap.size w w' → (getP l).2 ≠ 0 → Prb w l k (.returned (.tuple #[.slice none 0 0, .int .i64 (getP l).2])) w') := Lib.hid fun w' hb he => by
    have e : probedN l k = ([], (getP l).2) := by unfold probedN; rw [if_pos he]
    exact ⟨none, 0, 0, by rw [e], by rw [e]; rfl, Nat.le_refl _, Nat.zero_le _, by rw [e]; exact OwnB.nil _ _ _, hb⟩
  have HP1 : Hid (∀ w', Below w.heap.size w w' → (getP l).2 = 0 → okP ((getP l).1.probe k) = false → Prb w l k (.returned (.tuple #[.slice none 0 0, .int .i64 40])) w') := Lib.hid fun w' hb he ho => by
    have e : probedN l k = ([], 40) := by unfold probedN; rw [if_neg (by simpa using he), if_neg (by simp [ho])]
    exact ⟨none, 0, 0, by rw [e], by rw [e]; rfl, Nat.le_refl _, Nat.zero_le _, by rw [e]; exact OwnB.nil _ _ _, hb⟩
  have HP2 : Hid (∀ w' R m cR, Below w.heap.size w w' → (getP l).2 = 0 → okP ((getP l).1.probe k) = true → m = (putP ((getP l).1.probe k)).length → OwnB w.heap.size 5 w' (.slice R m cR) (putP ((getP l).1.probe k)) → Prb w l k (.returned (.tuple #[.slice R m cR, .int .i64 0])) w') := Lib.hid fun w' R m cR hb he ho hm hw => by
    have e : probedN l k = (putP ((getP l).1.probe k), 0) := by unfold probedN; rw [if_neg (by simpa using he), if_pos ho]
    obtain ⟨_, _, ea, _, h1, h2⟩ := hw.form
    injection ea with ea eb ec
    subst ec
    exact ⟨R, m, cR, by rw [e], by rw [e]; exact hm, by rw [eb]; exact h1, Nat.le_trans h2 (by decide), by rw [e]; exact hw, hb⟩
  clear h hn
  go_enter Try.func30, Try.ntmps30
  go_wp2_with fail
  refine (rget_calls A c n l HN.out w H.out hc hcm hl).mono ?_
  rintro e w3 ⟨R3, n3, d3, rfl, hn3, hnd3, ho3, hb3⟩
  obtain ⟨P, hP⟩ : ∃ P, getP l = P := ⟨_, rfl⟩
  rw [hP] at hn3 ho3 hlt hlen HP0 HP1 HP2 ⊢
  obtain ⟨P, E⟩ := P
  dsimp only at hn3 ho3 hlt hlen HP0 HP1 HP2 ⊢
  clear hP
  have hn100 : n3 ≤ 100000 := by omega
  have HO3 := Lib.hid ho3
  have HB3 := Lib.hid hb3
  have HN3 := Lib.hid hn3
  have HRD : Hid (RB w3 R3 P.data) := Lib.hid (by
    obtain ⟨_, _, ea, hr, _⟩ := ho3.form
    injection ea with ea
    rw [ea]
    exact hr)
  clear hn3 ho3 hb3
  have HPG : Hid (okP (P.probe k) = true → ∀ W : World, RB W R3 P.data → Calls Try.prog 25 #[.agg ((P.probe k).cs R3 n3 d3).toArray] W fun e w' => ∃ R m cR, e = .returned (.tuple #[.slice R m cR, .int .i64 0]) ∧ m = (putP (P.probe k)).length ∧ OwnB W.heap.size 5 w' (.slice R m cR) (putP (P.probe k)) ∧ Below W.heap.size W w') := Lib.hid fun ho W hr => rput_good (P.probe k) R3 n3 d3 HN3.out.symm W hr hnd3 hlt.1 hlt.2 (by have := ho; unfold okP at this; rw [HN3.out]; exact this)
  have HPB : Hid (okP (P.probe k) = false → ∀ W : World, Calls Try.prog 25 #[.agg ((P.probe k).cs R3 n3 d3).toArray] W fun e w' => e = .returned (.tuple #[.slice none 0 0, .int .i64 40]) ∧ Below W.heap.size W w') := Lib.hid fun ho W => rput_bad (P.probe k) R3 n3 d3 hn100 W (by have := ho; unfold okP at this; rw [HN3.out]; exact this)
  clear hlt hlen hnd3
  by_cases hE : E = 0
  · subst hE
    obtain ⟨OK, hOK⟩ : ∃ b, okP (P.probe k) = b := ⟨_, rfl⟩
    rw [hOK] at HPG HPB HP1 HP2
    obtain ⟨Q, hQ⟩ : ∃ Q, putP (P.probe k) = Q := ⟨_, rfl⟩
    rw [hQ] at HPG HP2
    clear hOK hQ HP0
    obtain ⟨src, dst, sp, dp, seq, ack, fl, wn, pr, og, data⟩ := P
    simp only [Pk.cs, Pk.probe] at HPG HPB HRD HO3 ⊢
    cases OK with
    | true =>
      go_wp2_with fail
      refine (HPG.out (by trivial) _ (HRD.out.ext (ext_alloc _ _))).mono ?_
      rintro e w5 ⟨R, m, cR, rfl, hm, ho, hb5⟩
      have HB5 := Lib.hid ((HB3.out.alloc HB3.out.size _).trans (hb5.mono (by have := HB3.out.size; simp; omega)))
      have hw5 := HP2.out w5 R m cR HB5.out (by trivial) (by trivial) hm (ho.mono (by have := HB3.out.size; simp; omega))
      have HW5 := Lib.hid hw5
      clear hb5 ho hm hw5
      go_wp2
      go_ret2
      exact HW5.out
    | false =>
      go_wp2_with fail
      refine (HPB.out (by trivial) _).mono ?_
      rintro e w5 ⟨rfl, hb5⟩
      have HB5 := Lib.hid ((HB3.out.alloc HB3.out.size _).trans (hb5.mono (by have := HB3.out.size; simp; omega)))
      have hw5 := HP1.out w5 HB5.out (by trivial) (by trivial)
      have HW5 := Lib.hid hw5
      clear hb5 hw5
      go_wp2
      go_ret2
      exact HW5.out
  · have e2 : (E == 0) = false := beq_eq_false_iff_ne.2 hE
    have hw5 := fun w' hb => HP0.out w' hb hE
    have HW5 := Lib.hid hw5
    have HBX := Lib.hid (HB3.out.alloc HB3.out.size (.cells (P.cs R3 n3 d3).toArray 25))
    clear hE hw5 HPG HPB HP0 HP1 HP2
    obtain ⟨src, dst, sp, dp, seq, ack, fl, wn, pr, og, data⟩ := P
    simp only [Pk.cs] at HBX ⊢
    go_wp2_with fail
    go_ret2
    exact HW5.out _ HBX.out
end Go.Proofs.Ytobkelpeenckeaa
