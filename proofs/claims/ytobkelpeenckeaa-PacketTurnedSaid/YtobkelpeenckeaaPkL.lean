/- packet: Put, Get and Probed of packets that may be. -/
import Derived.Test.YtobkelpeenckeaaPkK
import Derived.Test.YtobkelpeenckeaaRowPk
namespace Go.Proofs.Ytobkelpeenckeaa
open Go.RowKit
set_option linter.unusedVariables false
set_option linter.unusedSimpArgs false

theorem putP_len (p : Pk) (n : Nat) (hn : p.data.length = n) (hok : okN p n = true) : 22 + n ≤ (putP p).length ∧ (putP p).length ≤ 10000 := by
  have h1 : n ≤ 128 := by
    unfold okN at hok
    simp only [Bool.and_eq_true, decide_eq_true_eq] at hok
    omega
  unfold putP
  rw [putL_length, hn, optL_length]
  constructor
  · omega
  · split <;> split <;> omega
theorem put_ok2 (p : Pk) (A : Option Addr) (n c : Nat) (hn : p.data.length = n) (hin : PkIn p) (hok : okN p n = true) (hc : n ≤ c) (W : World) (hr : RB W A p.data) :
    Calls Try.prog 14 #[.agg (p.cs A n c).toArray] W fun e w' => ∃ R cR, e = .returned (.tuple #[.slice R (putP p).length cR, .int .i64 0]) ∧ (putP p).length ≤ cR ∧ cR ≤ 9223372036854775807 ∧ RB w' R (putP p) ∧ Below W.heap.size W w' := by
  refine (put_good p A n c hn W hr hc hin.1 hin.2 hok).mono ?_
  rintro e w' ⟨R, m', cR, rfl, hm', ho, hb⟩
  obtain ⟨_, _, ea, hr2, hc2, hc3⟩ := ho.form
  injection ea with ea eb ec
  subst ea ec
  exact ⟨R, cR, by rw [hm'], hc2, Nat.le_trans hc3 (by decide), hr2, hb⟩
theorem get_ok2 (p : Pk) (n : Nat) (hn : p.data.length = n) (hin : PkIn p) (hok : okN p n = true) (W : World) (R : Option Addr) (cR : Nat) (hr : RB W R (putP p)) (h1 : (putP p).length ≤ cR) (h2 : cR ≤ 9223372036854775807) :
    Calls Try.prog 16 #[.slice R (putP p).length cR] W fun e w' => ∃ R3 d3, e = .returned (.tuple #[.agg (p.cs R3 n d3).toArray, .int .i64 0]) ∧ RB w' R3 p.data ∧ Below W.heap.size W w' := by
  have hl := putP_len p n hn hok
  refine (get_calls R cR _ (putP p) rfl W hr h1 h2 (by omega)).mono ?_
  rintro e w' ⟨R3, n3, d3, rfl, hn3, hnd3, ho3, hb3⟩
  rw [getP_put p hin.1 hin.2 (by unfold okP; rw [hn]; exact hok)] at hn3 ho3 ⊢
  obtain ⟨_, _, ea, hr2, _, _⟩ := ho3.form
  injection ea with ea eb ec
  subst ea
  rw [hn] at hn3
  subst hn3
  exact ⟨R3, d3, rfl, hr2, hb3⟩
theorem probed_ok2 (p : Pk) (k : Int) (n : Nat) (hn : p.data.length = n) (hin : PkIn p) (hok : okN p n = true) (hok2 : okN (p.probe k) n = true) (W : World) (R : Option Addr) (cR : Nat) (hr : RB W R (putP p)) (h1 : (putP p).length ≤ cR) (h2 : cR ≤ 9223372036854775807) :
    Calls Try.prog 29 #[.slice R (putP p).length cR, .int .i64 k] W fun e w' => ∃ R3 d3, e = .returned (.tuple #[.slice R3 (putP (p.probe k)).length d3, .int .i64 0]) ∧ (putP (p.probe k)).length ≤ d3 ∧ d3 ≤ 9223372036854775807 ∧ RB w' R3 (putP (p.probe k)) ∧ Below W.heap.size W w' := by
  have hl := putP_len p n hn hok
  refine (probed_calls R cR _ (putP p) rfl k W hr h1 h2 (by omega)).mono ?_
  rintro e w' ⟨R3, m, c, rfl, hm, hmc, hcm, ho, hb⟩
  have e : probedN (putP p) k = (putP (p.probe k), 0) := by
    unfold probedN
    rw [getP_put p hin.1 hin.2 (by unfold okP; rw [hn]; exact hok)]
    rw [if_neg (by simp), if_pos (by unfold okP; rw [show (p.probe k).data.length = n from hn]; exact hok2)]
  rw [e] at hm ho ⊢
  obtain ⟨_, _, ea, hr2, _, _⟩ := ho.form
  injection ea with ea eb ec
  subst ea
  dsimp only at hm
  subst hm
  exact ⟨R3, c, rfl, hmc, hcm, hr2, hb⟩
end Go.Proofs.Ytobkelpeenckeaa
