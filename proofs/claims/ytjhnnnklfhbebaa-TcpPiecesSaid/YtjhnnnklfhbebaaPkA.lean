/- packet: a packet as a value; within, host, Check, lay, two, four, get2, get4: the walks. -/
import Derived.Test.YtjhnnnklfhbebaaClone
import Derived.Test.YtjhnnnklfhbebaaBlk
import Derived.Test.YtjhnnnklfhbebaaChecked
namespace Go.Proofs.Ytjhnnnklfhbebaa
open Go.RowKit
set_option linter.unusedVariables false

/-! ### plain -/
structure Pk where
  src : Int
  dst : Int
  sp : Int
  dp : Int
  seq : Nat
  ack : Nat
  fl : Int
  wn : Int
  pr : Int
  og : Int
  data : List UInt8
def Pk.zero : Pk := ⟨0, 0, 0, 0, 0, 0, 0, 0, 0, 0, []⟩
/-- Its cells; its data as a slice of n bytes at A. -/
def Pk.cs (p : Pk) (A : Option Addr) (n c : Nat) : List Value :=
  [.int .i64 p.src, .int .i64 p.dst, .int .i64 p.sp, .int .i64 p.dp, .int .u32 (p.seq : Int), .int .u32 (p.ack : Int), .int .i64 p.fl, .int .i64 p.wn, .int .i64 p.pr, .int .i64 p.og, .slice A n c]
def okN (p : Pk) (n : Nat) : Bool :=
  decide (1 ≤ p.src ∧ p.src ≤ 4) && (decide (1 ≤ p.dst ∧ p.dst ≤ 4) && (decide (p.src ≠ p.dst) && (decide (1 ≤ p.sp ∧ p.sp ≤ 65535) && (decide (1 ≤ p.dp ∧ p.dp ≤ 65535) && (decide (0 ≤ p.fl ∧ p.fl ≤ 15) && (decide (0 ≤ p.wn ∧ p.wn ≤ 65535) && (decide (0 ≤ p.pr ∧ p.pr ≤ 1099511627776) && (decide (0 ≤ p.og ∧ p.og ≤ 65535) && decide (n ≤ 128)))))))))
def okP (p : Pk) : Bool := okN p p.data.length

theorem within_calls (n hi : Int) (w : World) :
    Calls Try.prog 80 #[.int .i64 n, .int .i64 hi] w fun e w' => e = .returned (.bool (decide (0 ≤ n ∧ n ≤ hi))) ∧ w = w' := by
  by_cases h : 0 ≤ n
  · go_enter Try.func80, Try.ntmps80
    go_wp2
    go_ret
    exact ⟨by simp <;> omega, rfl⟩
  · go_enter Try.func80, Try.ntmps80
    go_wp2
    go_ret
    exact ⟨by simp <;> omega, rfl⟩
theorem host_calls (n : Int) (w : World) :
    Calls Try.prog 81 #[.int .i64 n] w fun e w' => e = .returned (.bool (decide (1 ≤ n ∧ n ≤ 4))) ∧ w = w' := by
  by_cases h : 1 ≤ n
  · go_enter Try.func81, Try.ntmps81
    go_wp2
    go_ret
    exact ⟨by simp <;> omega, rfl⟩
  · go_enter Try.func81, Try.ntmps81
    go_wp2
    go_ret
    exact ⟨by simp <;> omega, rfl⟩

set_option maxRecDepth 100000 in
set_option maxHeartbeats 2000000 in
theorem check_n (p : Pk) (A : Option Addr) (n c : Nat) (w : World) :
    Calls Try.prog 35 #[.agg (p.cs A n c).toArray] w fun e w' => e = .returned (.int .i64 (if okN p n then 0 else 40)) ∧ Below w.heap.size w w' := by
  obtain ⟨src, dst, sp, dp, seq, ack, fl, wn, pr, og, data⟩ := p
  obtain ⟨E, hE⟩ : ∃ E : Int, (if okN ⟨src, dst, sp, dp, seq, ack, fl, wn, pr, og, data⟩ n = true then (0 : Int) else 40) = E := ⟨_, rfl⟩
  rw [hE]
  have HE := Lib.hid hE
  clear hE
  simp only [Pk.cs]
  by_cases hsp1 : 1 ≤ sp
  · by_cases hsp2 : sp ≤ 65535
    · have fsp : decide (0 ≤ sp ∧ sp ≤ 65535) = true := decide_eq_true (by omega)
      by_cases hdp1 : 1 ≤ dp
      · by_cases hdp2 : dp ≤ 65535
        · have fdp : decide (0 ≤ dp ∧ dp ≤ 65535) = true := decide_eq_true (by omega)
          by_cases hsrc : 1 ≤ src ∧ src ≤ 4
          · have fsrc : decide (1 ≤ src ∧ src ≤ 4) = true := decide_eq_true hsrc
            by_cases hdst : 1 ≤ dst ∧ dst ≤ 4
            · have fdst : decide (1 ≤ dst ∧ dst ≤ 4) = true := decide_eq_true hdst
              by_cases heq : src ≠ dst
              · have eq0 : (src == dst) = false := beq_eq_false_iff_ne.2 heq
                by_cases hfl : 0 ≤ fl ∧ fl ≤ 15
                · have ffl : decide (0 ≤ fl ∧ fl ≤ 15) = true := decide_eq_true hfl
                  by_cases hwn : 0 ≤ wn ∧ wn ≤ 65535
                  · have fwn : decide (0 ≤ wn ∧ wn ≤ 65535) = true := decide_eq_true hwn
                    by_cases hpr : 0 ≤ pr ∧ pr ≤ 1099511627776
                    · have fpr : decide (0 ≤ pr ∧ pr ≤ 1099511627776) = true := decide_eq_true hpr
                      by_cases hog : 0 ≤ og ∧ og ≤ 65535
                      · have fog : decide (0 ≤ og ∧ og ≤ 65535) = true := decide_eq_true hog
                        by_cases hn : n ≤ 128
                        · skip
                          have HOK : Hid (E = 0) := Lib.hid (by rw [← HE.out]; unfold okN; dsimp only; rw [if_pos (by simp <;> omega)])
                          go_enter Try.func35, Try.ntmps35
                          go_wp2_with (first | (go_at_call 80; refine (within_calls _ _ _).mono ?_; rintro e w' ⟨rfl, rfl⟩; (first | rw [fsp] | rw [fdp] | rw [fsrc] | rw [fdst] | rw [feq] | rw [ffl] | rw [fwn] | rw [fpr] | rw [fog] | rw [fn])) | (go_at_call 81; refine (host_calls _ _).mono ?_; rintro e w' ⟨rfl, rfl⟩; (first | rw [fsp] | rw [fdp] | rw [fsrc] | rw [fdst] | rw [feq] | rw [ffl] | rw [fwn] | rw [fpr] | rw [fog] | rw [fn])))
                          go_ret
                          exact ⟨by rw [HOK.out]; rfl, ext_alloc _ _⟩
                        · skip
                          have HOK : Hid (E = 40) := Lib.hid (by rw [← HE.out]; unfold okN; dsimp only; rw [if_neg (by simp <;> omega)])
                          go_enter Try.func35, Try.ntmps35
                          go_wp2_with (first | (go_at_call 80; refine (within_calls _ _ _).mono ?_; rintro e w' ⟨rfl, rfl⟩; (first | rw [fsp] | rw [fdp] | rw [fsrc] | rw [fdst] | rw [feq] | rw [ffl] | rw [fwn] | rw [fpr] | rw [fog] | rw [fn])) | (go_at_call 81; refine (host_calls _ _).mono ?_; rintro e w' ⟨rfl, rfl⟩; (first | rw [fsp] | rw [fdp] | rw [fsrc] | rw [fdst] | rw [feq] | rw [ffl] | rw [fwn] | rw [fpr] | rw [fog] | rw [fn])))
                          go_ret
                          exact ⟨by rw [HOK.out]; rfl, ext_alloc _ _⟩
                      · have fog : decide (0 ≤ og ∧ og ≤ 65535) = false := decide_eq_false hog
                        have HOK : Hid (E = 40) := Lib.hid (by rw [← HE.out]; unfold okN; dsimp only; rw [if_neg (by simp <;> omega)])
                        go_enter Try.func35, Try.ntmps35
                        go_wp2_with (first | (go_at_call 80; refine (within_calls _ _ _).mono ?_; rintro e w' ⟨rfl, rfl⟩; (first | rw [fsp] | rw [fdp] | rw [fsrc] | rw [fdst] | rw [feq] | rw [ffl] | rw [fwn] | rw [fpr] | rw [fog])) | (go_at_call 81; refine (host_calls _ _).mono ?_; rintro e w' ⟨rfl, rfl⟩; (first | rw [fsp] | rw [fdp] | rw [fsrc] | rw [fdst] | rw [feq] | rw [ffl] | rw [fwn] | rw [fpr] | rw [fog])))
                        go_ret
                        exact ⟨by rw [HOK.out]; rfl, ext_alloc _ _⟩
                    · have fpr : decide (0 ≤ pr ∧ pr ≤ 1099511627776) = false := decide_eq_false hpr
                      have HOK : Hid (E = 40) := Lib.hid (by rw [← HE.out]; unfold okN; dsimp only; rw [if_neg (by simp <;> omega)])
                      go_enter Try.func35, Try.ntmps35
                      go_wp2_with (first | (go_at_call 80; refine (within_calls _ _ _).mono ?_; rintro e w' ⟨rfl, rfl⟩; (first | rw [fsp] | rw [fdp] | rw [fsrc] | rw [fdst] | rw [feq] | rw [ffl] | rw [fwn] | rw [fpr])) | (go_at_call 81; refine (host_calls _ _).mono ?_; rintro e w' ⟨rfl, rfl⟩; (first | rw [fsp] | rw [fdp] | rw [fsrc] | rw [fdst] | rw [feq] | rw [ffl] | rw [fwn] | rw [fpr])))
                      go_ret
                      exact ⟨by rw [HOK.out]; rfl, ext_alloc _ _⟩
                  · have fwn : decide (0 ≤ wn ∧ wn ≤ 65535) = false := decide_eq_false hwn
                    have HOK : Hid (E = 40) := Lib.hid (by rw [← HE.out]; unfold okN; dsimp only; rw [if_neg (by simp <;> omega)])
                    go_enter Try.func35, Try.ntmps35
                    go_wp2_with (first | (go_at_call 80; refine (within_calls _ _ _).mono ?_; rintro e w' ⟨rfl, rfl⟩; (first | rw [fsp] | rw [fdp] | rw [fsrc] | rw [fdst] | rw [feq] | rw [ffl] | rw [fwn])) | (go_at_call 81; refine (host_calls _ _).mono ?_; rintro e w' ⟨rfl, rfl⟩; (first | rw [fsp] | rw [fdp] | rw [fsrc] | rw [fdst] | rw [feq] | rw [ffl] | rw [fwn])))
                    go_ret
                    exact ⟨by rw [HOK.out]; rfl, ext_alloc _ _⟩
                · have ffl : decide (0 ≤ fl ∧ fl ≤ 15) = false := decide_eq_false hfl
                  have HOK : Hid (E = 40) := Lib.hid (by rw [← HE.out]; unfold okN; dsimp only; rw [if_neg (by simp <;> omega)])
                  go_enter Try.func35, Try.ntmps35
                  go_wp2_with (first | (go_at_call 80; refine (within_calls _ _ _).mono ?_; rintro e w' ⟨rfl, rfl⟩; (first | rw [fsp] | rw [fdp] | rw [fsrc] | rw [fdst] | rw [feq] | rw [ffl])) | (go_at_call 81; refine (host_calls _ _).mono ?_; rintro e w' ⟨rfl, rfl⟩; (first | rw [fsp] | rw [fdp] | rw [fsrc] | rw [fdst] | rw [feq] | rw [ffl])))
                  go_ret
                  exact ⟨by rw [HOK.out]; rfl, ext_alloc _ _⟩
              · have eq0 : (src == dst) = true := beq_iff_eq.2 (by omega)
                have HOK : Hid (E = 40) := Lib.hid (by rw [← HE.out]; unfold okN; dsimp only; rw [if_neg (by simp <;> omega)])
                go_enter Try.func35, Try.ntmps35
                go_wp2_with (first | (go_at_call 80; refine (within_calls _ _ _).mono ?_; rintro e w' ⟨rfl, rfl⟩; (first | rw [fsp] | rw [fdp] | rw [fsrc] | rw [fdst] | rw [feq])) | (go_at_call 81; refine (host_calls _ _).mono ?_; rintro e w' ⟨rfl, rfl⟩; (first | rw [fsp] | rw [fdp] | rw [fsrc] | rw [fdst] | rw [feq])))
                go_ret
                exact ⟨by rw [HOK.out]; rfl, ext_alloc _ _⟩
            · have fdst : decide (1 ≤ dst ∧ dst ≤ 4) = false := decide_eq_false hdst
              have HOK : Hid (E = 40) := Lib.hid (by rw [← HE.out]; unfold okN; dsimp only; rw [if_neg (by simp <;> omega)])
              go_enter Try.func35, Try.ntmps35
              go_wp2_with (first | (go_at_call 80; refine (within_calls _ _ _).mono ?_; rintro e w' ⟨rfl, rfl⟩; (first | rw [fsp] | rw [fdp] | rw [fsrc] | rw [fdst])) | (go_at_call 81; refine (host_calls _ _).mono ?_; rintro e w' ⟨rfl, rfl⟩; (first | rw [fsp] | rw [fdp] | rw [fsrc] | rw [fdst])))
              go_ret
              exact ⟨by rw [HOK.out]; rfl, ext_alloc _ _⟩
          · have fsrc : decide (1 ≤ src ∧ src ≤ 4) = false := decide_eq_false hsrc
            have HOK : Hid (E = 40) := Lib.hid (by rw [← HE.out]; unfold okN; dsimp only; rw [if_neg (by simp <;> omega)])
            go_enter Try.func35, Try.ntmps35
            go_wp2_with (first | (go_at_call 80; refine (within_calls _ _ _).mono ?_; rintro e w' ⟨rfl, rfl⟩; (first | rw [fsp] | rw [fdp] | rw [fsrc])) | (go_at_call 81; refine (host_calls _ _).mono ?_; rintro e w' ⟨rfl, rfl⟩; (first | rw [fsp] | rw [fdp] | rw [fsrc])))
            go_ret
            exact ⟨by rw [HOK.out]; rfl, ext_alloc _ _⟩
        · have fdp : decide (0 ≤ dp ∧ dp ≤ 65535) = false := decide_eq_false (by omega)
          by_cases hsrc : 1 ≤ src ∧ src ≤ 4
          · have fsrc : decide (1 ≤ src ∧ src ≤ 4) = true := decide_eq_true hsrc
            by_cases hdst : 1 ≤ dst ∧ dst ≤ 4
            · have fdst : decide (1 ≤ dst ∧ dst ≤ 4) = true := decide_eq_true hdst
              by_cases heq : src ≠ dst
              · have eq0 : (src == dst) = false := beq_eq_false_iff_ne.2 heq
                have HOK : Hid (E = 40) := Lib.hid (by rw [← HE.out]; unfold okN; dsimp only; rw [if_neg (by simp <;> omega)])
                go_enter Try.func35, Try.ntmps35
                go_wp2_with (first | (go_at_call 80; refine (within_calls _ _ _).mono ?_; rintro e w' ⟨rfl, rfl⟩; (first | rw [fsp] | rw [fdp] | rw [fsrc] | rw [fdst] | rw [feq])) | (go_at_call 81; refine (host_calls _ _).mono ?_; rintro e w' ⟨rfl, rfl⟩; (first | rw [fsp] | rw [fdp] | rw [fsrc] | rw [fdst] | rw [feq])))
                go_ret
                exact ⟨by rw [HOK.out]; rfl, ext_alloc _ _⟩
              · have eq0 : (src == dst) = true := beq_iff_eq.2 (by omega)
                have HOK : Hid (E = 40) := Lib.hid (by rw [← HE.out]; unfold okN; dsimp only; rw [if_neg (by simp <;> omega)])
                go_enter Try.func35, Try.ntmps35
                go_wp2_with (first | (go_at_call 80; refine (within_calls _ _ _).mono ?_; rintro e w' ⟨rfl, rfl⟩; (first | rw [fsp] | rw [fdp] | rw [fsrc] | rw [fdst] | rw [feq])) | (go_at_call 81; refine (host_calls _ _).mono ?_; rintro e w' ⟨rfl, rfl⟩; (first | rw [fsp] | rw [fdp] | rw [fsrc] | rw [fdst] | rw [feq])))
                go_ret
                exact ⟨by rw [HOK.out]; rfl, ext_alloc _ _⟩
            · have fdst : decide (1 ≤ dst ∧ dst ≤ 4) = false := decide_eq_false hdst
              have HOK : Hid (E = 40) := Lib.hid (by rw [← HE.out]; unfold okN; dsimp only; rw [if_neg (by simp <;> omega)])
              go_enter Try.func35, Try.ntmps35
              go_wp2_with (first | (go_at_call 80; refine (within_calls _ _ _).mono ?_; rintro e w' ⟨rfl, rfl⟩; (first | rw [fsp] | rw [fdp] | rw [fsrc] | rw [fdst])) | (go_at_call 81; refine (host_calls _ _).mono ?_; rintro e w' ⟨rfl, rfl⟩; (first | rw [fsp] | rw [fdp] | rw [fsrc] | rw [fdst])))
              go_ret
              exact ⟨by rw [HOK.out]; rfl, ext_alloc _ _⟩
          · have fsrc : decide (1 ≤ src ∧ src ≤ 4) = false := decide_eq_false hsrc
            have HOK : Hid (E = 40) := Lib.hid (by rw [← HE.out]; unfold okN; dsimp only; rw [if_neg (by simp <;> omega)])
            go_enter Try.func35, Try.ntmps35
            go_wp2_with (first | (go_at_call 80; refine (within_calls _ _ _).mono ?_; rintro e w' ⟨rfl, rfl⟩; (first | rw [fsp] | rw [fdp] | rw [fsrc])) | (go_at_call 81; refine (host_calls _ _).mono ?_; rintro e w' ⟨rfl, rfl⟩; (first | rw [fsp] | rw [fdp] | rw [fsrc])))
            go_ret
            exact ⟨by rw [HOK.out]; rfl, ext_alloc _ _⟩
      · skip
        by_cases hsrc : 1 ≤ src ∧ src ≤ 4
        · have fsrc : decide (1 ≤ src ∧ src ≤ 4) = true := decide_eq_true hsrc
          by_cases hdst : 1 ≤ dst ∧ dst ≤ 4
          · have fdst : decide (1 ≤ dst ∧ dst ≤ 4) = true := decide_eq_true hdst
            by_cases heq : src ≠ dst
            · have eq0 : (src == dst) = false := beq_eq_false_iff_ne.2 heq
              have HOK : Hid (E = 40) := Lib.hid (by rw [← HE.out]; unfold okN; dsimp only; rw [if_neg (by simp <;> omega)])
              go_enter Try.func35, Try.ntmps35
              go_wp2_with (first | (go_at_call 80; refine (within_calls _ _ _).mono ?_; rintro e w' ⟨rfl, rfl⟩; (first | rw [fsp] | rw [fsrc] | rw [fdst] | rw [feq])) | (go_at_call 81; refine (host_calls _ _).mono ?_; rintro e w' ⟨rfl, rfl⟩; (first | rw [fsp] | rw [fsrc] | rw [fdst] | rw [feq])))
              go_ret
              exact ⟨by rw [HOK.out]; rfl, ext_alloc _ _⟩
            · have eq0 : (src == dst) = true := beq_iff_eq.2 (by omega)
              have HOK : Hid (E = 40) := Lib.hid (by rw [← HE.out]; unfold okN; dsimp only; rw [if_neg (by simp <;> omega)])
              go_enter Try.func35, Try.ntmps35
              go_wp2_with (first | (go_at_call 80; refine (within_calls _ _ _).mono ?_; rintro e w' ⟨rfl, rfl⟩; (first | rw [fsp] | rw [fsrc] | rw [fdst] | rw [feq])) | (go_at_call 81; refine (host_calls _ _).mono ?_; rintro e w' ⟨rfl, rfl⟩; (first | rw [fsp] | rw [fsrc] | rw [fdst] | rw [feq])))
              go_ret
              exact ⟨by rw [HOK.out]; rfl, ext_alloc _ _⟩
          · have fdst : decide (1 ≤ dst ∧ dst ≤ 4) = false := decide_eq_false hdst
            have HOK : Hid (E = 40) := Lib.hid (by rw [← HE.out]; unfold okN; dsimp only; rw [if_neg (by simp <;> omega)])
            go_enter Try.func35, Try.ntmps35
            go_wp2_with (first | (go_at_call 80; refine (within_calls _ _ _).mono ?_; rintro e w' ⟨rfl, rfl⟩; (first | rw [fsp] | rw [fsrc] | rw [fdst])) | (go_at_call 81; refine (host_calls _ _).mono ?_; rintro e w' ⟨rfl, rfl⟩; (first | rw [fsp] | rw [fsrc] | rw [fdst])))
            go_ret
            exact ⟨by rw [HOK.out]; rfl, ext_alloc _ _⟩
        · have fsrc : decide (1 ≤ src ∧ src ≤ 4) = false := decide_eq_false hsrc
          have HOK : Hid (E = 40) := Lib.hid (by rw [← HE.out]; unfold okN; dsimp only; rw [if_neg (by simp <;> omega)])
          go_enter Try.func35, Try.ntmps35
          go_wp2_with (first | (go_at_call 80; refine (within_calls _ _ _).mono ?_; rintro e w' ⟨rfl, rfl⟩; (first | rw [fsp] | rw [fsrc])) | (go_at_call 81; refine (host_calls _ _).mono ?_; rintro e w' ⟨rfl, rfl⟩; (first | rw [fsp] | rw [fsrc])))
          go_ret
          exact ⟨by rw [HOK.out]; rfl, ext_alloc _ _⟩
    · have fsp : decide (0 ≤ sp ∧ sp ≤ 65535) = false := decide_eq_false (by omega)
      by_cases hsrc : 1 ≤ src ∧ src ≤ 4
      · have fsrc : decide (1 ≤ src ∧ src ≤ 4) = true := decide_eq_true hsrc
        by_cases hdst : 1 ≤ dst ∧ dst ≤ 4
        · have fdst : decide (1 ≤ dst ∧ dst ≤ 4) = true := decide_eq_true hdst
          by_cases heq : src ≠ dst
          · have eq0 : (src == dst) = false := beq_eq_false_iff_ne.2 heq
            have HOK : Hid (E = 40) := Lib.hid (by rw [← HE.out]; unfold okN; dsimp only; rw [if_neg (by simp <;> omega)])
            go_enter Try.func35, Try.ntmps35
            go_wp2_with (first | (go_at_call 80; refine (within_calls _ _ _).mono ?_; rintro e w' ⟨rfl, rfl⟩; (first | rw [fsp] | rw [fsrc] | rw [fdst] | rw [feq])) | (go_at_call 81; refine (host_calls _ _).mono ?_; rintro e w' ⟨rfl, rfl⟩; (first | rw [fsp] | rw [fsrc] | rw [fdst] | rw [feq])))
            go_ret
            exact ⟨by rw [HOK.out]; rfl, ext_alloc _ _⟩
          · have eq0 : (src == dst) = true := beq_iff_eq.2 (by omega)
            have HOK : Hid (E = 40) := Lib.hid (by rw [← HE.out]; unfold okN; dsimp only; rw [if_neg (by simp <;> omega)])
            go_enter Try.func35, Try.ntmps35
            go_wp2_with (first | (go_at_call 80; refine (within_calls _ _ _).mono ?_; rintro e w' ⟨rfl, rfl⟩; (first | rw [fsp] | rw [fsrc] | rw [fdst] | rw [feq])) | (go_at_call 81; refine (host_calls _ _).mono ?_; rintro e w' ⟨rfl, rfl⟩; (first | rw [fsp] | rw [fsrc] | rw [fdst] | rw [feq])))
            go_ret
            exact ⟨by rw [HOK.out]; rfl, ext_alloc _ _⟩
        · have fdst : decide (1 ≤ dst ∧ dst ≤ 4) = false := decide_eq_false hdst
          have HOK : Hid (E = 40) := Lib.hid (by rw [← HE.out]; unfold okN; dsimp only; rw [if_neg (by simp <;> omega)])
          go_enter Try.func35, Try.ntmps35
          go_wp2_with (first | (go_at_call 80; refine (within_calls _ _ _).mono ?_; rintro e w' ⟨rfl, rfl⟩; (first | rw [fsp] | rw [fsrc] | rw [fdst])) | (go_at_call 81; refine (host_calls _ _).mono ?_; rintro e w' ⟨rfl, rfl⟩; (first | rw [fsp] | rw [fsrc] | rw [fdst])))
          go_ret
          exact ⟨by rw [HOK.out]; rfl, ext_alloc _ _⟩
      · have fsrc : decide (1 ≤ src ∧ src ≤ 4) = false := decide_eq_false hsrc
        have HOK : Hid (E = 40) := Lib.hid (by rw [← HE.out]; unfold okN; dsimp only; rw [if_neg (by simp <;> omega)])
        go_enter Try.func35, Try.ntmps35
        go_wp2_with (first | (go_at_call 80; refine (within_calls _ _ _).mono ?_; rintro e w' ⟨rfl, rfl⟩; (first | rw [fsp] | rw [fsrc])) | (go_at_call 81; refine (host_calls _ _).mono ?_; rintro e w' ⟨rfl, rfl⟩; (first | rw [fsp] | rw [fsrc])))
        go_ret
        exact ⟨by rw [HOK.out]; rfl, ext_alloc _ _⟩
  · skip
    by_cases hsrc : 1 ≤ src ∧ src ≤ 4
    · have fsrc : decide (1 ≤ src ∧ src ≤ 4) = true := decide_eq_true hsrc
      by_cases hdst : 1 ≤ dst ∧ dst ≤ 4
      · have fdst : decide (1 ≤ dst ∧ dst ≤ 4) = true := decide_eq_true hdst
        by_cases heq : src ≠ dst
        · have eq0 : (src == dst) = false := beq_eq_false_iff_ne.2 heq
          have HOK : Hid (E = 40) := Lib.hid (by rw [← HE.out]; unfold okN; dsimp only; rw [if_neg (by simp <;> omega)])
          go_enter Try.func35, Try.ntmps35
          go_wp2_with (first | (go_at_call 80; refine (within_calls _ _ _).mono ?_; rintro e w' ⟨rfl, rfl⟩; (first | rw [fsrc] | rw [fdst] | rw [feq])) | (go_at_call 81; refine (host_calls _ _).mono ?_; rintro e w' ⟨rfl, rfl⟩; (first | rw [fsrc] | rw [fdst] | rw [feq])))
          go_ret
          exact ⟨by rw [HOK.out]; rfl, ext_alloc _ _⟩
        · have eq0 : (src == dst) = true := beq_iff_eq.2 (by omega)
          have HOK : Hid (E = 40) := Lib.hid (by rw [← HE.out]; unfold okN; dsimp only; rw [if_neg (by simp <;> omega)])
          go_enter Try.func35, Try.ntmps35
          go_wp2_with (first | (go_at_call 80; refine (within_calls _ _ _).mono ?_; rintro e w' ⟨rfl, rfl⟩; (first | rw [fsrc] | rw [fdst] | rw [feq])) | (go_at_call 81; refine (host_calls _ _).mono ?_; rintro e w' ⟨rfl, rfl⟩; (first | rw [fsrc] | rw [fdst] | rw [feq])))
          go_ret
          exact ⟨by rw [HOK.out]; rfl, ext_alloc _ _⟩
      · have fdst : decide (1 ≤ dst ∧ dst ≤ 4) = false := decide_eq_false hdst
        have HOK : Hid (E = 40) := Lib.hid (by rw [← HE.out]; unfold okN; dsimp only; rw [if_neg (by simp <;> omega)])
        go_enter Try.func35, Try.ntmps35
        go_wp2_with (first | (go_at_call 80; refine (within_calls _ _ _).mono ?_; rintro e w' ⟨rfl, rfl⟩; (first | rw [fsrc] | rw [fdst])) | (go_at_call 81; refine (host_calls _ _).mono ?_; rintro e w' ⟨rfl, rfl⟩; (first | rw [fsrc] | rw [fdst])))
        go_ret
        exact ⟨by rw [HOK.out]; rfl, ext_alloc _ _⟩
    · have fsrc : decide (1 ≤ src ∧ src ≤ 4) = false := decide_eq_false hsrc
      have HOK : Hid (E = 40) := Lib.hid (by rw [← HE.out]; unfold okN; dsimp only; rw [if_neg (by simp <;> omega)])
      go_enter Try.func35, Try.ntmps35
      go_wp2_with (first | (go_at_call 80; refine (within_calls _ _ _).mono ?_; rintro e w' ⟨rfl, rfl⟩; (first | rw [fsrc])) | (go_at_call 81; refine (host_calls _ _).mono ?_; rintro e w' ⟨rfl, rfl⟩; (first | rw [fsrc])))
      go_ret
      exact ⟨by rw [HOK.out]; rfl, ext_alloc _ _⟩
end Go.Proofs.Ytjhnnnklfhbebaa
