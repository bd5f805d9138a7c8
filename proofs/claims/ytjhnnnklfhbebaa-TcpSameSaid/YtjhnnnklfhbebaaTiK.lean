/- An End compared with an End. -/
import Derived.Test.YtjhnnnklfhbebaaTiJ
namespace Go.Proofs.Ytjhnnnklfhbebaa
open Go.RowKit
theorem end_neq_run (a b c d e a' b' c' d' e' : Int) (f g f' g' : Bool) (W : World) :
    (Go.binOp .neq 56 (.agg #[.int .i64 a, .int .i64 b, .int .i64 c, .int .i64 d, .int .i64 e, .bool f, .bool g]) (.agg #[.int .i64 a', .int .i64 b', .int .i64 c', .int .i64 d', .int .i64 e', .bool f', .bool g'])).run Try.prog W =
      .ok (.bool (!(a == a' && (b == b' && (c == c' && (d == d' && (e == e' && (f == f' && g == g')))))))) W := by
  rw [Go.run_neq_struct, Go.run_equalIn_struct W 9999 56 _ _ (by kernel_rfl) (by kernel_rfl)]
  simp only [Program.fieldsOf, Try.underlying56]
  have p0 : (part 3 (#[.int .i64 a, .int .i64 b, .int .i64 c, .int .i64 d, .int .i64 e, .bool f, .bool g]) 0).run Try.prog W = .ok (.int .i64 a) W := by kernel_rfl
  have p1 : (part 3 (#[.int .i64 a, .int .i64 b, .int .i64 c, .int .i64 d, .int .i64 e, .bool f, .bool g]) 1).run Try.prog W = .ok (.int .i64 b) W := by kernel_rfl
  have p2 : (part 3 (#[.int .i64 a, .int .i64 b, .int .i64 c, .int .i64 d, .int .i64 e, .bool f, .bool g]) 2).run Try.prog W = .ok (.int .i64 c) W := by kernel_rfl
  have p3 : (part 3 (#[.int .i64 a, .int .i64 b, .int .i64 c, .int .i64 d, .int .i64 e, .bool f, .bool g]) 3).run Try.prog W = .ok (.int .i64 d) W := by kernel_rfl
  have p4 : (part 3 (#[.int .i64 a, .int .i64 b, .int .i64 c, .int .i64 d, .int .i64 e, .bool f, .bool g]) 4).run Try.prog W = .ok (.int .i64 e) W := by kernel_rfl
  have p5 : (part 4 (#[.int .i64 a, .int .i64 b, .int .i64 c, .int .i64 d, .int .i64 e, .bool f, .bool g]) 5).run Try.prog W = .ok (.bool f) W := by kernel_rfl
  have p6 : (part 4 (#[.int .i64 a, .int .i64 b, .int .i64 c, .int .i64 d, .int .i64 e, .bool f, .bool g]) 6).run Try.prog W = .ok (.bool g) W := by kernel_rfl
  have p0x : (part 3 (#[.int .i64 a', .int .i64 b', .int .i64 c', .int .i64 d', .int .i64 e', .bool f', .bool g']) 0).run Try.prog W = .ok (.int .i64 a') W := by kernel_rfl
  have p1x : (part 3 (#[.int .i64 a', .int .i64 b', .int .i64 c', .int .i64 d', .int .i64 e', .bool f', .bool g']) 1).run Try.prog W = .ok (.int .i64 b') W := by kernel_rfl
  have p2x : (part 3 (#[.int .i64 a', .int .i64 b', .int .i64 c', .int .i64 d', .int .i64 e', .bool f', .bool g']) 2).run Try.prog W = .ok (.int .i64 c') W := by kernel_rfl
  have p3x : (part 3 (#[.int .i64 a', .int .i64 b', .int .i64 c', .int .i64 d', .int .i64 e', .bool f', .bool g']) 3).run Try.prog W = .ok (.int .i64 d') W := by kernel_rfl
  have p4x : (part 3 (#[.int .i64 a', .int .i64 b', .int .i64 c', .int .i64 d', .int .i64 e', .bool f', .bool g']) 4).run Try.prog W = .ok (.int .i64 e') W := by kernel_rfl
  have p5x : (part 4 (#[.int .i64 a', .int .i64 b', .int .i64 c', .int .i64 d', .int .i64 e', .bool f', .bool g']) 5).run Try.prog W = .ok (.bool f') W := by kernel_rfl
  have p6x : (part 4 (#[.int .i64 a', .int .i64 b', .int .i64 c', .int .i64 d', .int .i64 e', .bool f', .bool g']) 6).run Try.prog W = .ok (.bool g') W := by kernel_rfl
  simp only [Op.eqFields, Sem.run_bind, Sem.run_ite, Sem.run_pure, Result.andThen_ok, p0, p0x, p1, p1x, p2, p2x, p3, p3x, p4, p4x, p5, p5x, p6, p6x, run_equalIn_int W _ _ _ _ _ _ Try.underlying3, run_equalIn_bool' W _ _ _ _ Try.underlying4]
  have hs : ∀ n ∈ ["State", "Sent", "Queued", "Got", "Ready", "Fin", "Shut"], n ≠ "_" := by decide
  simp only [hs "State" (by decide), hs "Sent" (by decide), hs "Queued" (by decide), hs "Got" (by decide), hs "Ready" (by decide), hs "Fin" (by decide), hs "Shut" (by decide), ne_eq, not_false_eq_true, if_true]
  clear p0 p1 p2 p3 p4 p5 p6 p0x p1x p2x p3x p4x p5x p6x hs
  generalize (a == a') = x1
  generalize (b == b') = x2
  generalize (c == c') = x3
  generalize (d == d') = x4
  generalize (e == e') = x5
  generalize (f == f') = x6
  generalize (g == g') = x7
  cases x1 <;> cases x2 <;> cases x3 <;> cases x4 <;> cases x5 <;> cases x6 <;> cases x7 <;> rfl
/-- The same End twice. -/
theorem end_neq_self (a b c d e : Int) (f g : Bool) (W : World) :
    (Go.binOp .neq 56 (.agg #[.int .i64 a, .int .i64 b, .int .i64 c, .int .i64 d, .int .i64 e, .bool f, .bool g]) (.agg #[.int .i64 a, .int .i64 b, .int .i64 c, .int .i64 d, .int .i64 e, .bool f, .bool g])).run Try.prog W = .ok (.bool false) W := by
  rw [end_neq_run]
  simp only [beq_self_eq_true, Bool.and_self, Bool.not_true]
end Go.Proofs.Ytjhnnnklfhbebaa
