/- bytes.Equal. -/
import Derived.Test.YtjhnnnklfhbebaaInfoB
namespace Go.Proofs.Ytjhnnnklfhbebaa
open Go.RowKit
set_option linter.unusedVariables false

set_option maxHeartbeats 400000 in
theorem equal_calls (A B : Option Addr) (c d : Nat) (l m : List UInt8) (w : World) (h : RB w A l) (k : RB w B m) :
    Calls Try.prog 27 #[.slice A l.length c, .slice B m.length d] w fun e w' => e = .returned (.bool (l == m)) ∧ w = w' := by
  have k1 := conv_str (P := Try.prog) Try.underlying30 Try.underlying5 Try.underlying9 h l.length c rfl
  have k2 := conv_str (P := Try.prog) Try.underlying30 Try.underlying5 Try.underlying9 k m.length d rfl
  have k3 := strB_toList
  clear h k
  go_enter Try.func27, Try.ntmps27
  go_wp2
  go_ret
  exact ⟨rfl, rfl⟩
end Go.Proofs.Ytjhnnnklfhbebaa
