/- What waits holds no end: cut anew, nothing comes of it. No program. -/
import Derived.Test.YtmohjgcnhibkoaaChunkH
import Derived.Test.YtmohjgcnhibkoaaChunkD
namespace Go.Proofs.Ytmohjgcnhibkoaa
open Go.RowKit
set_option linter.unusedVariables false

theorem cut_rest (q : Nat) (d : List UInt8) : cutS q [] (cutS q [] d).2 = ([], (cutS q [] d).2) := by
  have h := cut_behind q d (cutS q [] d).1.length (Nat.le_refl _)
  have hj := cutS_join q [] d
  rw [List.nil_append] at hj
  rw [List.take_length, List.drop_length] at h
  have e : d.drop (cutS q [] d).1.flatten.length = (cutS q [] d).2 := by
    have := List.drop_left (l₁ := (cutS q [] d).1.flatten) (l₂ := (cutS q [] d).2)
    rwa [hj] at this
  rwa [e] at h
theorem cut_pend {q : Nat} {pend : List UInt8} (hp : cutS q [] pend = ([], pend)) (b : List UInt8) : cutS q [] (pend ++ b) = cutS q pend b := by
  rw [cutS_append, hp]
  rfl
theorem cut_pend' {q : Nat} {pend : List UInt8} (hp : cutS q [] pend = ([], pend)) (b : List UInt8) : cutS q [] (cutS q pend b).2 = ([], (cutS q pend b).2) := by
  rw [← cut_pend hp b]
  exact cut_rest q _
end Go.Proofs.Ytmohjgcnhibkoaa
