/- slices.Clone of bytes. -/
import Derived.Test.YtjhnnnklfhbebaaInfoB
namespace Go.Proofs.Ytjhnnnklfhbebaa
open Go.RowKit
set_option linter.unusedVariables false

set_option maxHeartbeats 400000 in
theorem clone_calls (A : Option Addr) (c : Nat) (l : List UInt8) (w : World) (h : RB w A l) (hl : l.length ≤ 140737488351232) :
    Calls Try.prog 64 #[.slice A l.length c] w fun e w' => ∃ v, e = .returned v ∧ OwnB w.heap.size 5 w' v l ∧ Below w.heap.size w w' := by
  have ke := fun (W : World) (n : Nat) => Lib.run_eql_slice_nil (P := Try.prog) W 30 5 A n c 0 0 Try.underlying30
  cases A with
  | none =>
    obtain rfl : l = [] := by
      cases l with
      | nil => rfl
      | cons x r => obtain ⟨b, o, e, _⟩ := h 0 (by simp); cases e
    clear h
    go_enter Try.func64, Try.ntmps64
    go_wp2
    go_ret
    exact ⟨_, rfl, OwnB.nil _ _ _, Below.refl _ _⟩
  | some ad =>
    have H := Lib.hid h
    clear h
    go_enter Try.func64, Try.ntmps64
    go_wp2_with (at_builtin; refine wpList_appB rfl _ _ 30 rfl w.heap.size 5 Try.underlying30 infoB _ [] rfl (OwnB.lit _ _ w [] (Nat.le_refl _) (by simp)) _ _ _ l rfl rfl (H.out.ext (ext_alloc _ _)) (by simp; omega) (by simp) ?_)
    intro v' w' ho hg _
    have hb := Lib.hid ((OwnB.lit w.heap.size 5 w [] (Nat.le_refl _) (by simp)).below (ext_alloc w _) hg (by simp))
    have ho' := Lib.hid ho
    clear ho hg
    go_wp2
    go_ret
    exact ⟨_, rfl, ho'.out, hb.out⟩

/-- One part as a list of parts: what '[][]byte{b}' leaves. -/
theorem RBB.one {w : World} (A : Option Addr) (c n : Nat) (l : List UInt8) (h : RB w A l) (hn : n = l.length) (hc : n ≤ c) (e : TypeId) :
    RBB (w.alloc (.cells #[.slice A n c] e)) (some ⟨w.heap.size, 0, none⟩) [l] := by
  subst hn
  intro i hi
  obtain rfl : i = 0 := by simpa using hi
  exact ⟨w.heap.size, 0, A, c, rfl, by simp, h.ext (ext_alloc _ _), hc⟩
end Go.Proofs.Ytjhnnnklfhbebaa
