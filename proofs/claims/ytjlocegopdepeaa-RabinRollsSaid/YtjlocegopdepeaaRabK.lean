/- flumeref05: Last: the walk. -/
import Derived.Test.YtjlocegopdepeaaRabJ
import Derived.Test.YtjlocegopdepeaaRollA
import Derived.Test.YtjlocegopdepeaaOwn
import Derived.Test.YtjlocegopdepeaaClone
import Derived.Test.YtjlocegopdepeaaSliceEq
namespace Go.Proofs.Ytjlocegopdepeaa
open Go.RowKit
set_option linter.unusedVariables false

set_option maxRecDepth 8000 in
set_option maxHeartbeats 1000000 in
theorem rlast_calls (A : Option Addr) (c : Nat) (l : List UInt8) (w : World) (h : RB w A l) (hc : l.length ≤ c) (hl : l.length ≤ 140737488351232) :
    Calls Try.prog 32 #[.slice A l.length c] w fun e w' => ∃ R d, e = .returned (.slice R (wnd l).length d) ∧ RB w' R (wnd l) ∧ (wnd l).length ≤ d ∧ Below w.heap.size w w' := by
  have H := Lib.hid h
  clear h
  go_enter Try.func32, Try.ntmps32
  go_wp2_with (at_make; refine wpList_makeFullB rfl _ _ 35 rfl w.heap.size 5 Try.underlying35 infoB .i64 .i64 (16 : Int) (16 : Int) 16 rfl rfl rfl rfl (by omega) (Nat.le_refl _) ?_)
  intro w1 ho hg
  have HO := Lib.hid ho
  have HB := Lib.hid (grown_none (Below.refl w.heap.size w) hg (Nat.le_refl _))
  have hsz := hg.size
  clear ho hg
  go_wp2_with (at_builtin; refine wpList_appB rfl _ _ 35 rfl w.heap.size 5 Try.underlying35 infoB _ zs16 rfl HO.out _ _ _ l rfl rfl (H.out.ext HB.out) (by rw [zs16_length]; omega) (by omega) ?_)
  intro v w2 ho2 hg2 _
  have hb2 : Below w.heap.size w w2 := HO.out.below HB.out hg2 hsz
  have HB2 := Lib.hid hb2
  have HW := Lib.hid (show wnd l = (zs16 ++ l).drop l.length from rfl)
  have HWL := Lib.hid (wnd_length l)
  obtain ⟨T, hT⟩ : ∃ T, zs16 ++ l = T := ⟨_, rfl⟩
  have hTl : T.length = l.length + 16 := by rw [← hT, List.length_append, zs16_length]; omega
  rw [hT] at ho2 HW
  obtain ⟨g, cap, rfl, h1, h2, h3, h4⟩ := ho2.block (by omega)
  obtain ⟨_, _, e1, hr, _, _⟩ := ho2.form
  injection e1 with ea eb ec
  subst ea
  have HR := Lib.hid hr
  rw [hTl] at h3 ⊢
  have h4' : cap ≤ 9223372036854775807 := by simp only [maxLen] at h4; omega
  clear ho2 hg2 eb ec hr hT hb2 h4
  go_wp2
  go_ret
  refine ⟨some ⟨g, l.length, none⟩, cap - l.length, ?_, ?_, ?_, HB2.out⟩
  · rw [HWL.out]
    trace_state
    go_num
  · rw [HW.out]
    have := HR.out.drop l.length
    rwa [Nat.zero_add] at this
  · rw [HWL.out]; omega
end Go.Proofs.Ytjlocegopdepeaa
