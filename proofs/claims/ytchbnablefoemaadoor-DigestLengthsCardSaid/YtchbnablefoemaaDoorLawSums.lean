/- The walk of the law DigestSums. -/
import Derived.Test.YtchbnablefoemaaDoorRefD
import Derived.Test.YtchbnablefoemaaDoorLawNobody
import Derived.Test.YtchbnablefoemaaDoorLawParts
import Derived.Test.YtchbnablefoemaaDoorSliceEq
namespace Go.Proofs.YtchbnablefoemaaDoor
open Go.RowKit
set_option linter.unusedVariables false

theorem clone_n (A : Option Addr) (c n : Nat) (l : List UInt8) (hn : l.length = n) (w : World) (h : RB w A l) (hl : n ≤ 100000) :
    Calls Tryd.prog 14 #[.slice A n c] w fun e w' => ∃ R d, e = .returned (.slice R n d) ∧ n ≤ d ∧ RB w' R l ∧ OwnB w.heap.size 5 w' (.slice R n d) l ∧ Below w.heap.size w w' := by
  subst hn
  refine (clone_calls A c l w h (by omega)).mono ?_
  rintro e w' ⟨v, rfl, ho, hb⟩
  obtain ⟨R, d, rfl, hr, hd, _⟩ := ho.form
  exact ⟨R, d, rfl, hd, hr, ho, hb⟩
theorem of_one (A : Option Addr) (c n : Nat) (l : List UInt8) (hn : l.length = n) (w : World) (hT : Tabs w) (h : RB w A l) (hc : n ≤ c) (hl : n ≤ 100000) :
    Calls Tryd.prog 13 #[.slice (some ⟨w.heap.size, 0, none⟩) 1 1] (w.alloc (.cells #[.slice A n c] 22)) fun e w' => e = .returned (.agg ((sumL l).map vb).toArray) ∧ Below w.heap.size w w' := by
  have hone := RBB.one A c n l h hn.symm hc 22
  refine (of_calls _ 1 [l] _ (hT.ext (ext_alloc _ _)) hone (by simp) (one_cat_le (by omega))).mono ?_
  rintro e w' ⟨rfl, hb⟩
  rw [catTo_one]
  exact ⟨rfl, ext_trans (ext_alloc _ _) hb⟩
theorem seq_n (A B : Option Addr) (c d n : Nat) (l : List UInt8) (hn : l.length = n) (w : World) (h : RB w A l) (k : RB w B l) (hl : n ≤ 100000) :
    Calls Tryd.prog 17 #[.slice A n c, .slice B n d] w fun e w' => e = .returned (.bool true) ∧ Below w.heap.size w w' := by
  subst hn
  refine (sliceEq_calls A B c d l l w h k (by omega) (by omega)).mono ?_
  rintro e w' ⟨rfl, m, rfl⟩
  exact ⟨by simp, ext_drewN (Below.refl _ _) m⟩
set_option maxRecDepth 100000 in
set_option maxHeartbeats 2000000 in
theorem sums_walk (w : World) (hT : Tabs w) (A : Option Addr) (c : Nat) (l : List UInt8) (h : RB w A l) (hc : l.length ≤ c) (hl : l.length ≤ 140737488351232) :
    Calls Tryd.prog 7 #[.slice A l.length c] w fun e w' => e = .returned (.bool true) ∧ Below w.heap.size w w' := by
  have HT := Lib.hid hT
  have H := Lib.hid h
  obtain ⟨n, hn⟩ : ∃ n, l.length = n := ⟨_, rfl⟩
  rw [hn] at hc hl ⊢
  have HN := Lib.hid hn
  have hD := sumL_length l
  have kq : ∀ W : World, (binOp .eql 33 (.agg ((sumL l).map vb).toArray) (.agg ((sumL l).map vb).toArray)).run Tryd.prog W = .ok (.bool true) W := fun W => by
    rw [eq32 W _ _ hD hD]; simp
  obtain ⟨D, hDD⟩ : ∃ D, sumL l = D := ⟨_, rfl⟩
  rw [hDD] at kq
  have HDD := Lib.hid hDD
  clear hT h hn hD hDD
  by_cases hs : 8192 < n
  · go_enter Tryd.func7, Tryd.ntmps7
    go_wp2_with fail
    refine (awake_calls _ HT.out).mono ?_
    rintro e w2 ⟨rfl, hb⟩
    have HB := Lib.hid hb
    clear hb
    go_wp2
    go_ret
    exact ⟨rfl, HB.out⟩
  · go_enter Tryd.func7, Tryd.ntmps7
    go_wp2_with fail
    refine (clone_n A c n l HN.out w H.out (by omega)).mono ?_
    rintro e w1 ⟨R, d, rfl, hd, hr, ho, hb⟩
    have HB := Lib.hid hb
    have HR := Lib.hid hr
    have HT1 := Lib.hid (HT.out.ext hb)
    clear hr ho hb
    go_wp2_with fail
    refine (of_one R d n l HN.out w1 HT1.out HR.out hd (by omega)).mono ?_
    rintro e w2 ⟨rfl, hb⟩
    have HB2 := Lib.hid (ext_trans HB.out hb)
    have HR2 := Lib.hid (HR.out.ext hb)
    rw [HDD.out]
    clear hb HB HR HT1
    go_wp2_with fail
    refine (rof_calls A c n l HN.out w2 (H.out.ext HB2.out) (by omega)).mono ?_
    rintro e w3 ⟨rfl, hb⟩
    have HB3 := Lib.hid (ext_trans HB2.out hb)
    have HR3 := Lib.hid (HR2.out.ext hb)
    rw [HDD.out]
    clear hb HB2 HR2
    go_wp2_with fail
    refine (quick_calls A c n l HN.out w3 (H.out.ext HB3.out) (by omega)).mono ?_
    rintro e w4 ⟨rfl, hb⟩
    have HB4 := Lib.hid (ext_trans HB3.out hb)
    have HR4 := Lib.hid (HR3.out.ext hb)
    rw [HDD.out]
    clear hb HB3 HR3
    go_wp2_with fail
    refine (rof_calls A c n l HN.out w4 (H.out.ext HB4.out) (by omega)).mono ?_
    rintro e w5 ⟨rfl, hb⟩
    have HB5 := Lib.hid (ext_trans HB4.out hb)
    have HR5 := Lib.hid (HR4.out.ext hb)
    rw [HDD.out]
    clear hb HB4 HR4
    go_wp2_with fail
    refine (seq_n R A d c n l HN.out w5 HR5.out (H.out.ext HB5.out) (by omega)).mono ?_
    rintro e w6 ⟨rfl, hb⟩
    have HB6 := Lib.hid (ext_trans HB5.out hb)
    clear hb HB5 HR5
    go_wp2_with fail
    refine (awake_calls _ (HT.out.ext HB6.out)).mono ?_
    rintro e w7 ⟨rfl, hb⟩
    have HB7 := Lib.hid (ext_trans HB6.out hb)
    clear hb
    go_wp2
    go_ret
    exact ⟨rfl, HB7.out⟩
end Go.Proofs.YtchbnablefoemaaDoor
