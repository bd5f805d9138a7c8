/- The walk of the law SumsSeals. -/
import Derived.Test.YtnknkmpdkdpnaaaDoorSumsQ
namespace Go.Proofs.YtnknkmpdkdpnaaaDoor
open Go.RowKit
set_option linter.unusedVariables false

set_option maxHeartbeats 8000000 in
theorem seals_walk (w : World) (hN : Nib w) (A : Option Addr) (c : Nat) (p : List UInt8) (h : RB w A p) (hc : p.length ≤ c) (hl : p.length ≤ 140737488351232)
    (B : Option Addr) (d : Nat) (q : List UInt8) (h2 : RB w B q) (hd : q.length ≤ d) (hl2 : q.length ≤ 140737488351232) :
    Calls Tryd.prog 13 #[.slice A p.length c, .slice B q.length d] w fun e w' => e = .returned (.bool true) ∧ Below w.heap.size w w' := by
  have H := Lib.hid h
  have H2 := Lib.hid h2
  have HN := Lib.hid hN
  clear h h2 hN
  by_cases hs : 65536 < p.length ∨ 65536 < q.length
  · go_enter Tryd.func13, Tryd.ntmps13
    by_cases hs1 : 65536 < p.length
    all_goals
      go_wp2_with fail
      refine (awake_calls _ HN.out).mono ?_
      rintro e w2 ⟨rfl, hb⟩
      have HB := Lib.hid hb
      clear hb
      go_wp2
      go_ret
      exact ⟨rfl, HB.out⟩
  · have hs1 : ¬ 65536 < p.length := fun k => hs (.inl k)
    have hs2 : ¬ 65536 < q.length := fun k => hs (.inr k)
    clear hs
    have SE := Lib.hid (seal_eq p)
    have OE := Lib.hid (openE_eq q)
    have OL := Lib.hid (openL_eq q)
    have SL := Lib.hid (sealL_length p)
    have OLL : Hid ((openL q).length ≤ q.length) := by
      have : (openL q).length ≤ q.length := by unfold openL; split <;> simp [List.length_take]
      exact this
    go_enter Tryd.func13, Tryd.ntmps13
    go_wp2_with fail
    refine (clone_calls _ _ p _ H.out hl).mono ?_
    rintro e w1 ⟨v1, rfl, ho1, hb1⟩
    have HO1 := Lib.hid ho1
    have HB1 := Lib.hid hb1
    obtain ⟨A1, c1, rfl, hr1, hc1, _⟩ := ho1.form
    have HR1 := Lib.hid hr1
    clear ho1 hb1 hr1
    go_wp2_with fail
    refine (clone_calls _ _ q _ (H2.out.ext HB1.out) hl2).mono ?_
    rintro e w2 ⟨v2, rfl, ho2, hb2⟩
    obtain ⟨A2, c2, rfl, hr2, hc2, _⟩ := ho2.form
    have HR2 := Lib.hid hr2
    have HR1b := Lib.hid (HR1.out.ext hb2)
    have HB2 := Lib.hid (ext_trans HB1.out hb2)
    clear ho2 hb2 hr2 HR1 HO1 HB1
    go_wp2_with fail
    refine (seal_calls _ _ p _ (HN.out.ext HB2.out) HR1b.out hc1 hl).mono ?_
    rintro e w3 ⟨v3, rfl, ho3, hb3⟩
    have HO3 := Lib.hid ho3
    have HS3 := ho3.form
    have HR1c := Lib.hid (HR1b.out.ext hb3)
    have HR2c := Lib.hid (HR2.out.ext hb3)
    have HB3 := Lib.hid (ext_trans HB2.out hb3)
    obtain ⟨A3, c3, rfl, hr3, hc3, _⟩ := HS3
    have HR3 := Lib.hid hr3
    have HD3 := Lib.hid hb3
    clear ho3 hb3 hr3 hc3
    go_wp2_with fail
    refine (open_calls _ _ q _ (HN.out.ext HB3.out) HR2c.out hc2 hl2).mono ?_
    rintro e w4 ⟨v4, rfl, ho4, hb4⟩
    obtain ⟨A4, c4, rfl, hr4, hc4, _⟩ := ho4.form
    have HR4 := Lib.hid hr4
    have HO4 := Lib.hid ho4
    have HB4 := Lib.hid (ext_trans HB3.out hb4)
    have HD4 := Lib.hid (ext_trans HD3.out hb4)
    have HR3b := Lib.hid (HR3.out.ext hb4)
    have HO3b := Lib.hid (HO3.out.ext hb4)
    have HS4 := hb4.size
    clear ho4 hb4 hr4 hc4 HR3
    go_wp2_with fail
    refine (ropen_calls _ _ q _ (H2.out.ext HB4.out) hd hl2).mono ?_
    rintro e w5 ⟨v5, rfl, ho5, hb5⟩
    rw [← OE.out]
    rw [← OL.out] at ho5
    obtain ⟨A5, c5, rfl, hr5, hc5, _⟩ := ho5.form
    have HR5 := Lib.hid hr5
    have HB5 := Lib.hid (ext_trans HB4.out hb5)
    have HD5 := Lib.hid (ext_trans HD4.out hb5)
    have HR3c := Lib.hid (HR3b.out.ext hb5)
    have HO3c := Lib.hid (HO3b.out.ext hb5)
    have HR4b := Lib.hid (HR4.out.ext hb5)
    have HO4b := Lib.hid (HO4.out.ext hb5)
    have HS5 := hb5.size
    clear ho5 hb5 hr5 hc5 HR4 HO4 HR3b HO3b
    go_wp2_with fail
    refine (rseal_calls _ _ p _ (H.out.ext HB5.out) hl).mono ?_
    rintro e w6 ⟨v6, rfl, ho6, hb6⟩
    rw [← SE.out] at ho6
    obtain ⟨A6, c6, rfl, hr6, hc6, _⟩ := ho6.form
    have HR6 := Lib.hid hr6
    have HB6 := Lib.hid (ext_trans HB5.out hb6)
    have HD6 := Lib.hid (ext_trans HD5.out hb6)
    have HR3d := Lib.hid (HR3c.out.ext hb6)
    have HO3d := Lib.hid (HO3c.out.ext hb6)
    have HR4c := Lib.hid (HR4b.out.ext hb6)
    have HO4c := Lib.hid (HO4b.out.ext hb6)
    have HR5b := Lib.hid (HR5.out.ext hb6)
    have HS6 := hb6.size
    clear ho6 hb6 hr6 hc6 HR4b HO4b HR3c HO3c HR5
    go_wp2_with fail
    refine (equal_calls _ _ _ _ (sealL p) (sealL p) _ HR3d.out HR6.out).mono ?_
    rintro e w7 ⟨rfl, rfl⟩
    rw [beq_self_eq_true]
    generalize openE q = oe at *
    go_wp2_with fail
    refine (equal_calls _ _ _ _ (openL q) (openL q) _ HR4c.out HR5b.out).mono ?_
    rintro e w7 ⟨rfl, rfl⟩
    rw [beq_self_eq_true]
    have hn3 := HO3d.out.blockLt
    have hn4 := HO4c.out.blockLt
    have hlt := HO3d.out.block (by rw [SL.out]; omega)
    obtain ⟨g3, c3', e3, hg3, hg3', _⟩ := hlt
    cases e3
    have hs23 := HD3.out.size
    have hs26 := HD6.out.size
    have hk4 : ∀ k, (Value.slice A4 (openL q).length c4).ownBlock = some k → w3.heap.size ≤ k ∧ k < w6.heap.size := hn4
    have hg3b : g3 < w3.heap.size := by
      rcases (HO3.out).blockLt g3 rfl with ⟨_, h⟩
      exact h
    have HK4 := Lib.hid hk4
    clear hn3 hn4 hk4
    go_wp2_with (at_builtin; refine wpList_appB rfl _ _ 22 rfl w2.heap.size 5 Tryd.underlying22 infoB _ (sealL p) rfl (HO3d.out.ext (ext_alloc _ _)) _ _ _ [1] rfl rfl (RB.block (heap_new _ _ rfl) [1] rfl) (by rw [SL.out]; simp; omega) (by simp; omega) ?_)
    intro v7 w7 ho7 hg7 hblk7
    have hb7 := (HO3d.out.ext (ext_alloc _ _)).below (HD6.out.alloc hs26 _) hg7 (by simp; omega)
    have HO4d : Hid (OwnB w3.heap.size 5 w7 (.slice A4 (openL q).length c4) (openL q)) := by
      refine OwnB.other (HO4c.out.ext (ext_alloc _ _)) hg7 ?_
      cases hbk : (Value.slice A4 (openL q).length c4).ownBlock with
      | none => exact .inl rfl
      | some k =>
        refine .inr fun e => ?_
        have h1 := (HK4.out k hbk).1
        have e' : k = g3 := by simpa [Value.ownBlock] using e
        omega
    have hs7 : w6.heap.size + 1 ≤ w7.heap.size := by have := hg7.size; simpa using this
    obtain ⟨g7, c7, e7, hg7a, hg7b, _⟩ := ho7.block (by simp)
    subst e7
    have hne7 : ∀ k, (Value.slice A4 (openL q).length c4).ownBlock = some k → k ≠ g7 := by
      intro k hk e
      have h1 := HK4.out k hk
      rcases hblk7 with h | h
      · cases h; omega
      · have h2 : g7 = w6.heap.size + 1 := by simpa [Value.ownBlock] using h
        omega
    obtain ⟨hc7, hf7⟩ := ho7.cell 0 (by simp)
    have HNE7 := Lib.hid hne7
    have HD7 := Lib.hid hb7
    have hgl := gb_lt (sealL p ++ [1]) 0
    clear ho7 hg7 hblk7 hne7 hb7 HO4c HK4
    have hg7c : w2.heap.size ≤ g7 := hg7a
    obtain ⟨u1, hu1⟩ : ∃ u, u = bits BinOp.xor IntKind.u8 (gb (sealL p ++ [1]) 0 : Int) 255 := ⟨_, rfl⟩
    have HD8 := Lib.hid (HD7.out.setCell (p := ⟨g7, 0, none⟩) hg7c (.int .u8 u1))
    have HO8 : Hid (OwnB w3.heap.size 5 (w7.setCell ⟨g7, 0, none⟩ (.int .u8 u1)) (.slice A4 (openL q).length c4) (openL q)) := by
      refine OwnB.other HO4d.out (grown_setCell w7 g7 0 _) ?_
      cases hbk : (Value.slice A4 (openL q).length c4).ownBlock with
      | none => exact .inl rfl
      | some k =>
        refine .inr fun e => ?_
        exact HNE7.out k hbk (by simpa using e)
    have hs8 : (w7.setCell ⟨g7, 0, none⟩ (.int .u8 u1)).heap.size = w7.heap.size := by simp
    have hs3 : w3.heap.size ≤ w7.heap.size := by omega
    rw [hu1] at HD8 HO8 hs8
    clear HNE7 HO4d hu1 u1
    go_wp2_with (at_builtin; refine wpList_appB rfl _ _ 22 rfl w3.heap.size 5 Tryd.underlying22 infoB _ (openL q) rfl (HO8.out.ext (ext_alloc _ _)) _ _ _ [1] rfl rfl (RB.block (heap_new _ _ (by simp)) [1] rfl) (by have := OLL.out; simp; omega) (by simp; omega) ?_)
    intro v9 w9 ho9 hg9 _
    have hb9 := (OwnB.mono (HO8.out.ext (ext_alloc _ _)) hs23).below (HD8.out.alloc (by simp; omega) _) hg9 (by simp; omega)
    obtain ⟨g9, c9, e9, hg9a, hg9b, _⟩ := ho9.block (by simp)
    subst e9
    obtain ⟨hc9, hf9⟩ := ho9.cell 0 (by simp)
    have hgl9 := gb_lt (openL q ++ [1]) 0
    have hg9c : w2.heap.size ≤ g9 := Nat.le_trans hs23 hg9a
    obtain ⟨u2, hu2⟩ : ∃ u, u = bits BinOp.xor IntKind.u8 (gb (openL q ++ [1]) 0 : Int) 255 := ⟨_, rfl⟩
    have HDa := Lib.hid (hb9.setCell (p := ⟨g9, 0, none⟩) hg9c (.int .u8 u2))
    rw [hu2] at HDa
    clear hu2 u2 ho9 hg9 hb9 HD8 HO8
    have HR1d := Lib.hid (HR1b.out.ext HDa.out)
    have HR2d := Lib.hid (HR2.out.ext HDa.out)
    have HBa := Lib.hid (ext_trans HB2.out HDa.out)
    go_wp2_with fail
    refine (equal_calls _ _ _ _ p p _ HR1d.out (H.out.ext HBa.out)).mono ?_
    rintro e wz ⟨rfl, rfl⟩
    rw [beq_self_eq_true]
    go_wp2_with fail
    refine (equal_calls _ _ _ _ q q _ HR2d.out (H2.out.ext HBa.out)).mono ?_
    rintro e wz ⟨rfl, rfl⟩
    rw [beq_self_eq_true]
    go_wp2_with fail
    refine (awake_calls _ (HN.out.ext HBa.out)).mono ?_
    rintro e wz ⟨rfl, hbz⟩
    have HBz := Lib.hid (ext_trans HBa.out hbz)
    clear hbz
    go_wp2
    go_ret
    exact ⟨rfl, HBz.out⟩
end Go.Proofs.YtnknkmpdkdpnaaaDoor
