/- The walk of the law SumsHolds. -/
import Derived.Test.YtnknkmpdkdpnaaaDoorSumsS
namespace Go.Proofs.YtnknkmpdkdpnaaaDoor
open Go.RowKit
set_option linter.unusedVariables false

theorem u8_zero : ((0 : UInt8).toNat : Int) = 0 := rfl
/-- Two stores of one word. -/
theorem OwnB.setWord {base : Nat} {e : TypeId} {w : World} {g n c : Nat} {l : List UInt8} (h : OwnB base e w (.slice (some ⟨g, 0, none⟩) n c) l) (i : Nat) (hi lo : UInt8) :
    OwnB base e ((w.setCell ⟨g, 2 * i, none⟩ (.int .u8 (hi.toNat : Int))).setCell ⟨g, 2 * i + 1, none⟩ (.int .u8 (lo.toNat : Int))) (.slice (some ⟨g, 0, none⟩) n c) (setWord l i hi lo) := (h.set (2 * i) hi).set (2 * i + 1) lo
theorem one_len {l : List UInt8} {N : Nat} (h : l.length ≤ N) : ∀ i, i < [l].length → ([l].getD i []).length ≤ N := by
  intro i hi
  obtain rfl : i = 0 := by simpa using hi
  exact h

set_option maxHeartbeats 4000000 in
theorem holds_walk (w : World) (hN : Nib w) (A : Option Addr) (c : Nat) (b : List UInt8) (h : RB w A b) (hc : b.length ≤ c) (hl : b.length ≤ 140737488351232)
    (at_ : Int) (ha0 : -9223372036854775808 ≤ at_) (ha1 : at_ ≤ 9223372036854775807) :
    Calls Tryd.prog 7 #[.slice A b.length c, .int .i64 at_] w fun e w' => e = .returned (.bool true) ∧ Below w.heap.size w w' := by
  have H := Lib.hid h
  have HN := Lib.hid hN
  clear h hN
  by_cases hs : 65536 < b.length
  · go_enter Tryd.func7, Tryd.ntmps7
    go_wp2_with fail
    refine (awake_calls _ HN.out).mono ?_
    rintro e w2 ⟨rfl, hb⟩
    have HB := Lib.hid hb
    clear hb
    go_wp2
    go_ret
    exact ⟨rfl, HB.out⟩
  · by_cases hs2 : b.length < 2
    · go_enter Tryd.func7, Tryd.ntmps7
      go_wp2_with fail
      refine (awake_calls _ HN.out).mono ?_
      rintro e w2 ⟨rfl, hb⟩
      have HB := Lib.hid hb
      clear hb
      go_wp2
      go_ret
      exact ⟨rfl, HB.out⟩
    · obtain ⟨half, hh⟩ : ∃ k, b.length / 2 = k := ⟨_, rfl⟩
      obtain ⟨m, hm⟩ : ∃ m, half * 2 = m := ⟨_, rfl⟩
      have hquo : (b.length : Int).tdiv 2 = (half : Int) := by rw [Int.tdiv_eq_ediv_of_nonneg (by omega)]; omega
      have hmul : (half : Int) * 2 = (m : Int) := by omega
      have hquo2 : (m : Int).tdiv 2 = (half : Int) := by rw [Int.tdiv_eq_ediv_of_nonneg (by omega)]; omega
      have hmb : m ≤ b.length := by omega
      have h0 : 0 < half := by omega
      have hm2 : m ≤ 65536 := by omega
      have hmm : 2 * half = m := by omega
      have HH := Lib.hid hh
      clear hh hm
      have LT : Hid ((b.take m).length = m) := by show _ = _; rw [List.length_take]; omega
      obtain ⟨n, hn, _⟩ := u64_some at_
      obtain ⟨j, hj, hj1⟩ : ∃ j : Nat, (n : Int).tmod (half : Int) = j ∧ j < half := ⟨n % half, tmod_nat n half, Nat.mod_lt _ h0⟩
      have k1 := clone_calls A c (b.take m) w (H.out.take m) (by rw [LT.out]; omega)
      rw [LT.out] at k1
      have K1 := Lib.hid k1
      clear k1
      go_enter Tryd.func7, Tryd.ntmps7
      go_wp2_with fail
      refine K1.out.mono ?_
      rintro e w1 ⟨v1, rfl, ho1, hb1⟩
      obtain ⟨g, c1, rfl, hg1, hg1', hc1, hcm⟩ := ho1.block (by rw [LT.out]; omega)
      rw [LT.out]
      rw [LT.out] at ho1 hc1
      have HO1 := Lib.hid ho1
      have HB1 := Lib.hid hb1
      clear ho1 hb1
      obtain ⟨i, hi⟩ : ∃ i, 2 * j = i := ⟨_, rfl⟩
      have h2j : 2 * (j : Int) = (i : Int) := by omega
      have hi1 : i + 1 < m := by omega
      have LH := Lib.hid (holds_law (b.take m) j (by rw [LT.out]; omega))
      have HI := Lib.hid hi
      clear hi
      have L2 : Hid ((setWord (b.take m) j 0 0).length = m) := by show _ = _; rw [setWord_length, LT.out]
      have HO2 : Hid (OwnB w.heap.size 5 ((w1.setCell ⟨g, i, none⟩ (.int .u8 0)).setCell ⟨g, i + 1, none⟩ (.int .u8 0)) (.slice (some ⟨g, 0, none⟩) m c1) (setWord (b.take m) j 0 0)) := by
        have := HO1.out.setWord j 0 0
        rw [HI.out, u8_zero] at this
        exact this
      have HB2 : Hid (Below w.heap.size w ((w1.setCell ⟨g, i, none⟩ (.int .u8 0)).setCell ⟨g, i + 1, none⟩ (.int .u8 0))) := Lib.hid ((HB1.out.setCell (p := ⟨g, i, none⟩) hg1 _).setCell (p := ⟨g, i + 1, none⟩) hg1 _)
      obtain ⟨hc0, hf0⟩ := HO1.out.cell i (by rw [LT.out]; omega)
      obtain ⟨hc1', hf1⟩ := HO1.out.cell (i + 1) (by rw [LT.out]; omega)
      go_wp2_with fail
      have hsz : ((w1.setCell ⟨g, i, none⟩ (.int .u8 0)).setCell ⟨g, i + 1, none⟩ (.int .u8 0)).heap.size = w1.heap.size := by simp
      rw [← hsz]
      generalize (w1.setCell ⟨g, i, none⟩ (.int .u8 0)).setCell ⟨g, i + 1, none⟩ (.int .u8 0) = w2 at *
      clear hc0 hf0 hc1' hf1 hsz HO1 HB1 hg1'
      generalize setWord (b.take m) j 0 0 = l2 at *
      have hL2 := L2.out
      obtain ⟨A2, c2, e2, hr2, _, _⟩ := HO2.out.form
      injection e2 with ea eb ec
      subst ea ec
      clear eb
      have HR2 := Lib.hid hr2
      have HB3 := Lib.hid (ext_trans HB2.out (ext_alloc w2 (Obj.cells #[Value.slice (some ⟨g, 0, none⟩) m c1] 22)))
      have HO3 := Lib.hid (HO2.out.ext (ext_alloc w2 (Obj.cells #[Value.slice (some ⟨g, 0, none⟩) m c1] 22)))
      refine (inet_calls _ 1 [l2] _ (RBB.one _ _ m l2 HR2.out hL2.symm hc1 _) (by simp) (one_len (by rw [hL2]; omega))).mono ?_
      rintro e w3 ⟨rfl, rfl⟩
      have hw3 : (w2.alloc (Obj.cells #[Value.slice (some ⟨g, 0, none⟩) m c1] 22)).heap.size = w2.heap.size + 1 := by simp
      clear hr2 HR2 HO2
      generalize w2.alloc (Obj.cells #[Value.slice (some ⟨g, 0, none⟩) m c1] 22) = w3 at *
      have hv := inet_one_le l2
      obtain ⟨v, hv2⟩ : ∃ v, inetN [l2] = v := ⟨_, rfl⟩
      rw [hv2] at hv LH
      rw [hv2]
      clear hv2
      have ev1 : (v : Int) / 256 = ((hiB v).toNat : Int) := by rw [hiB_toNat v hv]; omega
      have ev2 : (v : Int) % 256 = ((loB v).toNat : Int) := by rw [loB_toNat v]; omega
      obtain ⟨hc0, hf0⟩ := HO3.out.cell i (by rw [hL2]; omega)
      obtain ⟨hc1', hf1⟩ := HO3.out.cell (i + 1) (by rw [hL2]; omega)
      clear hL2
      go_wp2_with fail
      have hsz : ((w3.setCell ⟨g, i, none⟩ (.int .u8 ((hiB v).toNat : Int))).setCell ⟨g, i + 1, none⟩ (.int .u8 ((loB v).toNat : Int))).heap.size = w2.heap.size + 1 := by simp [hw3]
      have HO4 : Hid (OwnB w.heap.size 5 ((w3.setCell ⟨g, i, none⟩ (.int .u8 ((hiB v).toNat : Int))).setCell ⟨g, i + 1, none⟩ (.int .u8 ((loB v).toNat : Int))) (.slice (some ⟨g, 0, none⟩) m c1) (setWord l2 j (hiB v) (loB v))) := by
        have := HO3.out.setWord j (hiB v) (loB v)
        rw [HI.out] at this
        exact this
      have HB4 : Hid (Below w.heap.size w ((w3.setCell ⟨g, i, none⟩ (.int .u8 ((hiB v).toNat : Int))).setCell ⟨g, i + 1, none⟩ (.int .u8 ((loB v).toNat : Int)))) := Lib.hid ((HB3.out.setCell (p := ⟨g, i, none⟩) hg1 _).setCell (p := ⟨g, i + 1, none⟩) hg1 _)
      have L4 : Hid ((setWord l2 j (hiB v) (loB v)).length = m) := by show _ = _; rw [setWord_length, L2.out]
      rw [← hsz]
      generalize (w3.setCell ⟨g, i, none⟩ (.int .u8 ((hiB v).toNat : Int))).setCell ⟨g, i + 1, none⟩ (.int .u8 ((loB v).toNat : Int)) = w4 at *
      clear hc0 hf0 hc1' hf1 hsz HO3 HB3 ev1 ev2
      generalize setWord l2 j (hiB v) (loB v) = l4 at *
      have hL4 := L4.out
      obtain ⟨A2, c2, e2, hr2, _, _⟩ := HO4.out.form
      injection e2 with ea eb ec
      subst ea ec
      clear eb
      have HR4 := Lib.hid hr2
      have HB5 := Lib.hid (ext_trans HB4.out (ext_alloc w4 (Obj.cells #[Value.slice (some ⟨g, 0, none⟩) m c1] 22)))
      refine (valid_calls _ 1 [l4] _ (RBB.one _ _ m l4 HR4.out hL4.symm hc1 _) (by simp) (one_len (by rw [hL4]; omega))).mono ?_
      rintro e w5 ⟨rfl, rfl⟩
      rw [LH.out]
      generalize w4.alloc (Obj.cells #[Value.slice (some ⟨g, 0, none⟩) m c1] 22) = w5 at *
      clear hL4 hr2
      go_wp2_with fail
      refine (awake_calls _ (HN.out.ext HB5.out)).mono ?_
      rintro e wz ⟨rfl, hbz⟩
      have HBz := Lib.hid (ext_trans HB5.out hbz)
      clear hbz
      go_wp2
      go_ret
      exact ⟨rfl, HBz.out⟩
end Go.Proofs.YtnknkmpdkdpnaaaDoor
