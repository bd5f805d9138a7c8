/- The walk of the law SumsFollows. -/
import Derived.Test.YtnknkmpdkdpnaaaDoorLawHolds
import Derived.Deep.QuietTactic
import Derived.BigQuiet
namespace Go.Proofs.YtnknkmpdkdpnaaaDoor
open Go.RowKit
set_option linter.unusedVariables false

set_option maxHeartbeats 4000000 in
theorem follows_walk (w : World) (hN : Nib w) (A : Option Addr) (c : Nat) (b : List UInt8) (h : RB w A b) (hc : b.length ≤ c) (hl : b.length ≤ 140737488351232)
    (at_ : Int) (ha0 : -9223372036854775808 ≤ at_) (ha1 : at_ ≤ 9223372036854775807) (wd : Nat) (hwd : wd ≤ 65535) :
    Calls Tryd.prog 8 #[.slice A b.length c, .int .i64 at_, .int .u16 (wd : Int)] w fun e w' => e = .returned (.bool true) ∧ Below w.heap.size w w' := by
  have H := Lib.hid h
  have HN := Lib.hid hN
  clear h hN
  by_cases hs : 65536 < b.length
  · go_enter Tryd.func8, Tryd.ntmps8
    go_wp2_with fail
    refine (awake_calls _ HN.out).mono ?_
    rintro e w2 ⟨rfl, hb⟩
    have HB := Lib.hid hb
    clear hb
    go_wp2
    go_ret
    exact ⟨rfl, HB.out⟩
  · by_cases hs2 : b.length < 4
    · go_enter Tryd.func8, Tryd.ntmps8
      go_wp2_with fail
      refine (awake_calls _ HN.out).mono ?_
      rintro e w2 ⟨rfl, hb⟩
      have HB := Lib.hid hb
      clear hb
      go_wp2
      go_ret
      exact ⟨rfl, HB.out⟩
    · obtain ⟨half, hh⟩ : ∃ k, b.length / 2 = k := ⟨_, rfl⟩
      obtain ⟨m, hm⟩ : ∃ m, half * 2 = m := ⟨_, rfl⟩
      have hquo : (b.length : Int).tdiv 2 = (half : Int) := by rw [Int.tdiv_eq_ediv_of_nonneg (by omega)]; omega
      have hmul : (half : Int) * 2 = (m : Int) := by omega
      have hquo2 : (m : Int).tdiv 2 = (half : Int) := by rw [Int.tdiv_eq_ediv_of_nonneg (by omega)]; omega
      have hmb : m ≤ b.length := by omega
      have h0 : 1 < half := by omega
      obtain ⟨h1, hh1⟩ : ∃ k, half - 1 = k := ⟨_, rfl⟩
      have hsub : (half : Int) - 1 = (h1 : Int) := by omega
      have h10 : 0 < h1 := by omega
      have HHH : Hid (half = h1 + 1) := by show _ = _; omega
      have hm2 : m ≤ 65536 := by omega
      have hmm : 2 * half = m := by omega
      have HH := Lib.hid hh
      clear hh hm hh1
      have LT : Hid ((b.take m).length = m) := by show _ = _; rw [List.length_take]; omega
      obtain ⟨n, hn, _⟩ := u64_some at_
      obtain ⟨j, hj, hj1⟩ : ∃ j : Nat, (n : Int).tmod (h1 : Int) = j ∧ j < h1 := ⟨n % h1, tmod_nat n h1, Nat.mod_lt _ h10⟩
      have k1 := clone_calls A c (b.take m) w (H.out.take m) (by rw [LT.out]; omega)
      rw [LT.out] at k1
      have K1 := Lib.hid k1
      clear k1
      go_enter Tryd.func8, Tryd.ntmps8
      go_wp2_with fail
      refine K1.out.mono ?_
      rintro e w1 ⟨v1, rfl, ho1, hb1⟩
      obtain ⟨g, c1, rfl, hg1, hg1', hc1, hcm⟩ := ho1.block (by rw [LT.out]; omega)
      rw [LT.out]
      rw [LT.out] at ho1 hc1
      have HO1 := Lib.hid ho1
      have HB1 := Lib.hid hb1
      clear ho1 hb1
      have hhh := HHH.out
      obtain ⟨jw, hjw⟩ : ∃ k, j + 1 = k := ⟨_, rfl⟩
      obtain ⟨i, hi⟩ : ∃ i, 2 * jw = i := ⟨_, rfl⟩
      have h2j : 2 + 2 * (j : Int) = (i : Int) := by omega
      have hi1 : i + 1 < m := by omega
      obtain ⟨l2, hl2⟩ : ∃ l, setWord (b.take m) 0 0 0 = l := ⟨_, rfl⟩
      obtain ⟨v, hv2⟩ : ∃ v, updN (inetN [l2]) (word l2 jw) wd = v := ⟨_, rfl⟩
      have LH := Lib.hid (follows_law (b.take m) jw wd (by omega) (by rw [LT.out]; omega) hwd v (by rw [← hv2, ← hl2]))
      rw [hl2] at LH
      have HV2 := Lib.hid hv2
      have HI := Lib.hid hi
      clear hi hjw hv2
      have L2 : Hid (l2.length = m) := by show _ = _; rw [← hl2, setWord_length, LT.out]
      have HO2 : Hid (OwnB w.heap.size 5 ((w1.setCell ⟨g, 0, none⟩ (.int .u8 0)).setCell ⟨g, 1, none⟩ (.int .u8 0)) (.slice (some ⟨g, 0, none⟩) m c1) l2) := by
        have := HO1.out.setWord 0 0 0
        rw [u8_zero, hl2] at this
        exact this
      have HB2 : Hid (Below w.heap.size w ((w1.setCell ⟨g, 0, none⟩ (.int .u8 0)).setCell ⟨g, 1, none⟩ (.int .u8 0))) := Lib.hid ((HB1.out.setCell (p := ⟨g, 0, none⟩) hg1 _).setCell (p := ⟨g, 1, none⟩) hg1 _)
      obtain ⟨hc0, hf0⟩ := HO1.out.cell 0 (by rw [LT.out]; omega)
      obtain ⟨hc1', hf1⟩ := HO1.out.cell 1 (by rw [LT.out]; omega)
      have hm1 : 1 < m := by omega
      clear hl2 hhh
      go_wp2_with fail
      have hsz : ((w1.setCell ⟨g, 0, none⟩ (.int .u8 0)).setCell ⟨g, 1, none⟩ (.int .u8 0)).heap.size = w1.heap.size := by simp
      rw [← hsz]
      generalize (w1.setCell ⟨g, 0, none⟩ (.int .u8 0)).setCell ⟨g, 1, none⟩ (.int .u8 0) = w2 at *
      clear hc0 hf0 hc1' hf1 hsz HO1 HB1 hg1'
      have hL2 := L2.out
      obtain ⟨A2, c2, e2, hr2, _, _⟩ := HO2.out.form
      injection e2 with ea eb ec
      subst ea ec
      clear eb
      have HR2 := Lib.hid hr2
      have HB3 := Lib.hid (ext_trans HB2.out (ext_alloc w2 (Obj.cells #[Value.slice (some ⟨g, 0, none⟩) m c1] 22)))
      have HO3 := Lib.hid (HO2.out.ext (ext_alloc w2 (Obj.cells #[Value.slice (some ⟨g, 0, none⟩) m c1] 22)))
      refine (inet_calls _ 1 [l2] _ (RBB.one _ _ m l2 HR2.out hL2.symm hc1 _) (by simp) (one_len (by rw [hL2]; omega))).mono ?_
      rintro e w3 ⟨rfl, rfl⟩
      have hw3 : (w2.alloc (Obj.cells #[Value.slice (some ⟨g, 0, none⟩) m c1] 22)).heap.size = w2.heap.size + 1 := by simp
      clear hr2 HR2 HO2
      generalize w2.alloc (Obj.cells #[Value.slice (some ⟨g, 0, none⟩) m c1] 22) = w3 at *
      have hv0 := inet_one_le l2
      obtain ⟨v0, hv02⟩ : ∃ v, inetN [l2] = v := ⟨_, rfl⟩
      rw [hv02] at hv0 HV2
      rw [hv02]
      clear hv02
      obtain ⟨hc0, hf0⟩ := HO3.out.cell i (by rw [hL2]; omega)
      obtain ⟨hc1', hf1⟩ := HO3.out.cell (i + 1) (by rw [hL2]; omega)
      have hgx := gb_lt8 l2 i
      have hgy := gb_lt8 l2 (i + 1)
      clear hL2
      have hi0 : (0 : Int) ≤ i := by omega
      have him : (i : Int) < m := by omega
      have him1 : (i : Int) + 1 < m := by omega
      have hi01 : (0 : Int) ≤ (i : Int) + 1 := by omega
      have hiw : IntKind.i64.wrap ((i : Int) + 1) = (i : Int) + 1 := by rw [IntKind.wrap]; simp [IntKind.bits, IntKind.signed]; omega
      have hit : ((i : Int) + 1).toNat = i + 1 := by omega
      go_wp2_with fail
      have hwl := word_le l2 jw
      obtain ⟨ow, how⟩ : ∃ o, word l2 jw = o := ⟨_, rfl⟩
      have EO : Hid (bits BinOp.or IntKind.u16 ((gb l2 i : Int) * 256) (gb l2 (i + 1) : Int) = (ow : Int)) := by
        show _ = _
        have e := or_u16 (gb l2 i * 256) (gb l2 (i + 1)) (by omega) (by omega)
        rw [Nat.or_comm, show gb l2 i * 256 = gb l2 i * 2 ^ 8 from rfl, or_add _ _ 8 hgy] at e
        rw [show ((gb l2 i : Int) * 256) = ((gb l2 i * 2 ^ 8 : Nat) : Int) by simp, e, ← how]
        unfold word
        rw [HI.out]
        simp
        omega
      rw [how] at HV2 hwl
      clear how
      go_quiet (first | (rw [EO.out]; refine Calls.quiet_of_same ((update_calls v0 ow wd hv0 hwl hwd _).mono fun _ _ k => ⟨k.1, k.2.symm⟩)))
      rw [HV2.out]
      have hv : v ≤ 65535 := by rw [← HV2.out]; exact updN_le _ _ _
      have ev1 : (wd : Int) / 256 = ((hiB wd).toNat : Int) := by rw [hiB_toNat wd hwd]; omega
      have ev2 : (wd : Int) % 256 = ((loB wd).toNat : Int) := by rw [loB_toNat wd]; omega
      have ev3 : (v : Int) / 256 = ((hiB v).toNat : Int) := by rw [hiB_toNat v hv]; omega
      have ev4 : (v : Int) % 256 = ((loB v).toNat : Int) := by rw [loB_toNat v]; omega
      have hw4 : (w3.drewN nq).heap.size = w2.heap.size + 1 := hw3
      have HO4 := Lib.hid (HO3.out.ext (ext_drewN (Below.refl _ _) nq))
      have HB4 := Lib.hid (ext_drewN HB3.out nq)
      clear HO3 HB3 hc0 hf0 hc1' hf1 hgx hgy hw3
      generalize w3.drewN nq = w4 at *
      obtain ⟨hc0, hf0⟩ := HO4.out.cell 0 (by rw [L2.out]; omega)
      obtain ⟨hc1', hf1⟩ := HO4.out.cell 1 (by rw [L2.out]; omega)
      obtain ⟨hci, hfi⟩ := HO4.out.cell i (by rw [L2.out]; omega)
      obtain ⟨hcj, hfj⟩ := HO4.out.cell (i + 1) (by rw [L2.out]; omega)
      have hne0 : ¬ i = 0 := by omega
      have hne1 : ¬ i = 1 := by omega
      have hne2 : ¬ 0 = i := by omega
      have hne3 : ¬ 1 = i := by omega
      go_wp2_with fail
      have hsz : ((((w4.setCell ⟨g, i, none⟩ (.int .u8 ((hiB wd).toNat : Int))).setCell ⟨g, i + 1, none⟩ (.int .u8 ((loB wd).toNat : Int))).setCell ⟨g, 0, none⟩ (.int .u8 ((hiB v).toNat : Int))).setCell ⟨g, 1, none⟩ (.int .u8 ((loB v).toNat : Int))).heap.size = w2.heap.size + 1 := by simp [hw4]
      have HO5 : Hid (OwnB w.heap.size 5 ((((w4.setCell ⟨g, i, none⟩ (.int .u8 ((hiB wd).toNat : Int))).setCell ⟨g, i + 1, none⟩ (.int .u8 ((loB wd).toNat : Int))).setCell ⟨g, 0, none⟩ (.int .u8 ((hiB v).toNat : Int))).setCell ⟨g, 1, none⟩ (.int .u8 ((loB v).toNat : Int))) (.slice (some ⟨g, 0, none⟩) m c1) (setWord (setWord l2 jw (hiB wd) (loB wd)) 0 (hiB v) (loB v))) := by
        have := (HO4.out.setWord jw (hiB wd) (loB wd)).setWord 0 (hiB v) (loB v)
        rw [HI.out] at this
        exact this
      have HB5 : Hid (Below w.heap.size w ((((w4.setCell ⟨g, i, none⟩ (.int .u8 ((hiB wd).toNat : Int))).setCell ⟨g, i + 1, none⟩ (.int .u8 ((loB wd).toNat : Int))).setCell ⟨g, 0, none⟩ (.int .u8 ((hiB v).toNat : Int))).setCell ⟨g, 1, none⟩ (.int .u8 ((loB v).toNat : Int)))) := Lib.hid ((((HB4.out.setCell (p := ⟨g, i, none⟩) hg1 _).setCell (p := ⟨g, i + 1, none⟩) hg1 _).setCell (p := ⟨g, 0, none⟩) hg1 _).setCell (p := ⟨g, 1, none⟩) hg1 _)
      have L4 : Hid ((setWord (setWord l2 jw (hiB wd) (loB wd)) 0 (hiB v) (loB v)).length = m) := by show _ = _; rw [setWord_length, setWord_length, L2.out]
      rw [← hsz]
      generalize (((w4.setCell ⟨g, i, none⟩ (.int .u8 ((hiB wd).toNat : Int))).setCell ⟨g, i + 1, none⟩ (.int .u8 ((loB wd).toNat : Int))).setCell ⟨g, 0, none⟩ (.int .u8 ((hiB v).toNat : Int))).setCell ⟨g, 1, none⟩ (.int .u8 ((loB v).toNat : Int)) = w5 at *
      clear hc0 hf0 hc1' hf1 hci hfi hcj hfj hsz HO4 HB4 ev1 ev2 ev3 ev4
      generalize setWord (setWord l2 jw (hiB wd) (loB wd)) 0 (hiB v) (loB v) = l4 at *
      have hL4 := L4.out
      obtain ⟨A2, c2, e2, hr2, _, _⟩ := HO5.out.form
      injection e2 with ea eb ec
      subst ea ec
      clear eb
      have HR4 := Lib.hid hr2
      have HB6 := Lib.hid (ext_trans HB5.out (ext_alloc w5 (Obj.cells #[Value.slice (some ⟨g, 0, none⟩) m c1] 22)))
      refine (valid_calls _ 1 [l4] _ (RBB.one _ _ m l4 HR4.out hL4.symm hc1 _) (by simp) (one_len (by rw [hL4]; omega))).mono ?_
      rintro e w6 ⟨rfl, rfl⟩
      rw [LH.out]
      generalize w5.alloc (Obj.cells #[Value.slice (some ⟨g, 0, none⟩) m c1] 22) = w6 at *
      clear hL4 hr2
      go_wp2_with fail
      refine (awake_calls _ (HN.out.ext HB6.out)).mono ?_
      rintro e wz ⟨rfl, hbz⟩
      have HBz := Lib.hid (ext_trans HB6.out hbz)
      clear hbz
      go_wp2
      go_ret
      exact ⟨rfl, HBz.out⟩
end Go.Proofs.YtnknkmpdkdpnaaaDoor
