/- digest: spread. -/
import Derived.Test.YtchbnablefoemaaDoorDigA
namespace Go.Proofs.YtchbnablefoemaaDoor
open Go.RowKit
set_option linter.unusedVariables false

set_option maxRecDepth 8000 in
set_option maxHeartbeats 1000000 in
theorem spread_calls (A : Option Addr) (c : Nat) (l : List UInt8) (w : World) (h : RB w A l) (hl : l.length = 64) :
    Calls Tryd.prog 23 #[.slice A 64 c] w fun e w' => e = .returned (.agg ((spreadL l).map vw).toArray) ∧ Below w.heap.size w w' := by
  have H := Lib.hid h
  have HL := Lib.hid hl
  clear h hl
  go_enter Tryd.func23, Tryd.ntmps23
  go_wp2_with fail
  go_loopw [10] (fun i wr => ∃ k : Nat, k ≤ 16 ∧ i = .int .i64 k ∧ Hid (WA wr (w.heap.size + 1) 54 (spr1 l k)) ∧ Hid (WA wr w.heap.size 54 (List.replicate 64 0)) ∧ Hid (Below w.heap.size w wr)) (fun i _ => 16 - (intOf i).toNat)
  case atStart => exact ⟨0, Nat.zero_le _, rfl, Lib.hid (heap_new (w.alloc _) _ (by simp)), Lib.hid (heap_old (heap_new w _ rfl)), Lib.hid ((ext_alloc w _).alloc (by simp) _)⟩
  case round =>
    obtain ⟨k, hk, rfl, HW, HZ, HB⟩ := hrel
    by_cases h1 : k < 16
    · obtain ⟨j, hj⟩ : ∃ j, 4 * k = j := ⟨_, rfl⟩
      have h4 : 4 * (k : Int) = (j : Int) := by omega
      have hj60 : j + 3 < 64 := by omega
      have HJ := Lib.hid hj
      clear hj
      obtain ⟨b, o, rfl, hc0⟩ := (H.out.ext HB.out) j (by rw [HL.out]; omega)
      obtain ⟨_, _, e1, hc1⟩ := (H.out.ext HB.out) (j + 1) (by rw [HL.out]; omega)
      cases e1
      obtain ⟨_, _, e1, hc2⟩ := (H.out.ext HB.out) (j + 2) (by rw [HL.out]; omega)
      cases e1
      obtain ⟨_, _, e1, hc3⟩ := (H.out.ext HB.out) (j + 3) (by rw [HL.out]; omega)
      cases e1
      have g0 := gb_lt l j
      have g1 := gb_lt l (j + 1)
      have g2 := gb_lt l (j + 2)
      have g3 := gb_lt l (j + 3)
      have hcw := HW.out.cell k (by rw [spr1_length]; omega)
      have hfw := HW.out.frozen k
      have HE : Hid (be4 l k = gb l j * 16777216 ||| gb l (j + 1) * 65536 ||| gb l (j + 2) * 256 ||| gb l (j + 3)) := by show _ = _; unfold be4; rw [HJ.out]
      generalize gb l j = x0 at *
      generalize gb l (j + 1) = x1 at *
      generalize gb l (j + 2) = x2 at *
      generalize gb l (j + 3) = x3 at *
      have C0 := Lib.hid hc0
      have C1 := Lib.hid hc1
      have C2 := Lib.hid hc2
      have C3 := Lib.hid hc3
      have CW := Lib.hid hcw
      have FW := Lib.hid hfw
      clear hc0 hc1 hc2 hc3 hcw hfw
      obtain ⟨y1, hy1⟩ : ∃ y, x0 * 16777216 ||| x1 * 65536 = y := ⟨_, rfl⟩
      have by1 : y1 < 4294967296 := by rw [← hy1]; exact or_lt32 (by omega) (by omega)
      obtain ⟨y2, hy2⟩ : ∃ y, y1 ||| x2 * 256 = y := ⟨_, rfl⟩
      have by2 : y2 < 4294967296 := by rw [← hy2]; exact or_lt32 by1 (by omega)
      obtain ⟨y3, hy3⟩ : ∃ y, y2 ||| x3 = y := ⟨_, rfl⟩
      have Y1 : Hid (bits BinOp.or IntKind.u32 ((x0 : Int) * 16777216) ((x1 : Int) * 65536) = (y1 : Int)) := by
        show _ = _
        have e := or_u32 (x0 * 16777216) (x1 * 65536) (by omega) (by omega)
        rw [hy1] at e
        rw [← e]
        simp
      have Y2 : Hid (bits BinOp.or IntKind.u32 (y1 : Int) ((x2 : Int) * 256) = (y2 : Int)) := by
        show _ = _
        have e := or_u32 y1 (x2 * 256) by1 (by omega)
        rw [hy2] at e
        rw [← e]
        simp
      have Y3 : Hid (bits BinOp.or IntKind.u32 (y2 : Int) (x3 : Int) = (y3 : Int)) := by
        show _ = _
        have e := or_u32 y2 x3 by2 (by omega)
        rw [hy3] at e
        rw [← e]
      have HE3 : Hid (be4 l k = y3) := by show _ = _; rw [HE.out, hy1, hy2, hy3]
      clear hy1 hy2 hy3 HE
      go_wp2_with fail
-- REGION spread5
      refine wp_region_inv [[], [], [], [2], [1, 2, 3], [1, 2, 3, 4], [1, 2, 3, 4, 5], [1, 2, 3, 4, 5, 6], [], [], [9], [9, 10], [8, 9, 10, 11], [8, 9, 10, 11, 12], [8, 9, 10, 11, 12, 13], [8, 9, 10, 11, 12, 13, 14], [1, 2, 3, 4, 5, 6, 7, 8, 9, 10, 11, 12, 13, 14, 15], [], [], [18], [18, 19], [17, 18, 19, 20], [17, 18, 19, 20, 21], [17, 18, 19, 20, 21, 22], [17, 18, 19, 20, 21, 22, 23], [1, 2, 3, 4, 5, 6, 7, 8, 9, 10, 11, 12, 13, 14, 15, 16, 17, 18, 19, 20, 21, 22, 23, 24], [], [], [27], [27, 28], [26, 27, 28, 29], [26, 27, 28, 29, 30], [26, 27, 28, 29, 30, 31], [1, 2, 3, 4, 5, 6, 7, 8, 9, 10, 11, 12, 13, 14, 15, 16, 17, 18, 19, 20, 21, 22, 23, 24, 25, 26, 27, 28, 29, 30, 31, 32], [0, 1, 2, 3, 4, 5, 6, 7, 8, 9, 10, 11, 12, 13, 14, 15, 16, 17, 18, 19, 20, 21, 22, 23, 24, 25, 26, 27, 28, 29, 30, 31, 32, 33], [0, 1, 2, 3, 4, 5, 6, 7, 8, 9, 10, 11, 12, 13, 14, 15, 16, 17, 18, 19, 20, 21, 22, 23, 24, 25, 26, 27, 28, 29, 30, 31, 32, 33, 34]]
        [fun u => u = .int .i64 (k : Int),
         fun u => u = .slice (some ⟨b, o, none⟩) 64 c,
         fun u => u = .int .i64 (k : Int),
         fun u => u = .int .i64 (j : Int),
         fun u => u = .pointer (some ⟨b, o + j, none⟩),
         fun u => u = .int .u8 (x0 : Int),
         fun u => u = .int .u32 (x0 : Int),
         fun u => u = .int .u32 ((x0 : Int) * 16777216),
         fun u => u = .slice (some ⟨b, o, none⟩) 64 c,
         fun u => u = .int .i64 (k : Int),
         fun u => u = .int .i64 (j : Int),
         fun u => u = .int .i64 ((j : Int) + 1),
         fun u => u = .pointer (some ⟨b, o + (j + 1), none⟩),
         fun u => u = .int .u8 (x1 : Int),
         fun u => u = .int .u32 (x1 : Int),
         fun u => u = .int .u32 ((x1 : Int) * 65536),
         fun u => u = .int .u32 (y1 : Int),
         fun u => u = .slice (some ⟨b, o, none⟩) 64 c,
         fun u => u = .int .i64 (k : Int),
         fun u => u = .int .i64 (j : Int),
         fun u => u = .int .i64 ((j : Int) + 2),
         fun u => u = .pointer (some ⟨b, o + (j + 2), none⟩),
         fun u => u = .int .u8 (x2 : Int),
         fun u => u = .int .u32 (x2 : Int),
         fun u => u = .int .u32 ((x2 : Int) * 256),
         fun u => u = .int .u32 (y2 : Int),
         fun u => u = .slice (some ⟨b, o, none⟩) 64 c,
         fun u => u = .int .i64 (k : Int),
         fun u => u = .int .i64 (j : Int),
         fun u => u = .int .i64 ((j : Int) + 3),
         fun u => u = .pointer (some ⟨b, o + (j + 3), none⟩),
         fun u => u = .int .u8 (x3 : Int),
         fun u => u = .int .u32 (x3 : Int),
         fun u => u = .int .u32 (y3 : Int),
         fun u => u = .pointer (some ⟨(w.heap.size + 1), k, none⟩),
         fun _ => True]
        (fun u => ⟨#[Value.slice (some { block := b, off := o }) 64 c, undef, Value.pointer (some { block := w.heap.size, off := 0 }), Value.pointer (some { block := w.heap.size + 1, off := 0 }), Value.int IntKind.i64 (k : Int), undef, undef, undef, undef, undef, Value.int IntKind.i64 (k : Int), Value.bool (decide ((k : Int) < 16)), Value.int IntKind.i64 (k : Int), u 0, u 1, u 2, u 3, u 4, u 5, u 6, u 7, u 8, u 9, u 10, u 11, u 12, u 13, u 14, u 15, u 16, u 17, u 18, u 19, u 20, u 21, u 22, u 23, u 24, u 25, u 26, u 27, u 28, u 29, u 30, u 31, u 32, u 33, u 34, u48, undef, undef, undef, undef, undef, undef, undef, undef, undef, undef, undef, undef, undef, undef, undef, undef, undef, undef, undef, undef, undef, undef, undef, undef, undef, undef, undef, undef, undef, undef, undef, undef, undef, undef, undef, undef, undef, undef, undef, undef, undef, undef, undef, undef], []⟩)
        (fun bb w2 => w2 = bif bb 35 then wr.drew.setCell ⟨w.heap.size + 1, k, none⟩ (.int .u32 (y3 : Int)) else wr.drew) (fun j => [u13, u14, u15, u16, u17, u18, u19, u20, u21, u22, u23, u24, u25, u26, u27, u28, u29, u30, u31, u32, u33, u34, u35, u36, u37, u38, u39, u40, u41, u42, u43, u44, u45, u46, u47, undef].getD j undef) (by kernel_rfl) (by kernel_rfl) (by kernel_rfl) rfl (rfl) ?_ ?_
      · refine ⟨?_, ?_, ?_, ?_, ?_, ?_, ?_, ?_, ?_, ?_, ?_, ?_, ?_, ?_, ?_, ?_, ?_, ?_, ?_, ?_, ?_, ?_, ?_, ?_, ?_, ?_, ?_, ?_, ?_, ?_, ?_, ?_, ?_, ?_, ?_, ?_, trivial⟩
        · intro bb u w2 hv hbi hC hF J K hJ hK
          have HV := Lib.hid hv
          have HF := Lib.hid hF
          have HC := Lib.hid hC
          have HBI := Lib.hid hbi
          clear hv hF hC hbi
          go_wp2
          exact hJ _ _ _ (HV.out) (rfl) (by simp [setU] <;> omega)
        · intro bb u w2 hv hbi hC hF J K hJ hK
          have HV := Lib.hid hv
          have HF := Lib.hid hF
          have HC := Lib.hid hC
          have HBI := Lib.hid hbi
          clear hv hF hC hbi
          go_wp2
          exact hJ _ _ _ (HV.out) (rfl) (by simp [setU] <;> omega)
        · intro bb u w2 hv hbi hC hF J K hJ hK
          have HV := Lib.hid hv
          have HF := Lib.hid hF
          have HC := Lib.hid hC
          have HBI := Lib.hid hbi
          clear hv hF hC hbi
          go_wp2
          exact hJ _ _ _ (HV.out) (rfl) (by simp [setU] <;> omega)
        · intro bb u w2 hv hbi hC hF J K hJ hK
          have HV := Lib.hid hv
          have HF := Lib.hid hF
          have HC := Lib.hid hC
          have HBI := Lib.hid hbi
          clear hv hF hC hbi
          have f2 : u 2 = .int .i64 (k : Int) := (HF.out 2 (by decide)).2
          go_wp2
          exact hJ _ _ _ (HV.out) (rfl) (by simp [setU, f2] <;> omega)
        · intro bb u w2 hv hbi hC hF J K hJ hK
          have HV := Lib.hid hv
          have HF := Lib.hid hF
          have HC := Lib.hid hC
          have HBI := Lib.hid hbi
          clear hv hF hC hbi
          have f1 : u 1 = .slice (some ⟨b, o, none⟩) 64 c := (HF.out 1 (by decide)).2
          have f3 : u 3 = .int .i64 (j : Int) := (HF.out 3 (by decide)).2
          go_wp2
          exact hJ _ _ _ (HV.out) (rfl) (by simp [setU, f1, f3] <;> omega)
        · intro bb u w2 hv hbi hC hF J K hJ hK
          have HV := Lib.hid hv
          have HF := Lib.hid hF
          have HC := Lib.hid hC
          have HBI := Lib.hid hbi
          clear hv hF hC hbi
          have f4 : u 4 = .pointer (some ⟨b, o + j, none⟩) := (HF.out 4 (by decide)).2
          have n35 : bb 35 = false := by cases h : bb 35 with | false => rfl | true => exact absurd (HC.out 35 5 (by decide) h) (by rw [HBI.out]; decide)
          have hw : w2 = wr.drew := by have k := HV.out; rw [n35] at k; exact k
          have hc : w2.cell? ⟨b, o + j, none⟩ = some (.int .u8 (x0 : Int)) := by rw [hw]; exact C0.out
          clear n35 hw
          go_wp2
          exact hJ _ _ _ (HV.out) (rfl) (by simp [setU, f4] <;> omega)
        · intro bb u w2 hv hbi hC hF J K hJ hK
          have HV := Lib.hid hv
          have HF := Lib.hid hF
          have HC := Lib.hid hC
          have HBI := Lib.hid hbi
          clear hv hF hC hbi
          have f5 : u 5 = .int .u8 (x0 : Int) := (HF.out 5 (by decide)).2
          go_wp2
          exact hJ _ _ _ (HV.out) (rfl) (by simp [setU, f5] <;> omega)
        · intro bb u w2 hv hbi hC hF J K hJ hK
          have HV := Lib.hid hv
          have HF := Lib.hid hF
          have HC := Lib.hid hC
          have HBI := Lib.hid hbi
          clear hv hF hC hbi
          have f6 : u 6 = .int .u32 (x0 : Int) := (HF.out 6 (by decide)).2
          go_wp2
          exact hJ _ _ _ (HV.out) (rfl) (by simp [setU, f6] <;> omega)
        · intro bb u w2 hv hbi hC hF J K hJ hK
          have HV := Lib.hid hv
          have HF := Lib.hid hF
          have HC := Lib.hid hC
          have HBI := Lib.hid hbi
          clear hv hF hC hbi
          go_wp2
          exact hJ _ _ _ (HV.out) (rfl) (by simp [setU] <;> omega)
        · intro bb u w2 hv hbi hC hF J K hJ hK
          have HV := Lib.hid hv
          have HF := Lib.hid hF
          have HC := Lib.hid hC
          have HBI := Lib.hid hbi
          clear hv hF hC hbi
          go_wp2
          exact hJ _ _ _ (HV.out) (rfl) (by simp [setU] <;> omega)
        · intro bb u w2 hv hbi hC hF J K hJ hK
          have HV := Lib.hid hv
          have HF := Lib.hid hF
          have HC := Lib.hid hC
          have HBI := Lib.hid hbi
          clear hv hF hC hbi
          have f9 : u 9 = .int .i64 (k : Int) := (HF.out 9 (by decide)).2
          go_wp2
          exact hJ _ _ _ (HV.out) (rfl) (by simp [setU, f9] <;> omega)
        · intro bb u w2 hv hbi hC hF J K hJ hK
          have HV := Lib.hid hv
          have HF := Lib.hid hF
          have HC := Lib.hid hC
          have HBI := Lib.hid hbi
          clear hv hF hC hbi
          have f10 : u 10 = .int .i64 (j : Int) := (HF.out 10 (by decide)).2
          go_wp2
          exact hJ _ _ _ (HV.out) (rfl) (by simp [setU, f10] <;> omega)
        · intro bb u w2 hv hbi hC hF J K hJ hK
          have HV := Lib.hid hv
          have HF := Lib.hid hF
          have HC := Lib.hid hC
          have HBI := Lib.hid hbi
          clear hv hF hC hbi
          have f8 : u 8 = .slice (some ⟨b, o, none⟩) 64 c := (HF.out 8 (by decide)).2
          have f11 : u 11 = .int .i64 ((j : Int) + 1) := (HF.out 11 (by decide)).2
          go_wp2
          exact hJ _ _ _ (HV.out) (rfl) (by simp [setU, f8, f11] <;> omega)
        · intro bb u w2 hv hbi hC hF J K hJ hK
          have HV := Lib.hid hv
          have HF := Lib.hid hF
          have HC := Lib.hid hC
          have HBI := Lib.hid hbi
          clear hv hF hC hbi
          have f12 : u 12 = .pointer (some ⟨b, o + (j + 1), none⟩) := (HF.out 12 (by decide)).2
          have n35 : bb 35 = false := by cases h : bb 35 with | false => rfl | true => exact absurd (HC.out 35 13 (by decide) h) (by rw [HBI.out]; decide)
          have hw : w2 = wr.drew := by have k := HV.out; rw [n35] at k; exact k
          have hc : w2.cell? ⟨b, o + (j + 1), none⟩ = some (.int .u8 (x1 : Int)) := by rw [hw]; exact C1.out
          clear n35 hw
          go_wp2
          exact hJ _ _ _ (HV.out) (rfl) (by simp [setU, f12] <;> omega)
        · intro bb u w2 hv hbi hC hF J K hJ hK
          have HV := Lib.hid hv
          have HF := Lib.hid hF
          have HC := Lib.hid hC
          have HBI := Lib.hid hbi
          clear hv hF hC hbi
          have f13 : u 13 = .int .u8 (x1 : Int) := (HF.out 13 (by decide)).2
          go_wp2
          exact hJ _ _ _ (HV.out) (rfl) (by simp [setU, f13] <;> omega)
        · intro bb u w2 hv hbi hC hF J K hJ hK
          have HV := Lib.hid hv
          have HF := Lib.hid hF
          have HC := Lib.hid hC
          have HBI := Lib.hid hbi
          clear hv hF hC hbi
          have f14 : u 14 = .int .u32 (x1 : Int) := (HF.out 14 (by decide)).2
          go_wp2
          exact hJ _ _ _ (HV.out) (rfl) (by simp [setU, f14] <;> omega)
        · intro bb u w2 hv hbi hC hF J K hJ hK
          have HV := Lib.hid hv
          have HF := Lib.hid hF
          have HC := Lib.hid hC
          have HBI := Lib.hid hbi
          clear hv hF hC hbi
          have f7 : u 7 = .int .u32 ((x0 : Int) * 16777216) := (HF.out 7 (by decide)).2
          have f15 : u 15 = .int .u32 ((x1 : Int) * 65536) := (HF.out 15 (by decide)).2
          have y := Y1.out
          go_wp2
          exact hJ _ _ _ (HV.out) (rfl) (by simp [setU, f7, f15] <;> omega)
        · intro bb u w2 hv hbi hC hF J K hJ hK
          have HV := Lib.hid hv
          have HF := Lib.hid hF
          have HC := Lib.hid hC
          have HBI := Lib.hid hbi
          clear hv hF hC hbi
          go_wp2
          exact hJ _ _ _ (HV.out) (rfl) (by simp [setU] <;> omega)
        · intro bb u w2 hv hbi hC hF J K hJ hK
          have HV := Lib.hid hv
          have HF := Lib.hid hF
          have HC := Lib.hid hC
          have HBI := Lib.hid hbi
          clear hv hF hC hbi
          go_wp2
          exact hJ _ _ _ (HV.out) (rfl) (by simp [setU] <;> omega)
        · intro bb u w2 hv hbi hC hF J K hJ hK
          have HV := Lib.hid hv
          have HF := Lib.hid hF
          have HC := Lib.hid hC
          have HBI := Lib.hid hbi
          clear hv hF hC hbi
          have f18 : u 18 = .int .i64 (k : Int) := (HF.out 18 (by decide)).2
          go_wp2
          exact hJ _ _ _ (HV.out) (rfl) (by simp [setU, f18] <;> omega)
        · intro bb u w2 hv hbi hC hF J K hJ hK
          have HV := Lib.hid hv
          have HF := Lib.hid hF
          have HC := Lib.hid hC
          have HBI := Lib.hid hbi
          clear hv hF hC hbi
          have f19 : u 19 = .int .i64 (j : Int) := (HF.out 19 (by decide)).2
          go_wp2
          exact hJ _ _ _ (HV.out) (rfl) (by simp [setU, f19] <;> omega)
        · intro bb u w2 hv hbi hC hF J K hJ hK
          have HV := Lib.hid hv
          have HF := Lib.hid hF
          have HC := Lib.hid hC
          have HBI := Lib.hid hbi
          clear hv hF hC hbi
          have f17 : u 17 = .slice (some ⟨b, o, none⟩) 64 c := (HF.out 17 (by decide)).2
          have f20 : u 20 = .int .i64 ((j : Int) + 2) := (HF.out 20 (by decide)).2
          go_wp2
          exact hJ _ _ _ (HV.out) (rfl) (by simp [setU, f17, f20] <;> omega)
        · intro bb u w2 hv hbi hC hF J K hJ hK
          have HV := Lib.hid hv
          have HF := Lib.hid hF
          have HC := Lib.hid hC
          have HBI := Lib.hid hbi
          clear hv hF hC hbi
          have f21 : u 21 = .pointer (some ⟨b, o + (j + 2), none⟩) := (HF.out 21 (by decide)).2
          have n35 : bb 35 = false := by cases h : bb 35 with | false => rfl | true => exact absurd (HC.out 35 22 (by decide) h) (by rw [HBI.out]; decide)
          have hw : w2 = wr.drew := by have k := HV.out; rw [n35] at k; exact k
          have hc : w2.cell? ⟨b, o + (j + 2), none⟩ = some (.int .u8 (x2 : Int)) := by rw [hw]; exact C2.out
          clear n35 hw
          go_wp2
          exact hJ _ _ _ (HV.out) (rfl) (by simp [setU, f21] <;> omega)
        · intro bb u w2 hv hbi hC hF J K hJ hK
          have HV := Lib.hid hv
          have HF := Lib.hid hF
          have HC := Lib.hid hC
          have HBI := Lib.hid hbi
          clear hv hF hC hbi
          have f22 : u 22 = .int .u8 (x2 : Int) := (HF.out 22 (by decide)).2
          go_wp2
          exact hJ _ _ _ (HV.out) (rfl) (by simp [setU, f22] <;> omega)
        · intro bb u w2 hv hbi hC hF J K hJ hK
          have HV := Lib.hid hv
          have HF := Lib.hid hF
          have HC := Lib.hid hC
          have HBI := Lib.hid hbi
          clear hv hF hC hbi
          have f23 : u 23 = .int .u32 (x2 : Int) := (HF.out 23 (by decide)).2
          go_wp2
          exact hJ _ _ _ (HV.out) (rfl) (by simp [setU, f23] <;> omega)
        · intro bb u w2 hv hbi hC hF J K hJ hK
          have HV := Lib.hid hv
          have HF := Lib.hid hF
          have HC := Lib.hid hC
          have HBI := Lib.hid hbi
          clear hv hF hC hbi
          have f16 : u 16 = .int .u32 (y1 : Int) := (HF.out 16 (by decide)).2
          have f24 : u 24 = .int .u32 ((x2 : Int) * 256) := (HF.out 24 (by decide)).2
          have y := Y2.out
          go_wp2
          exact hJ _ _ _ (HV.out) (rfl) (by simp [setU, f16, f24] <;> omega)
        · intro bb u w2 hv hbi hC hF J K hJ hK
          have HV := Lib.hid hv
          have HF := Lib.hid hF
          have HC := Lib.hid hC
          have HBI := Lib.hid hbi
          clear hv hF hC hbi
          go_wp2
          exact hJ _ _ _ (HV.out) (rfl) (by simp [setU] <;> omega)
        · intro bb u w2 hv hbi hC hF J K hJ hK
          have HV := Lib.hid hv
          have HF := Lib.hid hF
          have HC := Lib.hid hC
          have HBI := Lib.hid hbi
          clear hv hF hC hbi
          go_wp2
          exact hJ _ _ _ (HV.out) (rfl) (by simp [setU] <;> omega)
        · intro bb u w2 hv hbi hC hF J K hJ hK
          have HV := Lib.hid hv
          have HF := Lib.hid hF
          have HC := Lib.hid hC
          have HBI := Lib.hid hbi
          clear hv hF hC hbi
          have f27 : u 27 = .int .i64 (k : Int) := (HF.out 27 (by decide)).2
          go_wp2
          exact hJ _ _ _ (HV.out) (rfl) (by simp [setU, f27] <;> omega)
        · intro bb u w2 hv hbi hC hF J K hJ hK
          have HV := Lib.hid hv
          have HF := Lib.hid hF
          have HC := Lib.hid hC
          have HBI := Lib.hid hbi
          clear hv hF hC hbi
          have f28 : u 28 = .int .i64 (j : Int) := (HF.out 28 (by decide)).2
          go_wp2
          exact hJ _ _ _ (HV.out) (rfl) (by simp [setU, f28] <;> omega)
        · intro bb u w2 hv hbi hC hF J K hJ hK
          have HV := Lib.hid hv
          have HF := Lib.hid hF
          have HC := Lib.hid hC
          have HBI := Lib.hid hbi
          clear hv hF hC hbi
          have f26 : u 26 = .slice (some ⟨b, o, none⟩) 64 c := (HF.out 26 (by decide)).2
          have f29 : u 29 = .int .i64 ((j : Int) + 3) := (HF.out 29 (by decide)).2
          go_wp2
          exact hJ _ _ _ (HV.out) (rfl) (by simp [setU, f26, f29] <;> omega)
        · intro bb u w2 hv hbi hC hF J K hJ hK
          have HV := Lib.hid hv
          have HF := Lib.hid hF
          have HC := Lib.hid hC
          have HBI := Lib.hid hbi
          clear hv hF hC hbi
          have f30 : u 30 = .pointer (some ⟨b, o + (j + 3), none⟩) := (HF.out 30 (by decide)).2
          have n35 : bb 35 = false := by cases h : bb 35 with | false => rfl | true => exact absurd (HC.out 35 31 (by decide) h) (by rw [HBI.out]; decide)
          have hw : w2 = wr.drew := by have k := HV.out; rw [n35] at k; exact k
          have hc : w2.cell? ⟨b, o + (j + 3), none⟩ = some (.int .u8 (x3 : Int)) := by rw [hw]; exact C3.out
          clear n35 hw
          go_wp2
          exact hJ _ _ _ (HV.out) (rfl) (by simp [setU, f30] <;> omega)
        · intro bb u w2 hv hbi hC hF J K hJ hK
          have HV := Lib.hid hv
          have HF := Lib.hid hF
          have HC := Lib.hid hC
          have HBI := Lib.hid hbi
          clear hv hF hC hbi
          have f31 : u 31 = .int .u8 (x3 : Int) := (HF.out 31 (by decide)).2
          go_wp2
          exact hJ _ _ _ (HV.out) (rfl) (by simp [setU, f31] <;> omega)
        · intro bb u w2 hv hbi hC hF J K hJ hK
          have HV := Lib.hid hv
          have HF := Lib.hid hF
          have HC := Lib.hid hC
          have HBI := Lib.hid hbi
          clear hv hF hC hbi
          have f25 : u 25 = .int .u32 (y2 : Int) := (HF.out 25 (by decide)).2
          have f32 : u 32 = .int .u32 (x3 : Int) := (HF.out 32 (by decide)).2
          have y := Y3.out
          go_wp2
          exact hJ _ _ _ (HV.out) (rfl) (by simp [setU, f25, f32] <;> omega)
        · intro bb u w2 hv hbi hC hF J K hJ hK
          have HV := Lib.hid hv
          have HF := Lib.hid hF
          have HC := Lib.hid hC
          have HBI := Lib.hid hbi
          clear hv hF hC hbi
          have f0 : u 0 = .int .i64 (k : Int) := (HF.out 0 (by decide)).2
          go_wp2
          exact hJ _ _ _ (HV.out) (rfl) (by simp [setU, f0] <;> omega)
        · intro bb u w2 hv hbi hC hF J K hJ hK
          have HV := Lib.hid hv
          have HF := Lib.hid hF
          have HC := Lib.hid hC
          have HBI := Lib.hid hbi
          clear hv hF hC hbi
          have f33 : u 33 = .int .u32 (y3 : Int) := (HF.out 33 (by decide)).2
          have f34 : u 34 = .pointer (some ⟨(w.heap.size + 1), k, none⟩) := (HF.out 34 (by decide)).2
          have hw : w2 = wr.drew := by have k := HV.out; rw [HBI.out] at k; exact k
          have hc : w2.cell? ⟨w.heap.size + 1, k, none⟩ = some (.int .u32 (gw (spr1 l k) k : Int)) := by rw [hw]; exact CW.out
          have hf : w2.frozen? ⟨w.heap.size + 1, k, none⟩ = false := by rw [hw]; exact FW.out
          have HW2 := Lib.hid hw
          clear hw
          go_wp2
          exact hJ undef _ _ (by rw [HW2.out]; rfl) (trivial) (by simp [setU, f33, f34] <;> omega)
      · intro bb u w2 hb hv hF
        have HV := Lib.hid hv
        have HBB := Lib.hid hb
        clear hv hb hF
        have hw : w2 = wr.drew.setCell ⟨w.heap.size + 1, k, none⟩ (.int .u32 (y3 : Int)) := by have h := HV.out; rw [HBB.out 35 (by decide)] at h; exact h
        have HW2 : Hid (WA w2 (w.heap.size + 1) 54 (spr1 l (k + 1))) := by
          rw [hw, spr1, HE3.out]
          exact Lib.hid (HW.out.drew.set k y3)
        have HZ2 : Hid (WA w2 w.heap.size 54 (List.replicate 64 0)) := by rw [hw]; exact Lib.hid (HZ.out.drew.other k _ (by omega))
        have HB2 : Hid (Below w.heap.size w w2) := by rw [hw]; exact Lib.hid (HB.out.drew.setCell (p := ⟨w.heap.size + 1, k, none⟩) (Nat.le_succ _) _)
        clear hw HV HW HZ HB
        dsimp only
        go_wp2
        exact ⟨⟨k + 1, by omega, by go_num, HW2, HZ2, HB2⟩, by simp [intOf]; omega⟩
-- END spread5
    · obtain rfl : k = 16 := by omega
      have HW' : Hid (WA wr (w.heap.size + 1) 54 (spr2 l 0)) := HW
      have HB' := HB
      have HZ' := HZ
      clear HW HB HZ h1 hk
      go_wp2_with fail
      go_loopw [5] (fun i w2 => ∃ k : Nat, k ≤ 48 ∧ i = .int .i64 (16 + (k : Int)) ∧ Hid (WA w2 (w.heap.size + 1) 54 (spr2 l k)) ∧ Hid (WA w2 w.heap.size 54 (List.replicate 64 0)) ∧ Hid (Below w.heap.size w w2)) (fun i _ => 64 - (intOf i).toNat)
      case atStart => exact ⟨0, Nat.zero_le _, rfl, HW', HZ', HB'⟩
      case round =>
        obtain ⟨k, hk, rfl, HW, HZ, HB⟩ := hrel
        clear HW' HB' HZ'
        by_cases h1 : k < 48
        · obtain ⟨i, hi⟩ : ∃ i, 16 + k = i := ⟨_, rfl⟩
          have hi16 : 16 + (k : Int) = (i : Int) := by omega
          obtain ⟨i15, h15⟩ : ∃ j, i - 15 = j := ⟨_, rfl⟩
          obtain ⟨i2, h2⟩ : ∃ j, i - 2 = j := ⟨_, rfl⟩
          obtain ⟨i16, h16⟩ : ∃ j, i - 16 = j := ⟨_, rfl⟩
          obtain ⟨i7, h7⟩ : ∃ j, i - 7 = j := ⟨_, rfl⟩
          have s15 : (i : Int) - 15 = (i15 : Int) := by omega
          have s2 : (i : Int) - 2 = (i2 : Int) := by omega
          have s16 : (i : Int) - 16 = (i16 : Int) := by omega
          have s7 : (i : Int) - 7 = (i7 : Int) := by omega
          have hi64 : i < 64 := by omega
          have hl15 : i15 < 64 := by omega
          have hl2 : i2 < 64 := by omega
          have hl16 : i16 < 64 := by omega
          have hl7 : i7 < 64 := by omega
          have hcw := HW.out.cell i (by rw [spr2_length]; omega)
          have hfw := HW.out.frozen i
          have hc15 := HW.out.cell i15 (by rw [spr2_length]; omega)
          have hc2 := HW.out.cell i2 (by rw [spr2_length]; omega)
          have hc16 := HW.out.cell i16 (by rw [spr2_length]; omega)
          have hc7 := HW.out.cell i7 (by rw [spr2_length]; omega)
          have b15 := spr2_words l k i15
          have b2 := spr2_words l k i2
          have b16 := spr2_words l k i16
          have b7 := spr2_words l k i7
          have HE : Hid (wNext (spr2 l k) i = (gw (spr2 l k) i16 + sg0 (gw (spr2 l k) i15) + gw (spr2 l k) i7 + sg1 (gw (spr2 l k) i2)) % 4294967296) := by show _ = _; unfold wNext; rw [h15, h2, h16, h7]
          have HI := Lib.hid hi
          clear hi h15 h2 h16 h7
          generalize gw (spr2 l k) i15 = x15 at *
          generalize gw (spr2 l k) i2 = x2 at *
          generalize gw (spr2 l k) i16 = x16 at *
          generalize gw (spr2 l k) i7 = x7 at *
          have hlt : (i : Int) < 64 := by omega
          have z15 : (0 : Int) ≤ i15 := by omega
          have z2 : (0 : Int) ≤ i2 := by omega
          have z16 : (0 : Int) ≤ i16 := by omega
          have z7 : (0 : Int) ≤ i7 := by omega
          have zi : (0 : Int) ≤ i := by omega
          go_wp2_with fail
          go_region
          have HW2 := Lib.hid HW.out.drew
          have HZ2 : Hid (WA wr.drew w.heap.size 54 (List.replicate 64 0)) := Lib.hid HZ.out.drew
          have HB2 := Lib.hid HB.out.drew
          have hcw' : wr.drew.cell? ⟨w.heap.size + 1, i, none⟩ = _ := hcw
          have hfw' : wr.drew.frozen? ⟨w.heap.size + 1, i, none⟩ = _ := hfw
          have hc16' : wr.drew.cell? ⟨w.heap.size + 1, i16, none⟩ = _ := hc16
          have hc7' : wr.drew.cell? ⟨w.heap.size + 1, i7, none⟩ = _ := hc7
          have K1 := Lib.hid hcw'
          have K2 := Lib.hid hfw'
          have K3 := Lib.hid hc16'
          have K4 := Lib.hid hc7'
          clear hcw hfw hc15 hc2 hc16 hc7 hcw' hfw' hc16' hc7' HW HZ HB
          generalize wr.drew = w3 at *
          obtain ⟨p1, hp1⟩ : ∃ p, rotr x15 7 = p := ⟨_, rfl⟩
          obtain ⟨p2, hp2⟩ : ∃ p, rotr x15 18 = p := ⟨_, rfl⟩
          obtain ⟨q1, hq1⟩ : ∃ p, rotr x2 17 = p := ⟨_, rfl⟩
          obtain ⟨q2, hq2⟩ : ∃ p, rotr x2 19 = p := ⟨_, rfl⟩
          have bp1 : p1 < 4294967296 := by rw [← hp1]; exact rotr_lt _ _ b15
          have bp2 : p2 < 4294967296 := by rw [← hp2]; exact rotr_lt _ _ b15
          have bq1 : q1 < 4294967296 := by rw [← hq1]; exact rotr_lt _ _ b2
          have bq2 : q2 < 4294967296 := by rw [← hq2]; exact rotr_lt _ _ b2
          obtain ⟨s0, hs0⟩ : ∃ p, sg0 x15 = p := ⟨_, rfl⟩
          obtain ⟨s1, hs1⟩ : ∃ p, sg1 x2 = p := ⟨_, rfl⟩
          have bs0 : s0 < 4294967296 := by rw [← hs0]; exact sg0_lt _ b15
          have bs1 : s1 < 4294967296 := by rw [← hs1]; exact sg1_lt _ b2
          obtain ⟨p12, hp12⟩ : ∃ p, p1 ^^^ p2 = p := ⟨_, rfl⟩
          obtain ⟨q12, hq12⟩ : ∃ p, q1 ^^^ q2 = p := ⟨_, rfl⟩
          have P1 := Lib.hid hp1
          have P2 := Lib.hid hp2
          have Q1 := Lib.hid hq1
          have Q2 := Lib.hid hq2
          have e1 := xor_u32 p1 p2 bp1 bp2
          have e3 := xor_u32 q1 q2 bq1 bq2
          have e2 : bits BinOp.xor IntKind.u32 (p12 : Int) ((x15 : Int) / 8) = (s0 : Int) := by
            have e := xor_u32 p12 (x15 / 8) (by rw [← hp12]; exact xor_lt32 bp1 bp2) (by omega)
            rw [← hs0]; unfold sg0; rw [hp1, hp2, hp12, ← e]; simp
          have e4 : bits BinOp.xor IntKind.u32 (q12 : Int) ((x2 : Int) / 1024) = (s1 : Int) := by
            have e := xor_u32 q12 (x2 / 1024) (by rw [← hq12]; exact xor_lt32 bq1 bq2) (by omega)
            rw [← hs1]; unfold sg1; rw [hq1, hq2, hq12, ← e]; simp
          rw [hp12] at e1
          rw [hq12] at e3
          rw [hs0, hs1] at HE
          have E1 := Lib.hid e1
          have E2 := Lib.hid e2
          have E3 := Lib.hid e3
          have E4 := Lib.hid e4
          clear e1 e2 e3 e4 hp1 hp2 hq1 hq2 hs0 hs1 hp12 hq12
          go_wp2_with fail
          refine (rot_calls x15 7 b15 (by decide) (by decide) _).mono ?_
          rintro e w4 ⟨rfl, rfl⟩
          rw [P1.out]
          go_wp2_with fail
          refine (rot_calls x15 18 b15 (by decide) (by decide) _).mono ?_
          rintro e w4 ⟨rfl, rfl⟩
          rw [P2.out]
          have e1 := E1.out
          have e2 := E2.out
          go_wp2_with fail
          refine (rot_calls x2 17 b2 (by decide) (by decide) _).mono ?_
          rintro e w4 ⟨rfl, rfl⟩
          rw [Q1.out]
          go_wp2_with fail
          refine (rot_calls x2 19 b2 (by decide) (by decide) _).mono ?_
          rintro e w4 ⟨rfl, rfl⟩
          rw [Q2.out]
          have e3 := E3.out
          have e4 := E4.out
          go_wp2_with fail
          have hcw := K1.out
          have hfw := K2.out
          have hc16 := K3.out
          have hc7 := K4.out
          go_region
          have ev : ((x16 : Int) + s0 + x7 + s1) % 4294967296 = ((wNext (spr2 l k) i : Nat) : Int) := by rw [HE.out]; simp
          rw [ev]
          have HW3 : Hid (WA (w3.setCell ⟨w.heap.size + 1, i, none⟩ (.int .u32 ((wNext (spr2 l k) i : Nat) : Int))).drew (w.heap.size + 1) 54 (spr2 l (k + 1))) := by
            rw [spr2, HI.out]
            exact Lib.hid (HW2.out.set i _).drew
          have HZ3 : Hid (WA (w3.setCell ⟨w.heap.size + 1, i, none⟩ (.int .u32 ((wNext (spr2 l k) i : Nat) : Int))).drew w.heap.size 54 (List.replicate 64 0)) := Lib.hid (HZ2.out.other i _ (by omega)).drew
          have HB3 : Hid (Below w.heap.size w (w3.setCell ⟨w.heap.size + 1, i, none⟩ (.int .u32 ((wNext (spr2 l k) i : Nat) : Int))).drew) := Lib.hid (HB2.out.setCell (p := ⟨w.heap.size + 1, i, none⟩) (Nat.le_succ _) _).drew
          generalize (w3.setCell ⟨w.heap.size + 1, i, none⟩ (.int .u32 ((wNext (spr2 l k) i : Nat) : Int))).drew = w4 at *
          clear ev hcw hfw hc16 hc7 HW2 HZ2 HB2 e1 e2 e3 e4
          go_wp2
          refine ⟨⟨_, _, _, _, _, _, _, _, _, _, _, _, _, _, _, _, _, _, _, _, _, _, _, _, _, _, _, _, _, _, _, _, _, _, _, _, _, _, _, _, _, _, _, _, _, _, _, _, ⟨k + 1, by omega, by have := HI.out; go_num, HW3, HZ3, HB3⟩, rfl⟩, ?_⟩
          have := HI.out
          simp [intOf]
          omega
        · obtain rfl : k = 48 := by omega
          clear h1
          have hw : WA wr (w.heap.size + 1) 54 (spreadL l) := HW.out
          have hX : (spreadL l).length = 64 := spr2_length l 48
          obtain ⟨X, hSX⟩ : ∃ X, spreadL l = X := ⟨_, rfl⟩
          rw [hSX] at hw hX
          have HSX := Lib.hid hSX
          clear hSX
          have hinfo : (Tryd.prog.info? 54).map (·.size) = some (X.map vw).toArray.size := by
            rw [show (X.map vw).toArray.size = 64 by simp [hX]]
            kernel_rfl
          have hone : (X.map vw).toArray.all (·.oneCell') = true := by simp [vw, Value.oneCell']
          have hz : WA wr w.heap.size 54 (List.replicate 64 0) := HZ.out
          have HX := Lib.hid hX
          have HIN := Lib.hid hinfo
          have HONE := Lib.hid hone
          have HZ := Lib.hid hz
          have HW := Lib.hid hw
          clear hX hinfo hone hz hw
          have hzs : (List.map vw (List.replicate 64 0)).toArray.size = (X.map vw).toArray.size := by simp [HX.out]
          have HZS := Lib.hid hzs
          clear hzs
          go_wp2_with (first | (refine wpList_load_row rfl 54 _ rfl (w.heap.size + 1) rfl 54 _ (0, 0) _ HW.out Tryd.underlying54 rfl HIN.out ?_) | (refine wpList_store_row rfl 54 _ _ rfl w.heap.size _ rfl rfl 54 _ HZ.out HIN.out HZS.out HONE.out ?_))
          have HR : Hid (WA (wr.setRow w.heap.size (List.map vw X).toArray) w.heap.size 54 X) := Lib.hid (setRow_heap wr w.heap.size _ _ _ _ HZ.out)
          have HBR : Hid (Below w.heap.size w (wr.setRow w.heap.size (List.map vw X).toArray)) := Lib.hid ⟨HB.out.os, HB.out.tape, HB.out.output, by simpa [World.setRow] using HB.out.size, fun k hk => (setRow_other wr w.heap.size k _ (by omega)).trans (HB.out.block k hk)⟩
          refine bodyPost_ret (results_cell_row rfl _ _ w.heap.size 54 _ (0, 0) _ rfl HR.out Tryd.underlying54 rfl HIN.out) rfl ?_
          exact ⟨by rw [HSX.out], HBR.out⟩
end Go.Proofs.YtchbnablefoemaaDoor
