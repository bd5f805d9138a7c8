/- rabin: Next. -/
import Derived.Test.YtmohjgcnhibkoaaRabF
import Derived.StillTailTactics
namespace Go.Proofs.Ytmohjgcnhibkoaa
open Go.RowKit
set_option linter.unusedVariables false

theorem next_nil (x : Nat) (w : World) : Calls Try.prog 31 #[.pointer none, .int .u8 (x : Int)] w fun e w' => e = .returned (.int .u64 0) ∧ w = w' := by
  go_enter Try.func31, Try.ntmps31
  go_wp2
  go_ret
  exact ⟨rfl, rfl⟩
theorem next_unmade (r : Nat) (x : Nat) (w : World) (h : w.cell? ⟨r, 0, none⟩ = some (.pointer none)) : Calls Try.prog 31 #[.pointer (some ⟨r, 0, none⟩), .int .u8 (x : Int)] w fun e w' => e = .returned (.int .u64 0) ∧ w = w' := by
  go_enter Try.func31, Try.ntmps31
  go_wp2
  go_ret
  exact ⟨rfl, rfl⟩

theorem grown_drewN {w w' : World} {row : Option Nat} (h : w.grownBy w' row) (n : Nat) : w.grownBy (w'.drewN n) row := ⟨h.os, h.tape, h.output, h.size, h.block⟩
theorem grown_drew {w w' : World} {row : Option Nat} (h : w.grownBy w' row) : w.grownBy w'.drew row := ⟨h.os, h.tape, h.output, h.size, h.block⟩
theorem BK.drewN {w : World} {g : Nat} {t : TypeId} {cs : List Value} (h : BK w g t cs) (n : Nat) : BK (w.drewN n) g t cs := h
theorem outN_lt {p : Nat} (hp : bl p = 32) (i : Nat) : bl (outN p i) ≤ 31 := by
  have := md_lt (i * 2 ^ 120) p (by intro e; rw [e, bl_zero] at hp; omega)
  unfold outN; omega
/-- The fingerprint behind a byte more. -/
def rollN (p f old x : Nat) : Nat := addN p (f ^^^ outN p old) x

set_option maxRecDepth 100000 in
set_option maxHeartbeats 1600000 in
theorem next_calls (r g p : Nat) (hp : bl p = 32) (last : List UInt8) (at_ f : Nat) (x : UInt8) (w : World) (hR : RollIs w r g last at_ f) (hT : TabFull w g p) (hne : g ≠ r) :
    Calls Try.prog 31 #[.pointer (some ⟨r, 0, none⟩), .int .u8 (x.toNat : Int)] w fun e w' => e = .returned (.int .u64 (rollN p f (gb last at_) x.toNat : Nat)) ∧
      RollIs w' r g (last.set at_ x) ((at_ + 1) % 16) (rollN p f (gb last at_) x.toNat) ∧ TabFull w' g p ∧ w.grownBy w' (some r) := by
  obtain ⟨hK, hl, ha, hf⟩ := hR
  have HK := Lib.hid hK
  have HT := Lib.hid hT
  have HL := Lib.hid hl
  have HP := Lib.hid hp
  have HNE := Lib.hid hne
  have HF := Lib.hid hf
  have hx := x.toNat_lt
  have c0 := hK.cell (i := 0) rfl
  have c17 := hK.cell (rcs_at hl).1
  have cl := hK.cell (rcs_last (i := at_) (by omega : at_ < last.length))
  have a0 : (0 : Int) ≤ at_ := by omega
  have a1 : (at_ : Int) < 16 := by omega
  have hg1 := gb_lt last at_
  obtain ⟨old, hold⟩ : ∃ o, gb last at_ = o := ⟨_, rfl⟩
  rw [hold] at cl hg1
  rw [hold]
  have HOLD := Lib.hid hold
  clear hK hT hl hp hne hf hold
  go_enter Try.func31, Try.ntmps31
  go_wp2_with fail
  go_quiet (fail)
  go_wp2_with fail
  refine name_world (fun w2 => BK w2 r 91 (rcs (.pointer (some ⟨g, 0, none⟩)) last at_ f) ∧ TabFull w2 g p ∧ w.grownBy w2 (some r)) ⟨HK.out.drewN _, HT.out.ext (ext_drewN (Below.refl _ _) _), grown_drewN (grown_refl _ _) _⟩ ?_
  rintro w2 ⟨hk2, ht2, hg2⟩
  have HK2 := Lib.hid hk2
  have HT2 := Lib.hid ht2
  have HG2 := Lib.hid hg2
  clear c0 c17 cl HK HT
  have c17 := hk2.cell (rcs_at HL.out).1
  have cl := hk2.cell (rcs_last (t := .pointer (some ⟨g, 0, none⟩)) (at_ := at_) (f := f) (i := at_) (by rw [HL.out]; exact ha))
  have fl := hk2.frozen (1 + at_)
  have hk3 := hk2.set (1 + at_) (.int .u8 (x.toNat : Int))
  rw [rcs_setLast x (by rw [HL.out]; exact ha)] at hk3
  have HK3 := Lib.hid hk3
  have hg3 := grown_setCell w2 r (1 + at_) (.int .u8 (x.toNat : Int))
  have HT3 := Lib.hid (ht2.other hg3 HNE.out)
  have HG3 := Lib.hid (grown_trans hg2 hg3)
  clear hk2 ht2 hg2 hk3 hg3
  go_region
  go_upto_region 5 with fail
  refine name_world (fun w3 => BK w3 r 91 (rcs (.pointer (some ⟨g, 0, none⟩)) (last.set at_ x) at_ f) ∧ TabFull w3 g p ∧ w.grownBy w3 (some r)) ⟨HK3.out.drew, HT3.out.ext (ext_drewN (Below.refl _ _) 1), grown_drew HG3.out⟩ ?_
  rintro w3 ⟨hk3, ht3, hg3⟩
  have HL3 : Hid ((last.set at_ x).length = 16) := Lib.hid (by rw [List.length_set]; exact HL.out)
  clear c17 cl fl HK2 HT2 HG2 HK3 HT3 HG3
  have c17 := hk3.cell (rcs_at HL3.out).1
  have f17 := hk3.frozen 17
  obtain ⟨n, hn⟩ : ∃ n, (at_ + 1) % 16 = n := ⟨_, rfl⟩
  have en : ((at_ : Int) + 1) % 16 = (n : Int) := by omega
  have hn16 : n < 16 := by omega
  have hk4 := hk3.set 17 (.int .i64 (n : Int))
  rw [rcs_setAt n HL3.out] at hk4
  have hg4 := grown_setCell w3 r 17 (.int .i64 (n : Int))
  have HK4 := Lib.hid hk4
  have HT4 := Lib.hid (ht3.other hg4 HNE.out)
  have HG4 := Lib.hid (grown_trans hg3 hg4)
  have HN := Lib.hid hn
  clear hk3 ht3 hg3 hk4 hg4 hn
  go_upto_region 6 with fail
  refine name_world (fun w4 => BK w4 r 91 (rcs (.pointer (some ⟨g, 0, none⟩)) (last.set at_ x) n f) ∧ TabFull w4 g p ∧ w.grownBy w4 (some r)) ⟨HK4.out, HT4.out, HG4.out⟩ ?_
  rintro w4 ⟨hk4, ht4, hg4⟩
  clear c17 f17 en HK4 HT4 HG4
  have c0 := hk4.cell (i := 0) rfl
  have c18 := hk4.cell (rcs_at HL3.out).2
  have f18 := hk4.frozen 18
  have co := ht4.out old (by omega)
  have o0 : (0 : Int) ≤ old := by omega
  have o1 : (old : Int) < 256 := by omega
  have hob := outN_lt HP.out old
  have hfo := bl_xor_lt (k := 32) (by have := HF.out; omega : bl f < 32) (by omega : bl (outN p old) < 32)
  have hx64 : bits .xor .u64 (f : Int) (outN p old : Int) = ((f ^^^ outN p old : Nat) : Int) := xor_u64 _ _ (Nat.lt_of_lt_of_le (bl_le.1 HF.out) (by decide)) (Nat.lt_of_lt_of_le (bl_le.1 hob) (by decide))
  have HFO : Hid (bl (f ^^^ outN p old) ≤ 31) := Lib.hid (by omega)
  obtain ⟨F, hF⟩ : ∃ F, rollN p f old x.toNat = F := ⟨_, rfl⟩
  have HAd : Hid (addN p (f ^^^ outN p old) x.toNat = F) := Lib.hid hF
  have hk5 := hk4.set 18 (.int .u64 (F : Int))
  rw [rcs_setF F HL3.out] at hk5
  have hg5 := grown_setCell w4 r 18 (.int .u64 (F : Int))
  have HK5 := Lib.hid hk5
  have HT5 := Lib.hid (ht4.other hg5 HNE.out)
  have HG5 := Lib.hid (grown_trans hg4 hg5)
  have HT4 := Lib.hid ht4
  have HFl : Hid (bl F ≤ 31) := Lib.hid (by rw [← hF]; exact addN_lt HP.out _ _)
  have HRF := Lib.hid hF
  generalize outN p old = O at *
  generalize f ^^^ O = fo at *
  clear hk4 ht4 hg4 hk5 hg5 hF hob hfo
  go_still_tail 24, (by kernel_rfl)
  refine wpStill_step (fun K hK => ?_)
  go_simp
  refine ⟨_, (add_calls g 1 0 _ p fo x.toNat HP.out HFO.out hx _ (HT4.out.ext (ext_drewN (Below.refl _ _) 1))).mono fun e w' h => ⟨h.1, h.2.symm⟩, hK _ ?_⟩
  clear hK K
  repeat still_step
  refine wpStill_nil ?_
  rw [HAd.out]
  change wpList _ _ _ _ _ w4.drew
  have HK6 : Hid (BK (w4.drew.setCell ⟨r, 18, none⟩ (.int .u64 (F : Int))) r 91 (rcs (.pointer (some ⟨g, 0, none⟩)) (last.set at_ x) n F)) := Lib.hid HK5.out.drew
  have HT6 : Hid (TabFull (w4.drew.setCell ⟨r, 18, none⟩ (.int .u64 (F : Int))) g p) := Lib.hid (HT5.out.ext (ext_drewN (Below.refl _ _) 1))
  have HG6 : Hid (w.grownBy (w4.drew.setCell ⟨r, 18, none⟩ (.int .u64 (F : Int))) (some r)) := Lib.hid (grown_drew HG5.out)
  have hc7 : w4.drew.cell? ⟨r, 18, none⟩ = some (.int .u64 (f : Int)) := c18
  have hf7 : w4.drew.frozen? ⟨r, 18, none⟩ = false := f18
  clear c0 c18 f18 co hx64 HK5 HT5 HG5 HT4
  generalize w4.drew = w5 at *
  go_wp2
  go_ret
  refine ⟨by rw [HRF.out]; rfl, ?_⟩
  rw [HRF.out, HN.out]
  exact ⟨⟨HK6.out, HL3.out, hn16, HFl.out⟩, HT6.out, HG6.out⟩
end Go.Proofs.Ytmohjgcnhibkoaa
