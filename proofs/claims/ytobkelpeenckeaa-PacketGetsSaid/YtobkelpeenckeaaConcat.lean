/- slices.Grow (of nothing) and slices.Concat of bytes. -/
import Derived.Test.YtobkelpeenckeaaInfoB
namespace Go.Proofs.Ytobkelpeenckeaa
open Go.RowKit
set_option linter.unusedVariables false

theorem run_zeros_nil {P : Program} (w : World) (t ti ty e : TypeId) (i : TypeInfo) (ht : P.underlying t = some (.slice e)) (hti : P.underlying ti = some (.int .i64)) (hi : P.info? e = some i) (hz : i.zero = some (.int .u8 0))
    (hsize : i.size = 1) (hby : i.bytes = 1) (m : Nat) (hm : 0 < m) (hb : m ≤ 140737488355328) :
    (Builtin.append_ #[t, ti] ty #[.slice none 0 0, .int .i64 (m : Int)]).run P w =
      .ok (.slice (some ⟨w.heap.size, 0, none⟩) m (grownCap w m 0 e)) (w.drew.alloc (.cells (Builtin.zeroCells #[.int .u8 0] m ++ Builtin.zeroCells #[.int .u8 0] (grownCap w m 0 e - m)) e)) := by
  have hw : IntKind.i64.wrap (m : Int) = m := by rw [IntKind.wrap_i64]; omega
  have h1 : ¬ ((m : Int) < 0) := by omega
  have h2 : ¬ (281474976710656 < (m : Int)) := by omega
  have h3 : ¬ (m = 0) := by omega
  have h4 : ¬ (9223372036854775807 < (m : Int)) := by omega
  have h5 : ¬ (281474976710656 < Builtin.nextslicecap m 0) := by
    have := growslice_fits (show 0 < m by omega) (bytes := 1) (by omega)
    omega
  simp [Builtin.append_, run_underlying ht, run_underlying hti, sizeOf, typeInfo, zeroValue, hi, hz, hsize, hby, asInt, asIntOf, hw, h1, h2, h3, h4, h5, Question.forced, Builtin.firstCells, newRow, grownCap, Value.cells]

theorem run_zeros_own {P : Program} (w : World) (t ti ty e : TypeId) (ht : P.underlying t = some (.slice e)) (hti : P.underlying ti = some (.int .i64)) (hinfo : (P.info? e).map (fun i => (i.zero, i.size, i.bytes)) = some (some (.int .u8 0), 1, 1))
    (m : Nat) (hm : 0 < m) (hb : m ≤ 140737488355328) :
    ∃ cap w1, (Builtin.append_ #[t, ti] ty #[.slice none 0 0, .int .i64 (m : Int)]).run P w = .ok (.slice (some ⟨w.heap.size, 0, none⟩) m cap) w1 ∧ OwnB w.heap.size e w1 (.slice (some ⟨w.heap.size, 0, none⟩) 0 cap) [] ∧ Below w.heap.size w w1 ∧ m ≤ cap ∧ cap ≤ maxLen := by
  obtain ⟨i0, hi, hz0, hz1, hz2⟩ := info_parts hinfo
  have hge := grownCap_ge w m 0 e
  have hcm : grownCap w m 0 e ≤ maxLen := grownCap_le_maxLen w m 0 e (by simp only [maxLen]; omega)
  refine ⟨grownCap w m 0 e, _, run_zeros_nil w t ti ty e i0 ht hti hi hz0 hz1 hz2 m hm hb, ?_, ?_, hge, hcm⟩
  · refine ⟨rfl, .inr ⟨w.heap.size, _, _, rfl, Nat.le_refl _, heap_alloc_new w.drew _, Nat.zero_le _, hcm, ?_, by simp⟩⟩
    simp only [Array.size_append, size_zeroCells]
    simp
    omega
  · exact ((Below.refl _ _).drew).alloc (Nat.le_refl _) _

set_option maxHeartbeats 2000000 in
set_option maxRecDepth 100000 in
theorem grow_calls (m : Nat) (hm : m ≤ 140737488351232) (w : World) :
    Calls Try.prog 46 #[.slice none 0 0, .int .i64 (m : Int)] w fun e w' => ∃ v, e = .returned v ∧ OwnB w.heap.size 5 w' v [] ∧ Below w.heap.size w w' := by
  by_cases h0 : 0 < m
  · obtain ⟨cap, w1, hr, ho, hb, hc1, hc2⟩ := run_zeros_own (P := Try.prog) w 23 3 23 5 Try.underlying23 Try.underlying3 infoB m h0 (by omega)
    have HO := Lib.hid ho
    have HB := Lib.hid hb
    have hc3 : ¬ cap = 0 := by omega
    clear ho hb
    go_enter Try.func46, Try.ntmps46
    have HR := Lib.hid hr
    clear hr
    go_wp2_with (at_builtin; refine wpList_app_run rfl _ _ _ _ rfl _ _ _ _ rfl rfl HR.out ?_)
    go_ret
    exact ⟨_, rfl, HO.out, HB.out⟩
  · obtain rfl : m = 0 := by omega
    go_enter Try.func46, Try.ntmps46
    go_wp2
    go_ret
    exact ⟨_, rfl, OwnB.nil _ _ _, Below.refl _ _⟩

/-- The parts up to k, one behind the other. -/
def catTo (ls : List (List UInt8)) : Nat → List UInt8
  | 0 => []
  | k + 1 => catTo ls k ++ ls.getD k []
theorem catTo_mono (ls : List (List UInt8)) (k d : Nat) : (catTo ls k).length ≤ (catTo ls (k + d)).length := by
  induction d with
  | zero => exact Nat.le_refl _
  | succ d ih => exact Nat.le_trans ih (by rw [← Nat.add_assoc]; simp [catTo])

set_option maxHeartbeats 2000000 in
theorem concat_calls (A : Option Addr) (c : Nat) (ls : List (List UInt8)) (w : World) (h : RBB w A ls) (hn : ls.length ≤ 140737488351232) (htot : (catTo ls ls.length).length ≤ 140737488351232) :
    Calls Try.prog 33 #[.slice A ls.length c] w fun e w' => ∃ v, e = .returned v ∧ OwnB w.heap.size 5 w' v (catTo ls ls.length) ∧ Below w.heap.size w w' := by
  have H := Lib.hid h
  clear h
  have HT := Lib.hid htot
  clear htot
  go_enter Try.func33, Try.ntmps33
  go_wp2
  go_loop [3, 11] (fun v i => ∃ k : Nat, k ≤ ls.length ∧ i = .int .i64 k ∧ v = .int .i64 ((catTo ls k).length : Nat)) (fun _ i => ls.length - (intOf i).toNat)
  case atStart => exact ⟨0, Nat.zero_le _, rfl, rfl⟩
  case round =>
    obtain ⟨k, hk, rfl, rfl⟩ := hrel
    by_cases h1 : k < ls.length
    · obtain ⟨b, o, A', c', rfl, hc, hr, hl'⟩ := H.out k h1
      have hs : Hid ((catTo ls (k + 1)).length = (catTo ls k).length + (ls.getD k []).length) := List.length_append
      have hm : (catTo ls k).length + (ls.getD k []).length ≤ 140737488351232 := by
        have := catTo_mono ls (k + 1) (ls.length - (k + 1))
        rw [show k + 1 + (ls.length - (k + 1)) = ls.length by omega, hs.out] at this
        exact Nat.le_trans this HT.out
      generalize (catTo ls k).length = q at *
      generalize ls.getD k [] = p at *
      clear hr hl'
      go_wp2
      go_round
      case rel => exact ⟨k + 1, by omega, by go_num, by rw [hs.out]; go_num⟩
      case measure => simp [intOf]; omega
    · obtain rfl : k = ls.length := by omega
      go_wp2_with fail
      refine (grow_calls _ HT.out _).mono ?_
      rintro e w1 ⟨v1, rfl, ho, hb⟩
      have HO := Lib.hid ho
      have HB := Lib.hid hb
      have hs := hb.size
      clear ho hb
      go_wp2_with fail
      go_loopw [6, 27] (fun v i w2 => ∃ k : Nat, k ≤ ls.length ∧ i = .int .i64 k ∧ Hid (OwnB w.heap.size 5 w2 v (catTo ls k)) ∧ Hid (Below w.heap.size w w2) ∧ w.heap.size ≤ w2.heap.size) (fun _ i _ => ls.length - (intOf i).toNat)
      case atStart => exact ⟨0, Nat.zero_le _, rfl, HO, HB, hs⟩
      case round =>
        obtain ⟨k, hk, rfl, HO, HB, hs⟩ := hrel
        by_cases h1 : k < ls.length
        · obtain ⟨b, o, A', c', rfl, hc, hr, hl'⟩ := (H.out.ext HB.out) k h1
          have hs3 : Hid (catTo ls (k + 1) = catTo ls k ++ ls.getD k []) := rfl
          have hm : Hid ((catTo ls k).length + (ls.getD k []).length ≤ 140737488351232) := by
            have := catTo_mono ls (k + 1) (ls.length - (k + 1))
            rw [show k + 1 + (ls.length - (k + 1)) = ls.length by omega, hs3.out, List.length_append] at this
            exact Nat.le_trans this HT.out
          generalize ls.getD k [] = p at *
          have HR := Lib.hid hr
          clear hr hl'
          go_wp2_with (at_builtin; refine wpList_appB rfl _ _ 23 rfl w.heap.size 5 Try.underlying23 infoB _ _ rfl HO.out _ _ _ p rfl rfl HR.out (by have := hm.out; omega) hs ?_)
          intro v2 w2 ho hg _
          have hb := HO.out.below HB.out hg hs
          have hs2 := hb.size
          rw [← hs3.out] at ho
          have HB2 := Lib.hid hb
          have HO2 := Lib.hid ho
          clear ho hb hg
          go_wp2
          go_roundw
          case rel => exact ⟨k + 1, by omega, by go_num, HO2, HB2, hs2⟩
          case measure => simp [intOf]; omega
        · obtain rfl : k = ls.length := by omega
          go_wp2
          go_ret
          exact ⟨_, rfl, HO.out, HB.out⟩
end Go.Proofs.Ytobkelpeenckeaa
