/- slices.Grow (of nothing) and slices.Concat of bytes. -/
import Derived.Test.YtjhnnnklfhbebaaInfoB
namespace Go.Proofs.Ytjhnnnklfhbebaa
open Go.RowKit
set_option linter.unusedVariables false

theorem run_zeros_nil {P : Program} (w : World) (t ti ty e : TypeId) (i : TypeInfo) (ht : P.underlying t = some (.slice e)) (hti : P.underlying ti = some (.int .i64)) (hi : P.info? e = some i) (hz : i.zero = some (.int .u8 0))
    (hsize : i.size = 1) (hby : i.bytes = 1) (m : Nat) (hm : 0 < m) (hb : m ≤ 140737488355328) :
    (Builtin.append_ #[t, ti] ty #[.slice none 0 0, .int .i64 (m : Int)]).run P w =
      .ok (.slice (some ⟨w.heap.size, 0, none⟩) m (grownCap w m 0 e)) (w.drew.alloc (.cells (Builtin.zeroCells #[.int .u8 0] m ++ Builtin.zeroCells #[.int .u8 0] (grownCap w m 0 e - m)) e)) := by
  have hw : IntKind.i64.wrap (m : Int) = m := by rw [IntKind.wrap_i64]; omega
  have h1 : ¬ ((m : Int) < 0) := by omega
  have h2 : ¬ (281474976710656 < (m : Int)) := by omega
  have h3 : ¬ (m = 0) := by omega
  have h4 : ¬ (9223372036854775807 < (m : Int)) := by omega
  have h5 : ¬ (281474976710656 < Builtin.nextslicecap m 0) := by
    have := growslice_fits (show 0 < m by omega) (bytes := 1) (by omega)
    omega
  simp [Builtin.append_, run_underlying ht, run_underlying hti, sizeOf, typeInfo, zeroValue, hi, hz, hsize, hby, asInt, asIntOf, hw, h1, h2, h3, h4, h5, Question.forced, Builtin.firstCells, newRow, grownCap, Value.cells]

theorem run_zeros_own {P : Program} (w : World) (t ti ty e : TypeId) (ht : P.underlying t = some (.slice e)) (hti : P.underlying ti = some (.int .i64)) (hinfo : (P.info? e).map (fun i => (i.zero, i.size, i.bytes)) = some (some (.int .u8 0), 1, 1))
    (m : Nat) (hm : 0 < m) (hb : m ≤ 140737488355328) :
    ∃ cap w1, (Builtin.append_ #[t, ti] ty #[.slice none 0 0, .int .i64 (m : Int)]).run P w = .ok (.slice (some ⟨w.heap.size, 0, none⟩) m cap) w1 ∧ OwnB w.heap.size e w1 (.slice (some ⟨w.heap.size, 0, none⟩) 0 cap) [] ∧ Below w.heap.size w w1 ∧ m ≤ cap ∧ cap ≤ maxLen := by
  obtain ⟨i0, hi, hz0, hz1, hz2⟩ := info_parts hinfo
  have hge := grownCap_ge w m 0 e
  have hcm : grownCap w m 0 e ≤ maxLen := grownCap_le_maxLen w m 0 e (by simp only [maxLen]; omega)
  refine ⟨grownCap w m 0 e, _, run_zeros_nil w t ti ty e i0 ht hti hi hz0 hz1 hz2 m hm hb, ?_, ?_, hge, hcm⟩
  · refine ⟨rfl, .inr ⟨w.heap.size, _, _, rfl, Nat.le_refl _, heap_alloc_new w.drew _, Nat.zero_le _, hcm, ?_, by simp⟩⟩
    simp only [Array.size_append, size_zeroCells]
    simp
    omega
  · exact ((Below.refl _ _).drew).alloc (Nat.le_refl _) _

-- left out: slices.Grow[[]byte,byte]
/-- The parts up to k, one behind the other. -/
def catTo (ls : List (List UInt8)) : Nat → List UInt8
  | 0 => []
  | k + 1 => catTo ls k ++ ls.getD k []
theorem catTo_mono (ls : List (List UInt8)) (k d : Nat) : (catTo ls k).length ≤ (catTo ls (k + d)).length := by
  induction d with
  | zero => exact Nat.le_refl _
  | succ d ih => exact Nat.le_trans ih (by rw [← Nat.add_assoc]; simp [catTo])

-- left out: slices.Concat[[]byte,byte]
end Go.Proofs.Ytjhnnnklfhbebaa
