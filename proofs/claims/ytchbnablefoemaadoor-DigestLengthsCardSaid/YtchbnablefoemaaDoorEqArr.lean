/- '==' of arrays of bytes. -/
import Derived.Test.YtchbnablefoemaaDoorOwn
import Derived.ChangeKeysEq
namespace Go.Proofs.YtchbnablefoemaaDoor
open Go.RowKit
set_option linter.unusedVariables false

section
variable {P : Program} (w : World)
theorem run_part_byte {e : TypeId} (hu : P.underlying e = some (.int .u8)) (cs : Array Value) (i : Nat) (v : Value) (h : cs[i]? = some v) : (part e cs i).run P w = .ok v w := by
  simp [part, isAgg, run_underlying hu, h]
theorem run_eqItems_bytes (d : Nat) {e : TypeId} (hu : P.underlying e = some (.int .u8)) (l m : List UInt8) (hl : l.length = m.length) : ∀ is : List Nat, (∀ i ∈ is, i < l.length) →
    (Op.eqItems (d + 1) e 1 (l.map vb).toArray (m.map vb).toArray is).run P w = .ok (is.all fun i => gb l i == gb m i) w
  | [], _ => by simp [Op.eqItems]
  | i :: is, h => by
    have hi := h i (by simp)
    have p1 := run_part_byte w hu (l.map vb).toArray (i * 1) (.int .u8 (gb l i : Int)) (by rw [Nat.mul_one, List.getElem?_toArray]; exact gb_get l i hi)
    have p2 := run_part_byte w hu (m.map vb).toArray (i * 1) (.int .u8 (gb m i : Int)) (by rw [Nat.mul_one, List.getElem?_toArray]; exact gb_get m i (by omega))
    have p3 : (Op.equalIn (d + 1) e (.int .u8 (gb l i : Int)) (.int .u8 (gb m i : Int))).run P w = .ok ((gb l i : Int) == (gb m i : Int)) w := by simp [Op.equalIn, run_underlying hu]
    have ih := run_eqItems_bytes d hu l m hl is (fun j hj => h j (by simp [hj]))
    simp only [Op.eqItems, Sem.run_bind, p1, p2, p3, Result.andThen_ok]
    by_cases hg : gb l i = gb m i
    · rw [hg]
      simpa [hg] using ih
    · have : ((gb l i : Int) == (gb m i : Int)) = false := by rw [beq_eq_false_iff_ne]; omega
      simp [this, hg]
theorem all_gb {l m : List UInt8} (hl : l.length = m.length) : ((List.range l.length).all fun i => gb l i == gb m i) = (l == m) := by
  rw [Bool.eq_iff_iff]
  constructor
  · intro h
    have h' : ∀ i, i < l.length → gb l i = gb m i := fun i hi => by
      have := List.all_eq_true.1 h i (List.mem_range.2 hi)
      exact eq_of_beq this
    have : l = m := List.ext_getElem hl fun i h1 h2 => by
      have := h' i h1
      simp only [gb, List.getD_eq_getElem?_getD, List.getElem?_eq_getElem h1, List.getElem?_eq_getElem h2, Option.getD_some] at this
      exact UInt8.toNat_inj.1 this
    simp [this]
  · intro h
    rw [eq_of_beq h]
    simp
/-- '==' and '!=' of arrays of n bytes. -/
theorem run_eql_bytes {t e : TypeId} {n : Nat} {i : TypeInfo} (hu : P.underlying t = some (.array n e)) (he : P.underlying e = some (.int .u8)) (hi : P.info? e = some i) (hc : P.cellsOf e = 1) (l m : List UInt8) (hl : l.length = n) (hm : m.length = n) :
    (binOp .eql t (.agg (l.map vb).toArray) (.agg (m.map vb).toArray)).run P w = .ok (.bool (l == m)) w := by
  have h := run_equalIn_array (P := P) w 9999 (l.map vb).toArray (m.map vb).toArray hu hi
  rw [hc, run_eqItems_bytes w 9998 he l m (by omega) _ (by intro j hj; have := List.mem_range.1 hj; omega), ← hl, all_gb (by omega)] at h
  simp only [binOp]
  simp [Op.equal, Op.maxDepth, h]
theorem run_neq_bytes {t e : TypeId} {n : Nat} {i : TypeInfo} (hu : P.underlying t = some (.array n e)) (he : P.underlying e = some (.int .u8)) (hi : P.info? e = some i) (hc : P.cellsOf e = 1) (l m : List UInt8) (hl : l.length = n) (hm : m.length = n) :
    (binOp .neq t (.agg (l.map vb).toArray) (.agg (m.map vb).toArray)).run P w = .ok (.bool (!(l == m))) w := by
  have h := run_equalIn_array (P := P) w 9999 (l.map vb).toArray (m.map vb).toArray hu hi
  rw [hc, run_eqItems_bytes w 9998 he l m (by omega) _ (by intro j hj; have := List.mem_range.1 hj; omega), ← hl, all_gb (by omega)] at h
  simp only [binOp]
  simp [Op.equal, Op.maxDepth, h]
end
end Go.Proofs.YtchbnablefoemaaDoor
