/- What a row's argument reads as that is a slice of structs of an int and a slice of bytes. No program. -/
import Derived.Test.YtjhnnnklfhbebaaRowKit
import Derived.Deep.Fields
import Derived.ChangeSame
namespace Go.Proofs.Ytjhnnnklfhbebaa
open Go.RowKit Go.ChangeShapes Go.WideShapes Go.ChangeAt Go.Deep
set_option linter.unusedVariables false

/-- A slice at A reads as a list of pairs. -/
def RDo (w : World) (A : Option Addr) (l : List (Int × List UInt8)) : Prop :=
  ∀ i, i < l.length → ∃ b o A' c, A = some ⟨b, o, none⟩ ∧ w.cell? ⟨b, o + 2 * i, none⟩ = some (.int .i64 (l.getD i (0, [])).1) ∧ w.cell? ⟨b, o + (2 * i + 1), none⟩ = some (.slice A' (l.getD i (0, [])).2.length c) ∧
    RB w A' (l.getD i (0, [])).2 ∧ (l.getD i (0, [])).2.length ≤ c ∧ c ≤ maxLen ∧ -9223372036854775808 ≤ (l.getD i (0, [])).1 ∧ (l.getD i (0, [])).1 ≤ 9223372036854775807
theorem RDo.ext {w w' : World} {A : Option Addr} {l : List (Int × List UInt8)} (h : RDo w A l) (e : Below w.heap.size w w') : RDo w' A l := fun i hi => by
  obtain ⟨b, o, A', c, rfl, h1, h2, h3, h4⟩ := h i hi
  exact ⟨b, o, A', c, rfl, (e.cell (p := ⟨b, o + 2 * i, none⟩) (World.block_lt_of_cell? w _ h1)).trans h1, (e.cell (p := ⟨b, o + (2 * i + 1), none⟩) (World.block_lt_of_cell? w _ h2)).trans h2, h3.ext e, h4⟩

section
variable {H : Type} {enc : TypeId × Value → H} {P : Program} {w : World} {base : Nat} {held : Bool}
theorem openB0 {t e : TypeId} {fuel : Nat} {cs : List Value} {x : DataW H × List MemPlace} (ht : P.underlying t = some (.slice e)) (he : P.underlying e = some (.int .u8)) (hc : P.cellsOf e = 1)
    (h : DataW.trod enc P w base (fun _ => true) held fuel t cs = some x) : ∃ A c l, cs = [.slice A (l : List UInt8).length c] ∧ RB w A l ∧ l.length ≤ c ∧ c ≤ maxLen := by
  rcases open_ints ht he hc h with ⟨rfl, rfl⟩ | ⟨a, len, cap, zs, rfl, _, hl, hm, hz, rfl, hcell, hwz⟩
  · exact ⟨none, 0, [], rfl, RB.nil _ _, Nat.le_refl _, Nat.zero_le _⟩
  · simp only [if_true] at hz
    have hlen : ((zs.take len).map fun n : Int => UInt8.ofNat n.toNat).length = len := by simp; omega
    refine ⟨some a, cap, (zs.take len).map fun n => UInt8.ofNat n.toNat, by rw [hlen], ?_, by rw [hlen]; exact hl, hm⟩
    intro i hi
    rw [hlen] at hi
    obtain ⟨b, o, rfl⟩ := addr_plain (hcell 0 (by omega))
    refine ⟨b, o, rfl, ?_⟩
    rw [← add_plain', hcell i (by omega)]
    have hlt : i < zs.length := by omega
    have hwf := bounds_u8 (hwz (zs[i]) (List.getElem_mem hlt))
    simp only [gb, List.getD_eq_getElem?_getD, List.getElem?_map, List.getElem?_take, if_pos hi, List.getElem?_eq_getElem hlt, Option.map_some, Option.getD_some, UInt8.toNat_ofNat']
    congr 2
    omega
theorem openDo {t e tu : TypeId} {fs : Array Field} {f0 f1 : Field} {fuel : Nat} {cs : List Value} {x : DataW H × List MemPlace} (ht : P.underlying t = some (.slice e)) (he : P.underlying e = some (.struct fs)) (hone : oneCellFields P fs = true) (hC : P.cellsOf e = 2)
    (h0 : fs[0]? = some f0) (h1 : fs[1]? = some f1) (hi : P.underlying f0.type = some (.int .i64)) (hb : P.underlying f1.type = some (.slice tu)) (hu : P.underlying tu = some (.int .u8)) (cu : P.cellsOf tu = 1)
    (h : DataW.trod enc P w base (fun _ => true) held fuel t cs = some x) : ∃ A c l, cs = [.slice A (l : List (Int × List UInt8)).length c] ∧ RDo w A l ∧ l.length ≤ c ∧ c ≤ maxLen := by
  rcases open_slice ht h with ⟨rfl, rfl⟩ | ⟨a, len, cap, m, n, D, Pl, rfl, _, hl, hm, hmm, rfl, hx⟩
  · exact ⟨none, 0, [], rfl, fun i hi => absurd hi (by simp), Nat.le_refl _, Nat.zero_le _⟩
  · simp only [if_true] at hmm
    subst hmm
    rw [hC] at hx
    have each : ∀ i, i < len → ∃ y : Int × List UInt8 × Option Addr × Nat, w.cell? ((a.add (i * 2)).add 0) = some (.int .i64 y.1) ∧ w.cell? ((a.add (i * 2)).add 1) = some (.slice y.2.2.1 y.2.1.length y.2.2.2) ∧ RB w y.2.2.1 y.2.1 ∧ y.2.1.length ≤ y.2.2.2 ∧ y.2.2.2 ≤ maxLen ∧ -9223372036854775808 ≤ y.1 ∧ y.1 ≤ 9223372036854775807 := by
      intro i hi'
      obtain ⟨cs', hcs, htr⟩ := hx i (by omega)
      obtain ⟨ys, n', _, _, _, hyl, hf⟩ := DataW.trod_struct he htr
      obtain ⟨_, hcl, hat⟩ := World.cells?_some hcs
      match cs', hcl with
      | [v0, v1], _ =>
        obtain ⟨p0, q0⟩ := hone_of hone 0 f0 h0
        obtain ⟨p1, q1⟩ := hone_of hone 1 f1 h1
        have s0 : 0 < fs.size := (Array.getElem?_eq_some_iff.1 h0).1
        have s1 : 1 < fs.size := (Array.getElem?_eq_some_iff.1 h1).1
        have g0 := hf 0 f0 h0
        have g1 := hf 1 f1 h1
        rw [p0, q0, List.getElem?_eq_getElem (by omega)] at g0
        rw [p1, q1, List.getElem?_eq_getElem (by omega)] at g1
        obtain ⟨z, e0, _, wz⟩ := DataW.trod_int hi g0
        obtain ⟨A', c', l', e1, r1, r2, r3⟩ := openB0 hb hu cu g1
        have e0' : v0 = .int .i64 z := by simpa using e0
        have e1' : v1 = .slice A' l'.length c' := by simpa using e1
        obtain ⟨z1, z2⟩ := bounds_i64 wz
        exact ⟨(z, l', A', c'), by rw [hat 0 (by omega), ← e0']; rfl, by rw [hat 1 (by omega), ← e1']; rfl, r1, r2, r3, z1, z2⟩
    obtain ⟨y, hy⟩ := choose_lt each
    have hlen : ((List.range len).map fun i => ((y i).1, (y i).2.1)).length = len := by simp
    have hget : ∀ i, i < len → ((List.range len).map fun i => ((y i).1, (y i).2.1)).getD i (0, []) = ((y i).1, (y i).2.1) := by
      intro i hi'
      simp [List.getD_eq_getElem?_getD, hi']
    refine ⟨some a, m, (List.range len).map fun i => ((y i).1, (y i).2.1), by rw [hlen], ?_, by rw [hlen]; exact hl, hm⟩
    intro i hi'
    rw [hlen] at hi'
    have hpl : ∃ b o, a = ⟨b, o, none⟩ := by
      have := (hy 0 (by omega)).1
      rw [Nat.zero_mul] at this
      obtain ⟨b, o, e⟩ := addr_plain this
      obtain ⟨b', o', s⟩ := a
      cases s with
      | none => exact ⟨b', o', rfl⟩
      | some s => exact absurd e (by unfold Addr.add; simp)
    obtain ⟨b, o, rfl⟩ := hpl
    obtain ⟨k1, k2, k3, k4, k5, k6, k7⟩ := hy i hi'
    rw [add_plain', add_plain', Nat.add_zero, Nat.mul_comm] at k1
    rw [add_plain', add_plain', Nat.mul_comm, Nat.add_assoc] at k2
    rw [hget i hi']
    exact ⟨b, o, (y i).2.2.1, (y i).2.2.2, rfl, k1, k2, k3, k4, k5, k6, k7⟩
end
end Go.Proofs.Ytjhnnnklfhbebaa
