/- What a row's argument reads as that is a flumelaw13.Do, a slice of those, or of flumelaw13.Act. -/
import Derived.Test.YtjhnnnklfhbebaaRowPk
import Derived.Test.YtjhnnnklfhbebaaChecked
namespace Go.Proofs.Ytjhnnnklfhbebaa
open Go.RowKit Go.ChangeShapes Go.WideShapes Go.ChangeAt Go.Deep
set_option linter.unusedVariables false

/-- What befalls an endpoint. -/
structure DoA where
  op : Int
  n : Int
  b : List UInt8
  p : Pk
  near : Bool
instance : Inhabited DoA := ⟨⟨0, 0, [], Pk.zero, false⟩⟩
def DoA.cs (k : DoA) (A : Option Addr) (c : Nat) (B : Option Addr) (d : Nat) : List Value :=
  [.int .i64 k.op, .int .i64 k.n, .slice A k.b.length c, .int .i64 k.p.src, .int .i64 k.p.dst, .int .i64 k.p.sp, .int .i64 k.p.dp, .int .u32 (k.p.seq : Int), .int .u32 (k.p.ack : Int), .int .i64 k.p.fl, .int .i64 k.p.wn, .int .i64 k.p.pr, .int .i64 k.p.og, .slice B k.p.data.length d, .bool k.near]
structure DoA.At (w : World) (k : DoA) (A : Option Addr) (c : Nat) (B : Option Addr) (d : Nat) : Prop where
  rb : RB w A k.b
  bc : k.b.length ≤ c
  cm : c ≤ maxLen
  rd : RB w B k.p.data
  dc : k.p.data.length ≤ d
  dm : d ≤ maxLen
  pin : PkIn k.p
  op0 : -9223372036854775808 ≤ k.op
  op1 : k.op ≤ 9223372036854775807
  n0 : -9223372036854775808 ≤ k.n
  n1 : k.n ≤ 9223372036854775807
/-- What happens between two endpoints. -/
structure ActA where
  op : Int
  side : Int
  at_ : Int
  n : Int
  b : List UInt8
  stay : Bool
instance : Inhabited ActA := ⟨⟨0, 0, 0, 0, [], false⟩⟩
def ActA.cs (k : ActA) (A : Option Addr) (c : Nat) : List Value := [.int .i64 k.op, .int .i64 k.side, .int .i64 k.at_, .int .i64 k.n, .slice A k.b.length c, .bool k.stay]
structure ActA.At (w : World) (k : ActA) (A : Option Addr) (c : Nat) : Prop where
  rb : RB w A k.b
  bc : k.b.length ≤ c
  cm : c ≤ maxLen
  op0 : -9223372036854775808 ≤ k.op
  op1 : k.op ≤ 9223372036854775807
  side0 : -9223372036854775808 ≤ k.side
  side1 : k.side ≤ 9223372036854775807
  at0 : -9223372036854775808 ≤ k.at_
  at1 : k.at_ ≤ 9223372036854775807
  n0 : -9223372036854775808 ≤ k.n
  n1 : k.n ≤ 9223372036854775807
/-- A slice at A reads as a list of those. -/
def RDos (w : World) (A : Option Addr) (l : List DoA) : Prop :=
  ∀ i k, l[i]? = some k → ∃ b o A' c B d, A = some ⟨b, o, none⟩ ∧ (∀ j v, (k.cs A' c B d)[j]? = some v → w.cell? ⟨b, o + i * 15 + j, none⟩ = some v) ∧ DoA.At w k A' c B d
def RActs (w : World) (A : Option Addr) (l : List ActA) : Prop :=
  ∀ i k, l[i]? = some k → ∃ b o A' c, A = some ⟨b, o, none⟩ ∧ (∀ j v, (k.cs A' c)[j]? = some v → w.cell? ⟨b, o + i * 6 + j, none⟩ = some v) ∧ ActA.At w k A' c
theorem DoA.At.ext {w w' : World} {k : DoA} {A : Option Addr} {c : Nat} {B : Option Addr} {d : Nat} (h : DoA.At w k A c B d) (e : Below w.heap.size w w') : DoA.At w' k A c B d := { h with rb := h.rb.ext e, rd := h.rd.ext e }
theorem ActA.At.ext {w w' : World} {k : ActA} {A : Option Addr} {c : Nat} (h : ActA.At w k A c) (e : Below w.heap.size w w') : ActA.At w' k A c := { h with rb := h.rb.ext e }
theorem RDos.ext {w w' : World} {A : Option Addr} {l : List DoA} (h : RDos w A l) (e : Below w.heap.size w w') : RDos w' A l := fun i k hk => by
  obtain ⟨b, o, A', c, B, d, e1, h1, h2⟩ := h i k hk
  exact ⟨b, o, A', c, B, d, e1, fun j v hj => (e.cell (World.block_lt_of_cell? w _ (h1 j v hj))).trans (h1 j v hj), h2.ext e⟩
theorem RActs.ext {w w' : World} {A : Option Addr} {l : List ActA} (h : RActs w A l) (e : Below w.heap.size w w') : RActs w' A l := fun i k hk => by
  obtain ⟨b, o, A', c, e1, h1, h2⟩ := h i k hk
  exact ⟨b, o, A', c, e1, fun j v hj => (e.cell (World.block_lt_of_cell? w _ (h1 j v hj))).trans (h1 j v hj), h2.ext e⟩
section
variable {H : Type} {enc : TypeId × Value → H} {w : World} {base : Nat} {held : Bool}
theorem one3 : Try.prog.cellsOf 3 = 1 := by kernel_rfl
theorem oneB : Try.prog.cellsOf 30 = 1 := by kernel_rfl
theorem oneT : Try.prog.cellsOf 4 = 1 := by kernel_rfl
theorem oneU : Try.prog.cellsOf 22 = 1 := by kernel_rfl
theorem oneP : Try.prog.cellsOf 32 = 11 := by kernel_rfl
theorem oneD : Try.prog.cellsOf 61 = 15 := by kernel_rfl
theorem oneA : Try.prog.cellsOf 46 = 6 := by kernel_rfl
theorem open_int' {t : TypeId} {fuel : Nat} {cs : List Value} {x : DataW H × List MemPlace} (i : Try.prog.underlying t = some (.int .i64)) (h : DataW.trod enc Try.prog w base (fun _ => true) held fuel t cs = some x) : ∃ z : Int, cs = [.int .i64 z] ∧ -9223372036854775808 ≤ z ∧ z ≤ 9223372036854775807 := by
  obtain ⟨z, e, _, wz⟩ := DataW.trod_int i h
  obtain ⟨z1, z2⟩ := bounds_i64 wz
  exact ⟨z, e, z1, z2⟩
set_option maxRecDepth 100000 in
theorem openDo1 {fuel : Nat} {cs : List Value} {x : DataW H × List MemPlace} (h : DataW.trod enc Try.prog w base (fun _ => true) held fuel 61 cs = some x) : ∃ k A c B d, cs = DoA.cs k A c B d ∧ DoA.At w k A c B d := by
  obtain ⟨ys, n, _, _, hcl, hyl, hf⟩ := DataW.trod_struct Try.underlying61 h
  rw [oneD] at hcl
  match cs, hcl with
  | [v0, v1, v2, v3, v4, v5, v6, v7, v8, v9, v10, v11, v12, v13, v14], _ =>
    have hyl : ys.length = 5 := hyl
    have g0 : DataW.trod enc Try.prog w base (fun _ => true) held n 3 (([v0, v1, v2, v3, v4, v5, v6, v7, v8, v9, v10, v11, v12, v13, v14].drop 0).take (Try.prog.cellsOf 3)) = ys[0]? := hf 0 _ rfl
    have g1 : DataW.trod enc Try.prog w base (fun _ => true) held n 3 (([v0, v1, v2, v3, v4, v5, v6, v7, v8, v9, v10, v11, v12, v13, v14].drop 1).take (Try.prog.cellsOf 3)) = ys[1]? := hf 1 _ rfl
    have g2 : DataW.trod enc Try.prog w base (fun _ => true) held n 30 (([v0, v1, v2, v3, v4, v5, v6, v7, v8, v9, v10, v11, v12, v13, v14].drop 2).take (Try.prog.cellsOf 30)) = ys[2]? := hf 2 _ rfl
    have g3 : DataW.trod enc Try.prog w base (fun _ => true) held n 32 (([v0, v1, v2, v3, v4, v5, v6, v7, v8, v9, v10, v11, v12, v13, v14].drop 3).take (Try.prog.cellsOf 32)) = ys[3]? := hf 3 _ rfl
    have g4 : DataW.trod enc Try.prog w base (fun _ => true) held n 4 (([v0, v1, v2, v3, v4, v5, v6, v7, v8, v9, v10, v11, v12, v13, v14].drop 14).take (Try.prog.cellsOf 4)) = ys[4]? := hf 4 _ rfl
    rw [List.getElem?_eq_getElem (by omega)] at g0 g1 g2 g3 g4
    rw [one3] at g0 g1
    rw [oneB] at g2
    rw [oneP] at g3
    rw [oneT] at g4
    obtain ⟨z0, e0, a0, b0⟩ := open_int' Try.underlying3 g0
    obtain ⟨z1, e1, a1, b1⟩ := open_int' Try.underlying3 g1
    obtain ⟨A, c, l, e2, r1, r2, r3⟩ := openB0 Try.underlying30 Try.underlying5 (by kernel_rfl) g2
    obtain ⟨p, B, d, e3, p1, p2, p3, p4⟩ := openPk Try.underlying32 (by kernel_rfl) (by kernel_rfl) rfl rfl rfl rfl rfl rfl rfl rfl rfl rfl rfl Try.underlying3 Try.underlying3 Try.underlying3 Try.underlying3 Try.underlying22 Try.underlying22 Try.underlying3 Try.underlying3 Try.underlying3 Try.underlying3 Try.underlying30 Try.underlying5 (by kernel_rfl) g3
    obtain ⟨t, e4, _⟩ := DataW.trod_bool Try.underlying4 g4
    refine ⟨⟨z0, z1, l, p, t⟩, A, c, B, d, ?_, ⟨r1, r2, r3, p1, p2, p3, p4, a0, b0, a1, b1⟩⟩
    simp only [List.drop, List.take, List.cons.injEq, and_true] at e0 e1 e2 e4
    simp only [List.drop, List.take, Pk.cs, List.cons.injEq, and_true] at e3
    obtain ⟨f0, f1, f2, f3, f4, f5, f6, f7, f8, f9, f10⟩ := e3
    rw [e0, e1, e2, e4, f0, f1, f2, f3, f4, f5, f6, f7, f8, f9, f10]
    rfl
set_option maxRecDepth 100000 in
theorem openAct1 {fuel : Nat} {cs : List Value} {x : DataW H × List MemPlace} (h : DataW.trod enc Try.prog w base (fun _ => true) held fuel 46 cs = some x) : ∃ k A c, cs = ActA.cs k A c ∧ ActA.At w k A c := by
  obtain ⟨ys, n, _, _, hcl, hyl, hf⟩ := DataW.trod_struct Try.underlying46 h
  rw [oneA] at hcl
  match cs, hcl with
  | [v0, v1, v2, v3, v4, v5], _ =>
    have hyl : ys.length = 6 := hyl
    have g0 : DataW.trod enc Try.prog w base (fun _ => true) held n 3 (([v0, v1, v2, v3, v4, v5].drop 0).take (Try.prog.cellsOf 3)) = ys[0]? := hf 0 _ rfl
    have g1 : DataW.trod enc Try.prog w base (fun _ => true) held n 3 (([v0, v1, v2, v3, v4, v5].drop 1).take (Try.prog.cellsOf 3)) = ys[1]? := hf 1 _ rfl
    have g2 : DataW.trod enc Try.prog w base (fun _ => true) held n 3 (([v0, v1, v2, v3, v4, v5].drop 2).take (Try.prog.cellsOf 3)) = ys[2]? := hf 2 _ rfl
    have g3 : DataW.trod enc Try.prog w base (fun _ => true) held n 3 (([v0, v1, v2, v3, v4, v5].drop 3).take (Try.prog.cellsOf 3)) = ys[3]? := hf 3 _ rfl
    have g4 : DataW.trod enc Try.prog w base (fun _ => true) held n 30 (([v0, v1, v2, v3, v4, v5].drop 4).take (Try.prog.cellsOf 30)) = ys[4]? := hf 4 _ rfl
    have g5 : DataW.trod enc Try.prog w base (fun _ => true) held n 4 (([v0, v1, v2, v3, v4, v5].drop 5).take (Try.prog.cellsOf 4)) = ys[5]? := hf 5 _ rfl
    rw [List.getElem?_eq_getElem (by omega)] at g0 g1 g2 g3 g4 g5
    rw [one3] at g0 g1 g2 g3
    rw [oneB] at g4
    rw [oneT] at g5
    obtain ⟨z0, e0, a0, b0⟩ := open_int' Try.underlying3 g0
    obtain ⟨z1, e1, a1, b1⟩ := open_int' Try.underlying3 g1
    obtain ⟨z2, e2, a2, b2⟩ := open_int' Try.underlying3 g2
    obtain ⟨z3, e3, a3, b3⟩ := open_int' Try.underlying3 g3
    obtain ⟨A, c, l, e4, r1, r2, r3⟩ := openB0 Try.underlying30 Try.underlying5 (by kernel_rfl) g4
    obtain ⟨t, e5, _⟩ := DataW.trod_bool Try.underlying4 g5
    refine ⟨⟨z0, z1, z2, z3, l, t⟩, A, c, ?_, ⟨r1, r2, r3, a0, b0, a1, b1, a2, b2, a3, b3⟩⟩
    simp only [List.drop, List.take, List.cons.injEq, and_true] at e0 e1 e2 e3 e4 e5
    rw [e0, e1, e2, e3, e4, e5]
    rfl
theorem openDos {fuel : Nat} {cs : List Value} {x : DataW H × List MemPlace} (h : DataW.trod enc Try.prog w base (fun _ => true) held fuel 23 cs = some x) : ∃ A c l, cs = [.slice A (l : List DoA).length c] ∧ RDos w A l ∧ l.length ≤ c ∧ c ≤ maxLen := by
  rcases open_slice Try.underlying23 h with ⟨rfl, rfl⟩ | ⟨a, len, cap, m, n, D, Pl, rfl, _, hl, hm, hmm, rfl, hx⟩
  · exact ⟨none, 0, [], rfl, fun i k hi => (by cases hi), Nat.le_refl _, Nat.zero_le _⟩
  · simp only [if_true] at hmm
    subst hmm
    rw [oneD] at hx
    have each : ∀ i, i < len → ∃ y : DoA × Option Addr × Nat × Option Addr × Nat, (∀ j v, (y.1.cs y.2.1 y.2.2.1 y.2.2.2.1 y.2.2.2.2)[j]? = some v → w.cell? ((a.add (i * 15)).add j) = some v) ∧ DoA.At w y.1 y.2.1 y.2.2.1 y.2.2.2.1 y.2.2.2.2 := by
      intro i hi
      obtain ⟨cs', hcs, htr⟩ := hx i (by omega)
      obtain ⟨_, hcl, hat⟩ := World.cells?_some hcs
      obtain ⟨k, A, c, B, d, e1, h1⟩ := openDo1 htr
      refine ⟨(k, A, c, B, d), fun j v hj => ?_, h1⟩
      rw [hat j (by have := (List.getElem?_eq_some_iff.1 hj).1; have e : (k.cs A c B d).length = 15 := rfl; simp only at this; omega), e1]
      exact hj
    obtain ⟨y, hy⟩ := choose_lt each
    refine ⟨some a, m, (List.range len).map fun i => (y i).1, by rw [List.length_map, List.length_range], fun i k hi => ?_, by rw [List.length_map, List.length_range]; exact hl, hm⟩
    rw [List.getElem?_map] at hi
    have hlt : i < len := by
      rcases Nat.lt_or_ge i len with h | h
      · exact h
      · rw [List.getElem?_eq_none (by rw [List.length_range]; exact h)] at hi
        cases hi
    rw [List.getElem?_range hlt] at hi
    obtain rfl : (y i).1 = k := Option.some.inj hi
    have hpl : ∃ b o, a = ⟨b, o, none⟩ := by
      have := (hy 0 (by omega)).1 0 _ rfl
      rw [Nat.zero_mul] at this
      obtain ⟨b, o, e⟩ := addr_plain this
      obtain ⟨b', o', s⟩ := a
      cases s with
      | none => exact ⟨b', o', rfl⟩
      | some s => exact absurd e (by unfold Addr.add; simp)
    obtain ⟨b, o, rfl⟩ := hpl
    obtain ⟨k1, k2⟩ := hy i hlt
    exact ⟨b, o, _, _, _, _, rfl, fun j v hj => by rw [← add_plain', ← add_plain']; exact k1 j v hj, k2⟩
theorem openActs {fuel : Nat} {cs : List Value} {x : DataW H × List MemPlace} (h : DataW.trod enc Try.prog w base (fun _ => true) held fuel 41 cs = some x) : ∃ A c l, cs = [.slice A (l : List ActA).length c] ∧ RActs w A l ∧ l.length ≤ c ∧ c ≤ maxLen := by
  rcases open_slice Try.underlying41 h with ⟨rfl, rfl⟩ | ⟨a, len, cap, m, n, D, Pl, rfl, _, hl, hm, hmm, rfl, hx⟩
  · exact ⟨none, 0, [], rfl, fun i k hi => (by cases hi), Nat.le_refl _, Nat.zero_le _⟩
  · simp only [if_true] at hmm
    subst hmm
    rw [oneA] at hx
    have each : ∀ i, i < len → ∃ y : ActA × Option Addr × Nat, (∀ j v, (y.1.cs y.2.1 y.2.2)[j]? = some v → w.cell? ((a.add (i * 6)).add j) = some v) ∧ ActA.At w y.1 y.2.1 y.2.2 := by
      intro i hi
      obtain ⟨cs', hcs, htr⟩ := hx i (by omega)
      obtain ⟨_, hcl, hat⟩ := World.cells?_some hcs
      obtain ⟨k, A, c, e1, h1⟩ := openAct1 htr
      refine ⟨(k, A, c), fun j v hj => ?_, h1⟩
      rw [hat j (by have := (List.getElem?_eq_some_iff.1 hj).1; have e : (k.cs A c).length = 6 := rfl; simp only at this; omega), e1]
      exact hj
    obtain ⟨y, hy⟩ := choose_lt each
    refine ⟨some a, m, (List.range len).map fun i => (y i).1, by rw [List.length_map, List.length_range], fun i k hi => ?_, by rw [List.length_map, List.length_range]; exact hl, hm⟩
    rw [List.getElem?_map] at hi
    have hlt : i < len := by
      rcases Nat.lt_or_ge i len with h | h
      · exact h
      · rw [List.getElem?_eq_none (by rw [List.length_range]; exact h)] at hi
        cases hi
    rw [List.getElem?_range hlt] at hi
    obtain rfl : (y i).1 = k := Option.some.inj hi
    have hpl : ∃ b o, a = ⟨b, o, none⟩ := by
      have := (hy 0 (by omega)).1 0 _ rfl
      rw [Nat.zero_mul] at this
      obtain ⟨b, o, e⟩ := addr_plain this
      obtain ⟨b', o', s⟩ := a
      cases s with
      | none => exact ⟨b', o', rfl⟩
      | some s => exact absurd e (by unfold Addr.add; simp)
    obtain ⟨b, o, rfl⟩ := hpl
    obtain ⟨k1, k2⟩ := hy i hlt
    exact ⟨b, o, _, _, rfl, fun j v hj => by rw [← add_plain', ← add_plain']; exact k1 j v hj, k2⟩
end
end Go.Proofs.Ytjhnnnklfhbebaa
