/- What a row's argument reads as that is an api.Packet: ten numbers and a slice of bytes. -/
import Derived.Test.YtjhnnnklfhbebaaRowDo
import Derived.Test.YtjhnnnklfhbebaaPkA
namespace Go.Proofs.Ytjhnnnklfhbebaa
open Go.RowKit Go.ChangeShapes Go.WideShapes Go.ChangeAt Go.Deep
set_option linter.unusedVariables false

/-- A packet's numbers fit. -/
def PkIn (p : Pk) : Prop := p.seq < 4294967296 ∧ p.ack < 4294967296
section
variable {H : Type} {enc : TypeId × Value → H} {P : Program} {w : World} {base : Nat} {held : Bool}
theorem openPk {t tu : TypeId} {fs : Array Field} {f0 f1 f2 f3 f4 f5 f6 f7 f8 f9 f10 : Field} {fuel : Nat} {cs : List Value} {x : DataW H × List MemPlace} (he : P.underlying t = some (.struct fs)) (hone : oneCellFields P fs = true) (hC : P.cellsOf t = 11)
    (h0 : fs[0]? = some f0) (h1 : fs[1]? = some f1) (h2 : fs[2]? = some f2) (h3 : fs[3]? = some f3) (h4 : fs[4]? = some f4) (h5 : fs[5]? = some f5) (h6 : fs[6]? = some f6) (h7 : fs[7]? = some f7) (h8 : fs[8]? = some f8) (h9 : fs[9]? = some f9) (h10 : fs[10]? = some f10)
    (i0 : P.underlying f0.type = some (.int .i64)) (i1 : P.underlying f1.type = some (.int .i64)) (i2 : P.underlying f2.type = some (.int .i64)) (i3 : P.underlying f3.type = some (.int .i64)) (i4 : P.underlying f4.type = some (.int .u32)) (i5 : P.underlying f5.type = some (.int .u32)) (i6 : P.underlying f6.type = some (.int .i64)) (i7 : P.underlying f7.type = some (.int .i64)) (i8 : P.underlying f8.type = some (.int .i64)) (i9 : P.underlying f9.type = some (.int .i64)) (hb : P.underlying f10.type = some (.slice tu)) (hu : P.underlying tu = some (.int .u8)) (cu : P.cellsOf tu = 1)
    (h : DataW.trod enc P w base (fun _ => true) held fuel t cs = some x) : ∃ (p : Pk) (A : Option Addr) (c : Nat), cs = p.cs A p.data.length c ∧ RB w A p.data ∧ p.data.length ≤ c ∧ c ≤ maxLen ∧ PkIn p := by
  obtain ⟨ys, n, _, _, hcl, hyl, hf⟩ := DataW.trod_struct he h
  rw [hC] at hcl
  match cs, hcl with
  | [v0, v1, v2, v3, v4, v5, v6, v7, v8, v9, v10], _ =>
    obtain ⟨p0, q0⟩ := hone_of hone 0 f0 h0
    have s0 : 0 < fs.size := (Array.getElem?_eq_some_iff.1 h0).1
    have g0 := hf 0 f0 h0
    rw [p0, q0, List.getElem?_eq_getElem (by omega)] at g0
    obtain ⟨p1, q1⟩ := hone_of hone 1 f1 h1
    have s1 : 1 < fs.size := (Array.getElem?_eq_some_iff.1 h1).1
    have g1 := hf 1 f1 h1
    rw [p1, q1, List.getElem?_eq_getElem (by omega)] at g1
    obtain ⟨p2, q2⟩ := hone_of hone 2 f2 h2
    have s2 : 2 < fs.size := (Array.getElem?_eq_some_iff.1 h2).1
    have g2 := hf 2 f2 h2
    rw [p2, q2, List.getElem?_eq_getElem (by omega)] at g2
    obtain ⟨p3, q3⟩ := hone_of hone 3 f3 h3
    have s3 : 3 < fs.size := (Array.getElem?_eq_some_iff.1 h3).1
    have g3 := hf 3 f3 h3
    rw [p3, q3, List.getElem?_eq_getElem (by omega)] at g3
    obtain ⟨p4, q4⟩ := hone_of hone 4 f4 h4
    have s4 : 4 < fs.size := (Array.getElem?_eq_some_iff.1 h4).1
    have g4 := hf 4 f4 h4
    rw [p4, q4, List.getElem?_eq_getElem (by omega)] at g4
    obtain ⟨p5, q5⟩ := hone_of hone 5 f5 h5
    have s5 : 5 < fs.size := (Array.getElem?_eq_some_iff.1 h5).1
    have g5 := hf 5 f5 h5
    rw [p5, q5, List.getElem?_eq_getElem (by omega)] at g5
    obtain ⟨p6, q6⟩ := hone_of hone 6 f6 h6
    have s6 : 6 < fs.size := (Array.getElem?_eq_some_iff.1 h6).1
    have g6 := hf 6 f6 h6
    rw [p6, q6, List.getElem?_eq_getElem (by omega)] at g6
    obtain ⟨p7, q7⟩ := hone_of hone 7 f7 h7
    have s7 : 7 < fs.size := (Array.getElem?_eq_some_iff.1 h7).1
    have g7 := hf 7 f7 h7
    rw [p7, q7, List.getElem?_eq_getElem (by omega)] at g7
    obtain ⟨p8, q8⟩ := hone_of hone 8 f8 h8
    have s8 : 8 < fs.size := (Array.getElem?_eq_some_iff.1 h8).1
    have g8 := hf 8 f8 h8
    rw [p8, q8, List.getElem?_eq_getElem (by omega)] at g8
    obtain ⟨p9, q9⟩ := hone_of hone 9 f9 h9
    have s9 : 9 < fs.size := (Array.getElem?_eq_some_iff.1 h9).1
    have g9 := hf 9 f9 h9
    rw [p9, q9, List.getElem?_eq_getElem (by omega)] at g9
    obtain ⟨p10, q10⟩ := hone_of hone 10 f10 h10
    have s10 : 10 < fs.size := (Array.getElem?_eq_some_iff.1 h10).1
    have g10 := hf 10 f10 h10
    rw [p10, q10, List.getElem?_eq_getElem (by omega)] at g10
    obtain ⟨z0, e0, _, w0⟩ := DataW.trod_int i0 g0
    have d0 : v0 = .int .i64 z0 := by simpa using e0
    obtain ⟨z1, e1, _, w1⟩ := DataW.trod_int i1 g1
    have d1 : v1 = .int .i64 z1 := by simpa using e1
    obtain ⟨z2, e2, _, w2⟩ := DataW.trod_int i2 g2
    have d2 : v2 = .int .i64 z2 := by simpa using e2
    obtain ⟨z3, e3, _, w3⟩ := DataW.trod_int i3 g3
    have d3 : v3 = .int .i64 z3 := by simpa using e3
    obtain ⟨z4, e4, _, w4⟩ := DataW.trod_int i4 g4
    have d4 : v4 = .int .u32 z4 := by simpa using e4
    obtain ⟨z5, e5, _, w5⟩ := DataW.trod_int i5 g5
    have d5 : v5 = .int .u32 z5 := by simpa using e5
    obtain ⟨z6, e6, _, w6⟩ := DataW.trod_int i6 g6
    have d6 : v6 = .int .i64 z6 := by simpa using e6
    obtain ⟨z7, e7, _, w7⟩ := DataW.trod_int i7 g7
    have d7 : v7 = .int .i64 z7 := by simpa using e7
    obtain ⟨z8, e8, _, w8⟩ := DataW.trod_int i8 g8
    have d8 : v8 = .int .i64 z8 := by simpa using e8
    obtain ⟨z9, e9, _, w9⟩ := DataW.trod_int i9 g9
    have d9 : v9 = .int .i64 z9 := by simpa using e9
    obtain ⟨A, c, l, e10, r1, r2, r3⟩ := openB0 hb hu cu g10
    have d10 : v10 = .slice A l.length c := by simpa using e10
    have b4 := bounds_u32 w4
    obtain ⟨m4, rfl⟩ := Int.eq_ofNat_of_zero_le (show 0 ≤ z4 by omega)
    have b5 := bounds_u32 w5
    obtain ⟨m5, rfl⟩ := Int.eq_ofNat_of_zero_le (show 0 ≤ z5 by omega)
    refine ⟨⟨z0, z1, z2, z3, m4, m5, z6, z7, z8, z9, l⟩, A, c, ?_, r1, r2, r3, by show m4 < _; omega, by show m5 < _; omega⟩
    rw [d0, d1, d2, d3, d4, d5, d6, d7, d8, d9, d10]
    rfl
end
end Go.Proofs.Ytjhnnnklfhbebaa
