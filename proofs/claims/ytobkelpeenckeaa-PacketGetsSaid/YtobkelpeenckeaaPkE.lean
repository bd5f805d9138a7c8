/- packet: read: the walk. -/
import Derived.Test.YtobkelpeenckeaaPkD
namespace Go.Proofs.Ytobkelpeenckeaa
open Go.RowKit
set_option linter.unusedVariables false
set_option linter.unusedSimpArgs false

/-! ### plain -/
def nb2 (l : List UInt8) (i : Nat) : Nat := gb l i * 256 + gb l (i + 1)
def nb4 (l : List UInt8) (i : Nat) : Nat := (gb l i * 256 + gb l (i + 1)) * 65536 + (gb l (i + 2) * 256 + gb l (i + 2 + 1))
theorem nb2_lt (l : List UInt8) (i : Nat) : nb2 l i < 65536 := by have := gb_lt l i; have := gb_lt l (i + 1); unfold nb2; omega
theorem nb4_lt (l : List UInt8) (i : Nat) : nb4 l i < 4294967296 := by have := gb_lt l i; have := gb_lt l (i + 1); have := gb_lt l (i + 2); have := gb_lt l (i + 2 + 1); unfold nb4; omega
/-- The probe that stands in options, as a number with a sign. -/
def prI (l : List UInt8) : Int := bits .or .i64 (IntKind.i64.wrap ((nb4 l 2 : Int) * 4294967296)) (nb4 l 6 : Int)
theorem prI_small (l : List UInt8) (h : nb4 l 2 < 2147483648) : prI l = ((nb4 l 2 * 4294967296 + nb4 l 6 : Nat) : Int) := by
  have h6 := nb4_lt l 6
  unfold prI
  have e : IntKind.i64.wrap ((nb4 l 2 : Int) * 4294967296) = ((nb4 l 2 * 4294967296 : Nat) : Int) := by rw [IntWalk.i64_in _ (by omega)]; simp
  rw [e, or_i64 _ _ (by omega) (by omega), show nb4 l 2 * 4294967296 = nb4 l 2 * 2 ^ 32 from rfl, or_add 32 _ _ (by simpa using h6)]
theorem prI_big (l : List UInt8) (h : 2147483648 ≤ nb4 l 2) : prI l < 0 := by
  have h2 := nb4_lt l 2
  have h6 := nb4_lt l 6
  unfold prI
  have e : IntKind.i64.wrap ((nb4 l 2 : Int) * 4294967296) = (nb4 l 2 : Int) * 4294967296 - 18446744073709551616 := by rw [IntKind.wrap_i64]; omega
  rw [e]
  have hm : ∃ a : Nat, (nb4 l 2 : Int) * 4294967296 - 18446744073709551616 = -(a : Int) ∧ a ≤ 9223372036854775808 ∧ 0 < a := ⟨(18446744073709551616 - nb4 l 2 * 4294967296), by omega, by omega, by omega⟩
  obtain ⟨a, ha, ha1, ha2⟩ := hm
  have hor : bits .or .i64 ((nb4 l 2 : Int) * 4294967296 - 18446744073709551616) (nb4 l 6 : Int) = IntKind.i64.wrap (((nb4 l 2 * 4294967296 + nb4 l 6 : Nat)) : Int) := by
    have b1 : BitVec.ofInt 64 ((nb4 l 2 : Int) * 4294967296 - 18446744073709551616) = BitVec.ofNat 64 (nb4 l 2 * 4294967296) := by
      apply BitVec.eq_of_toNat_eq
      rw [BitVec.toNat_ofInt, BitVec.toNat_ofNat]
      have : ((2 ^ 64 : Nat) : Int) = 18446744073709551616 := by decide
      rw [this]
      have e2 : (2 : Nat) ^ 64 = 18446744073709551616 := by decide
      rw [e2]
      omega
    show IntKind.i64.wrap (((BitVec.ofInt 64 ((nb4 l 2 : Int) * 4294967296 - 18446744073709551616) ||| BitVec.ofInt 64 (nb4 l 6 : Int)).toNat : Nat) : Int) = _
    rw [b1, BitVec.ofInt_natCast, BitVec.toNat_or, BitVec.toNat_ofNat, BitVec.toNat_ofNat, Nat.mod_eq_of_lt (by simp; omega), Nat.mod_eq_of_lt (by simp; omega), show nb4 l 2 * 4294967296 = nb4 l 2 * 2 ^ 32 from rfl, or_add 32 _ _ (by simpa using h6)]
  rw [hor, IntKind.wrap_i64]
  omega
def isPr (l : List UInt8) : Bool := decide (10 ≤ l.length) && decide (gb l 0 = 1)
def isOg (l : List UInt8) : Bool := decide (4 ≤ l.length) && decide (gb l 0 = 2)
def afterPr (l : List UInt8) : List UInt8 := if isPr l = true then l.drop 10 else l
/-- A packet's cells, with what is read of its options. -/
def readCs (cs : List Value) (l : List UInt8) : List Value :=
  let c1 := if isPr l = true then cs.set 8 (.int .i64 (prI l)) else cs
  if isOg (afterPr l) = true then c1.set 9 (.int .i64 (nb2 (afterPr l) 2 : Int)) else c1
theorem readCs_nn (cs : List Value) (l : List UInt8) (h : isPr l = false) (k : isOg l = false) : readCs cs l = cs := by unfold readCs afterPr; simp [h, k]
theorem readCs_ny (cs : List Value) (l : List UInt8) (h : isPr l = false) (k : isOg l = true) : readCs cs l = cs.set 9 (.int .i64 (nb2 l 2 : Int)) := by unfold readCs afterPr; simp [h, k]
theorem readCs_yn (cs : List Value) (l : List UInt8) (h : isPr l = true) (k : isOg (l.drop 10) = false) : readCs cs l = cs.set 8 (.int .i64 (prI l)) := by unfold readCs afterPr; simp [h, k]
theorem readCs_yy (cs : List Value) (l : List UInt8) (h : isPr l = true) (k : isOg (l.drop 10) = true) : readCs cs l = (cs.set 8 (.int .i64 (prI l))).set 9 (.int .i64 (nb2 (l.drop 10) 2 : Int)) := by unfold readCs afterPr; simp [h, k]
set_option maxRecDepth 100000 in
set_option maxHeartbeats 4000000 in
theorem read_calls (gp : Nat) (cs : List Value) (v8 v9 : Value) (h8 : cs[8]? = some v8) (h9 : cs[9]? = some v9) (A : Option Addr) (m c : Nat) (l : List UInt8) (hl : l.length = m) (w : World) (hK : BK w gp 25 cs) (h : RB w A l) (hmc : m ≤ c) (hm : m ≤ 300) (hoff : 0 < m → Off gp A) :
    Calls Try.prog 42 #[.pointer (some ⟨gp, 0, none⟩), .slice A m c] w fun e w' => e = .returned (.tuple #[]) ∧ BK w' gp 25 (readCs cs l) ∧ w.grownBy w' (some gp) := by
  have H := Lib.hid h
  have HK := Lib.hid hK
  have HL := Lib.hid hl
  have HOFF := Lib.hid hoff
  have H8 := Lib.hid h8
  have H9 := Lib.hid h9
  clear h hK hl hoff h8 h9

  by_cases h10 : 10 ≤ m
  · obtain ⟨b, o, rfl, hcl⟩ := H.out.form (by rw [HL.out]; omega)
    have hbg : b ≠ gp := HOFF.out (by omega) b o rfl
    have c0 := hcl 0 (by rw [HL.out]; omega)
    obtain ⟨x0, hx0⟩ : ∃ x, gb l 0 = x := ⟨_, rfl⟩
    rw [hx0, Nat.add_zero] at c0
    by_cases h1 : x0 = 1
    · subst h1
      have hpr : isPr l = true := by unfold isPr; rw [HL.out, hx0]; simp [h10]
      have c2 := hcl 2 (by rw [HL.out]; omega)
      have c3 := hcl 3 (by rw [HL.out]; omega)
      have c4 := hcl 4 (by rw [HL.out]; omega)
      have c5 := hcl 5 (by rw [HL.out]; omega)
      have c6 := hcl 6 (by rw [HL.out]; omega)
      have c7 := hcl 7 (by rw [HL.out]; omega)
      have c8 := hcl 8 (by rw [HL.out]; omega)
      have c9 := hcl 9 (by rw [HL.out]; omega)
      have k1 : ∀ W : World, W.cell? ⟨b, o + 2, none⟩ = some (.int .u8 (gb l 2 : Int)) → W.cell? ⟨b, o + 2 + 1, none⟩ = some (.int .u8 (gb l 3 : Int)) → W.cell? ⟨b, o + 2 + 2, none⟩ = some (.int .u8 (gb l 4 : Int)) → W.cell? ⟨b, o + 2 + 2 + 1, none⟩ = some (.int .u8 (gb l 5 : Int)) →
          Calls Try.prog 41 #[.slice (some ⟨b, o + 2, none⟩) (m - 2) (c - 2)] W fun e w' => e = .returned (.int .u32 (nb4 l 2 : Int)) ∧ ∃ d, w' = W.drewN d := fun W a0 a1 a2 a3 =>
        get4_calls b (o + 2) (m - 2) (c - 2) _ _ _ _ (gb_lt l 2) (gb_lt l 3) (gb_lt l 4) (gb_lt l 5) (by omega) (by omega) W a0 a1 a2 a3
      have k2 : ∀ W : World, W.cell? ⟨b, o + 6, none⟩ = some (.int .u8 (gb l 6 : Int)) → W.cell? ⟨b, o + 6 + 1, none⟩ = some (.int .u8 (gb l 7 : Int)) → W.cell? ⟨b, o + 6 + 2, none⟩ = some (.int .u8 (gb l 8 : Int)) → W.cell? ⟨b, o + 6 + 2 + 1, none⟩ = some (.int .u8 (gb l 9 : Int)) →
          Calls Try.prog 41 #[.slice (some ⟨b, o + 6, none⟩) (m - 6) (c - 6)] W fun e w' => e = .returned (.int .u32 (nb4 l 6 : Int)) ∧ ∃ d, w' = W.drewN d := fun W a0 a1 a2 a3 =>
        get4_calls b (o + 6) (m - 6) (c - 6) _ _ _ _ (gb_lt l 6) (gb_lt l 7) (gb_lt l 8) (gb_lt l 9) (by omega) (by omega) W a0 a1 a2 a3
      have hZ : bits .or .i64 (IntKind.i64.wrap ((nb4 l 2 : Int) * 4294967296)) (nb4 l 6 : Int) = prI l := rfl
      have g2 := nb4_lt l 2
      have g6 := nb4_lt l 6
      obtain ⟨u2, hu2⟩ : ∃ x, nb4 l 2 = x := ⟨_, rfl⟩
      obtain ⟨u6, hu6⟩ : ∃ x, nb4 l 6 = x := ⟨_, rfl⟩
      obtain ⟨Z, hZZ⟩ : ∃ x, prI l = x := ⟨_, rfl⟩
      rw [hu2] at k1 hZ g2
      rw [hu6] at k2 hZ g6
      rw [hZZ] at hZ
      have C2 := Lib.hid c2
      have C3 := Lib.hid c3
      have C4 := Lib.hid c4
      have C5 := Lib.hid c5
      have C6 := Lib.hid c6
      have C7 := Lib.hid c7
      have C8 := Lib.hid c8
      have C9 := Lib.hid c9
      have K1 := Lib.hid k1
      have K2 := Lib.hid k2
      have HZZ := Lib.hid hZZ
      have HPR := Lib.hid hpr
      have hk8 := HK.out.cell H8.out
      have hf8 := HK.out.frozen 8
      have z2 : (2 : Int) ≤ (m : Int) := by omega
      have z6 : (6 : Int) ≤ (m : Int) := by omega
      have zc2 : ¬ (c = 2) := by omega
      have zc6 : ¬ (c = 6) := by omega
      have zc10 : ¬ (c = 10) ∨ c = 10 := by omega
      have w2 : IntKind.i64.wrap (u2 : Int) = (u2 : Int) := IntWalk.i64_in _ (by omega)
      have w6 : IntKind.i64.wrap (u6 : Int) = (u6 : Int) := IntWalk.i64_in _ (by omega)
      have hpl : (2 : Int) ^ 32 = 4294967296 := by decide
      clear hcl hx0 c2 c3 c4 c5 c6 c7 c8 c9 k1 k2 hu2 hu6 hZZ hpr
      go_enter Try.func42, Try.ntmps42
      go_upto_region 1 with fail
      go_region_with (first
        | (go_at_call 41; (with_reducible refine (K1.out _ ?_ ?_ ?_ ?_).mono ?_); exact C2.out; exact C3.out; exact C4.out; exact C5.out; rintro e w3 ⟨rfl, d3, rfl⟩)
        | (go_at_call 41; (with_reducible refine (K2.out _ ?_ ?_ ?_ ?_).mono ?_); exact C6.out; exact C7.out; exact C8.out; exact C9.out; rintro e w3 ⟨rfl, d4, rfl⟩))
      obtain ⟨n, hn⟩ : ∃ n, 1 + d3 + d4 = n := ⟨_, rfl⟩
      rw [hn]
      have hb1 := ext_drewN (Below.refl w.heap.size w) n
      have hg1 := grown_trans (grown_of_below hb1 (some gp)) (grown_setCell (w.drewN n) gp 8 (.int .i64 Z))
      have HK1 := Lib.hid ((HK.out.ext hb1).set 8 (.int .i64 Z))
      have HX1 := Lib.hid ((H.out.ext hb1).grown (grown_setCell (w.drewN n) gp 8 (.int .i64 Z)) (by intro _; exact HOFF.out (by omega)))
      have HG1 := Lib.hid hg1
      have H91 : Hid ((cs.set 8 (.int .i64 Z))[9]? = some v9) := Lib.hid (by rw [List.getElem?_set_ne (by omega)]; exact H9.out)
      clear hn hb1 hg1 hk8 hf8 hZ C2 C3 C4 C5 C6 C7 C8 C9 K1 K2 c0 z2 z6 zc2 zc6 w2 w6
      generalize (w.drewN n).setCell ⟨gp, 8, none⟩ (.int .i64 Z) = w1 at *
      by_cases hc10 : c = 10
      · have hm10 : m = 10 := by omega
        subst hc10 hm10
        have HOG : Hid (isOg (l.drop 10) = false) := Lib.hid (by unfold isOg; rw [List.length_drop, HL.out]; rfl)
        have HRC := Lib.hid (readCs_yn cs l HPR.out HOG.out)
        go_wp2
        go_end0
        exact ⟨rfl, by rw [HRC.out, HZZ.out]; exact HK1.out, HG1.out⟩
      · have HXD : Hid (RB w1 (some ⟨b, o + 10, none⟩) (l.drop 10)) := Lib.hid (HX1.out.drop 10)
        have HLD : Hid ((l.drop 10).length = m - 10) := Lib.hid (by rw [List.length_drop, HL.out])
        by_cases h4 : 4 ≤ (m - 10)
        · skip
          obtain ⟨_, _, eA, hcl⟩ := HXD.out.form (by rw [HLD.out]; omega)
          cases eA
          have q0 := hcl 0 (by rw [HLD.out]; omega)
          have q2 := hcl 2 (by rw [HLD.out]; omega)
          have q3 := hcl 3 (by rw [HLD.out]; omega)
          rw [Nat.add_zero] at q0
          obtain ⟨y0, hy0⟩ : ∃ x, gb (l.drop 10) 0 = x := ⟨_, rfl⟩
          rw [hy0] at q0
          by_cases hy2 : y0 = 2
          · subst hy2
            have HOG : Hid (isOg (l.drop 10) = true) := Lib.hid (by unfold isOg; rw [HLD.out, hy0]; simp [h4])
            have HRC := Lib.hid (readCs_yy cs l HPR.out HOG.out)
            have k9 := HK1.out.cell H91.out
            have f9 := HK1.out.frozen 9
            have Q2 := Lib.hid q2
            have Q3 := Lib.hid q3
            clear hcl hy0 q2 q3
            go_wp2_with fail
            refine (get2_calls b ((o + 10) + 2) ((m - 10) - 2) ((c - 10) - 2) _ _ (gb_lt (l.drop 10) 2) (gb_lt (l.drop 10) 3) (by omega) _ Q2.out Q3.out).mono ?_
            rintro e w5 ⟨rfl, dd, rfl⟩
            rw [show gb (l.drop 10) 2 * 256 + gb (l.drop 10) 3 = nb2 (l.drop 10) 2 from rfl]
            have hbd := ext_drewN (Below.refl w1.heap.size w1) dd
            have HK5 := Lib.hid ((HK1.out.ext hbd).set 9 (.int .i64 (nb2 (l.drop 10) 2 : Int)))
            have HG5 := Lib.hid (grown_trans (grown_trans HG1.out (grown_of_below hbd (some gp))) (grown_setCell (w1.drewN dd) gp 9 (.int .i64 (nb2 (l.drop 10) 2 : Int))))
            have k9' : (w1.drewN dd).cell? ⟨gp, 9, none⟩ = some v9 := (HK1.out.ext hbd).cell H91.out
            have f9' : (w1.drewN dd).frozen? ⟨gp, 9, none⟩ = false := (HK1.out.ext hbd).frozen 9
            obtain ⟨N2, hN2⟩ : ∃ x, nb2 (l.drop 10) 2 = x := ⟨_, rfl⟩
            rw [hN2] at HK5 HG5 HRC ⊢
            clear hbd hN2 k9 f9
            generalize w1.drewN dd = w6 at *
            go_wp2
            go_end0
            exact ⟨rfl, by rw [HRC.out, HZZ.out]; exact HK5.out, HG5.out⟩
          · have HOG : Hid (isOg (l.drop 10) = false) := Lib.hid (by unfold isOg; rw [hy0]; simp; omega)
            have HRC := Lib.hid (readCs_yn cs l HPR.out HOG.out)
            have d2 : ((y0 : Int) == 2) = false := beq_eq_false_iff_ne.2 (by omega)
            clear hcl hy0 q2 q3
            go_wp2
            go_end0
            exact ⟨rfl, by rw [HRC.out, HZZ.out]; exact HK1.out, HG1.out⟩
        · have HOG : Hid (isOg (l.drop 10) = false) := Lib.hid (by unfold isOg; rw [HLD.out]; simp; omega)
          have HRC := Lib.hid (readCs_yn cs l HPR.out HOG.out)
          go_wp2
          go_end0
          exact ⟨rfl, by rw [HRC.out, HZZ.out]; exact HK1.out, HG1.out⟩
    · have hpr : isPr l = false := by unfold isPr; rw [hx0]; simp; omega
      have d0 : ((x0 : Int) == 1) = false := beq_eq_false_iff_ne.2 (by omega)
      have HPR := Lib.hid hpr
      have HX0 := Lib.hid hx0
      have HG1 : Hid (w.grownBy w (some gp)) := Lib.hid (grown_refl _ _)
      clear hpr hcl hx0
      go_enter Try.func42, Try.ntmps42
      by_cases h4 : 4 ≤ m
      · skip
        obtain ⟨_, _, eA, hcl⟩ := H.out.form (by rw [HL.out]; omega)
        cases eA
        have q0 := hcl 0 (by rw [HL.out]; omega)
        have q2 := hcl 2 (by rw [HL.out]; omega)
        have q3 := hcl 3 (by rw [HL.out]; omega)
        rw [Nat.add_zero] at q0
        obtain ⟨y0, hy0⟩ : ∃ x, gb l 0 = x := ⟨_, rfl⟩
        rw [hy0] at q0
        obtain rfl : x0 = y0 := by rw [← hy0, HX0.out]
        clear q0
        by_cases hy2 : x0 = 2
        · subst hy2
          have HOG : Hid (isOg l = true) := Lib.hid (by unfold isOg; rw [HL.out, hy0]; simp [h4])
          have HRC := Lib.hid (readCs_ny cs l HPR.out HOG.out)
          have k9 := HK.out.cell H9.out
          have f9 := HK.out.frozen 9
          have Q2 := Lib.hid q2
          have Q3 := Lib.hid q3
          clear hcl hy0 q2 q3
          go_wp2_with fail
          refine (get2_calls b (o + 2) (m - 2) (c - 2) _ _ (gb_lt l 2) (gb_lt l 3) (by omega) _ Q2.out Q3.out).mono ?_
          rintro e w5 ⟨rfl, dd, rfl⟩
          rw [show gb l 2 * 256 + gb l 3 = nb2 l 2 from rfl]
          have hbd := ext_drewN (Below.refl w.heap.size w) dd
          have HK5 := Lib.hid ((HK.out.ext hbd).set 9 (.int .i64 (nb2 l 2 : Int)))
          have HG5 := Lib.hid (grown_trans (grown_trans HG1.out (grown_of_below hbd (some gp))) (grown_setCell (w.drewN dd) gp 9 (.int .i64 (nb2 l 2 : Int))))
          have k9' : (w.drewN dd).cell? ⟨gp, 9, none⟩ = some v9 := (HK.out.ext hbd).cell H9.out
          have f9' : (w.drewN dd).frozen? ⟨gp, 9, none⟩ = false := (HK.out.ext hbd).frozen 9
          obtain ⟨N2, hN2⟩ : ∃ x, nb2 l 2 = x := ⟨_, rfl⟩
          rw [hN2] at HK5 HG5 HRC ⊢
          clear hbd hN2 k9 f9
          generalize w.drewN dd = w6 at *
          go_wp2
          go_end0
          exact ⟨rfl, by rw [HRC.out]; exact HK5.out, HG5.out⟩
        · have HOG : Hid (isOg l = false) := Lib.hid (by unfold isOg; rw [hy0]; simp; omega)
          have HRC := Lib.hid (readCs_nn cs l HPR.out HOG.out)
          have d2 : ((x0 : Int) == 2) = false := beq_eq_false_iff_ne.2 (by omega)
          clear hcl hy0 q2 q3
          go_wp2
          go_end0
          exact ⟨rfl, by rw [HRC.out]; exact HK.out, HG1.out⟩
      · exact absurd h10 (by omega)
  · have hpr : isPr l = false := by unfold isPr; rw [HL.out]; simp; omega
    have HPR := Lib.hid hpr
    have HG1 : Hid (w.grownBy w (some gp)) := Lib.hid (grown_refl _ _)
    clear hpr
    go_enter Try.func42, Try.ntmps42
    by_cases h4 : 4 ≤ m
    · obtain ⟨b, o, rfl, _⟩ := H.out.form (by rw [HL.out]; omega)
      have hbg : b ≠ gp := HOFF.out (by omega) b o rfl
      obtain ⟨_, _, eA, hcl⟩ := H.out.form (by rw [HL.out]; omega)
      cases eA
      have q0 := hcl 0 (by rw [HL.out]; omega)
      have q2 := hcl 2 (by rw [HL.out]; omega)
      have q3 := hcl 3 (by rw [HL.out]; omega)
      rw [Nat.add_zero] at q0
      obtain ⟨y0, hy0⟩ : ∃ x, gb l 0 = x := ⟨_, rfl⟩
      rw [hy0] at q0
      by_cases hy2 : y0 = 2
      · subst hy2
        have HOG : Hid (isOg l = true) := Lib.hid (by unfold isOg; rw [HL.out, hy0]; simp [h4])
        have HRC := Lib.hid (readCs_ny cs l HPR.out HOG.out)
        have k9 := HK.out.cell H9.out
        have f9 := HK.out.frozen 9
        have Q2 := Lib.hid q2
        have Q3 := Lib.hid q3
        clear hcl hy0 q2 q3
        go_wp2_with fail
        refine (get2_calls b (o + 2) (m - 2) (c - 2) _ _ (gb_lt l 2) (gb_lt l 3) (by omega) _ Q2.out Q3.out).mono ?_
        rintro e w5 ⟨rfl, dd, rfl⟩
        rw [show gb l 2 * 256 + gb l 3 = nb2 l 2 from rfl]
        have hbd := ext_drewN (Below.refl w.heap.size w) dd
        have HK5 := Lib.hid ((HK.out.ext hbd).set 9 (.int .i64 (nb2 l 2 : Int)))
        have HG5 := Lib.hid (grown_trans (grown_trans HG1.out (grown_of_below hbd (some gp))) (grown_setCell (w.drewN dd) gp 9 (.int .i64 (nb2 l 2 : Int))))
        have k9' : (w.drewN dd).cell? ⟨gp, 9, none⟩ = some v9 := (HK.out.ext hbd).cell H9.out
        have f9' : (w.drewN dd).frozen? ⟨gp, 9, none⟩ = false := (HK.out.ext hbd).frozen 9
        obtain ⟨N2, hN2⟩ : ∃ x, nb2 l 2 = x := ⟨_, rfl⟩
        rw [hN2] at HK5 HG5 HRC ⊢
        clear hbd hN2 k9 f9
        generalize w.drewN dd = w6 at *
        go_wp2
        go_end0
        exact ⟨rfl, by rw [HRC.out]; exact HK5.out, HG5.out⟩
      · have HOG : Hid (isOg l = false) := Lib.hid (by unfold isOg; rw [hy0]; simp; omega)
        have HRC := Lib.hid (readCs_nn cs l HPR.out HOG.out)
        have d2 : ((y0 : Int) == 2) = false := beq_eq_false_iff_ne.2 (by omega)
        clear hcl hy0 q2 q3
        go_wp2
        go_end0
        exact ⟨rfl, by rw [HRC.out]; exact HK.out, HG1.out⟩
    · have HOG : Hid (isOg l = false) := Lib.hid (by unfold isOg; rw [HL.out]; simp; omega)
      have HRC := Lib.hid (readCs_nn cs l HPR.out HOG.out)
      go_wp2
      go_end0
      exact ⟨rfl, by rw [HRC.out]; exact HK.out, HG1.out⟩

end Go.Proofs.Ytobkelpeenckeaa
