/- flumelaw13's pair: settle: the walk. -/
import Derived.Test.YtjhnnnklfhbebaaLawQOrder
namespace Go.Proofs.Ytjhnnnklfhbebaa
open Go.RowKit
set_option linter.unusedVariables false
set_option linter.unusedSimpArgs false
/-- Acts of settle: a side reads, ticks, is given a packet. -/
def rdA (i : Nat) : ActA := ⟨7, (i : Int), 0, 5000, [], false⟩
def tkA (i : Nat) : ActA := ⟨4, (i : Int), 0, 0, [], false⟩
def gvA (i : Nat) : ActA := ⟨0, (i : Int), 0, 0, [], false⟩
namespace PS
def iter (P : PS) : PS := ((P.does (gvA (if (P.bag 0).length = 0 then 1 else 0))).does (rdA 0)).does (rdA 1)
def busy (P : PS) : Prop := 0 < (P.bag 0).length + (P.bag 1).length
def rest (P : PS) : PS := (((P.does (rdA 0)).does (rdA 1)).does (tkA 0)).does (tkA 1)
end PS
inductive Drains : Nat → PS → PS → Prop
  | nil {P : PS} : ¬ P.busy → Drains 0 P P
  | cons {k : Nat} {P Q : PS} : P.busy → Drains k P.iter Q → Drains (k + 1) P Q
inductive Settles : Nat → PS → PS → Prop
  | nil {P : PS} : Settles 0 P P
  | cons {k t : Nat} {P Q R : PS} : Drains k P Q → k ≤ 3001 → Settles t Q.rest R → Settles (t + 1) P R
theorem Drains.more {k : Nat} {P Q : PS} (h : Drains k P Q) (hb : P.busy) : ∃ k0, k = k0 + 1 ∧ Drains k0 P.iter Q := by
  cases h with
  | nil hn => exact absurd hb hn
  | cons a b => exact ⟨_, rfl, b⟩
theorem Drains.done {k : Nat} {P Q : PS} (h : Drains k P Q) (hb : ¬ P.busy) : Q = P := by
  cases h with
  | nil hn => rfl
  | cons a b => exact absurd a hb
section
variable {w0 W : World} {iss irs g m : Nat} {P : PS}
theorem lit_at (w0 : World) {k : ActA} (hb : k.b = []) (h1 : 0 ≤ k.op) (h2 : k.op ≤ 10) (h3 : 0 ≤ k.side) (h4 : k.side ≤ 1) (h5 : k.at_ = 0) (h6 : 0 ≤ k.n) (h7 : k.n ≤ 5000) : ActA.At w0 k none 0 :=
  ⟨by rw [hb]; exact RB.nil _ _, by rw [hb]; exact Nat.le_refl _, Nat.zero_le _, by omega, by omega, by omega, by omega, by omega, by omega, by omega, by omega⟩
theorem OdAt.lit (h : OdAt w0 iss irs g P m W) (hm : m ≤ 2000000) {k : ActA} (hb : k.b = []) (h1 : 0 ≤ k.op) (h2 : k.op ≤ 10) (h3 : 0 ≤ k.side) (h4 : k.side ≤ 1) (h5 : k.at_ = 0) (h6 : 0 ≤ k.n) (h7 : k.n ≤ 5000) (h8 : k.stay = false) :
    Calls Try.prog 23 #[.pointer (some ⟨g, 0, none⟩), .agg #[.int .i64 k.op, .int .i64 k.side, .int .i64 0, .int .i64 k.n, .slice none 0 0, .bool false]] W fun e W' => e = .returned (.tuple #[]) ∧ OdAt w0 iss irs g (P.does k) (m + 1) W' := by
  have := h.does hm k none 0 (lit_at w0 hb h1 h2 h3 h4 h5 h6 h7)
  unfold ActA.cs at this
  rw [hb, h5, h8] at this
  exact this
theorem OdAt.bags (h : OdAt w0 iss irs g P m W) : ∃ A0 c0 A1 c1, W.cell? ⟨g, 3, none⟩ = some (.slice A0 (P.bag 0).length c0) ∧ W.cell? ⟨g, 4, none⟩ = some (.slice A1 (P.bag 1).length c1) ∧ (P.bag 0).length ≤ 300 ∧ (P.bag 1).length ≤ 300 := by
  obtain ⟨⟨V, h1, h2, h3⟩, h4⟩ := h
  have hk := (h1.1.get 0 p_bk).1
  obtain ⟨A0, c0, e0, _⟩ := row_form' (h1.1.get _ (p_row (i := 0) (by omega)))
  obtain ⟨A1, c1, e1, _⟩ := row_form' (h1.1.get _ (p_row (i := 1) (by omega)))
  refine ⟨A0, c0, A1, c1, ?_, ?_, h3.fine.bag 0 (by omega), h3.fine.bag 1 (by omega)⟩
  · rw [← e0]
    exact hk.cell (c_row (i := 0) (by omega))
  · rw [← e1]
    exact hk.cell (c_row (i := 1) (by omega))
theorem OdAt.lt (h : OdAt w0 iss irs g P m W) : g < W.heap.size := by
  obtain ⟨⟨V, h1, h2, h3⟩, h4⟩ := h
  exact (h1.1.get 0 p_bk).1.lt
end
set_option maxRecDepth 100000 in
set_option maxHeartbeats 4000000 in
theorem settle_calls {w0 w : World} {iss irs g m t : Nat} {P R : PS} (h : OdAt w0 iss irs g P m w) (hs : Settles t P R) (ht : t ≤ 200) (hm : m + t * 9007 ≤ 2000000) :
    Calls Try.prog 37 #[.pointer (some ⟨g, 0, none⟩), .int .i64 (t : Int)] w fun e w' => e = .returned (.bool true) ∧ ∃ m', m' ≤ m + t * 9007 ∧ OdAt w0 iss irs g R m' w' := by
  have H := Lib.hid h
  have HS := Lib.hid hs
  have HM := Lib.hid hm
  have hti : (t : Int) ≤ 200 := by omega
  clear h hs hm
  go_enter Try.func37, Try.ntmps37
  go_wp2_with fail
  go_loopg [8] t (fun gk v wr => ∃ u : Nat, v = .int .i64 (u : Int) ∧ u + gk = t ∧ Hid (∃ P' m', Settles gk P' R ∧ m' ≤ m + u * 9007 ∧ OdAt w0 iss irs g P' m' wr))
  case atStart => exact ⟨0, rfl, by omega, Lib.hid ⟨P, m, HS.out, by omega, H.out⟩⟩
  case round =>
    obtain ⟨u, rfl, hug, hinv⟩ := hrel
    by_cases hu : u < t
    · have hui : (u : Int) < (t : Int) := by omega
      have hwu : IntKind.i64.wrap ((u : Int) + 1) = ((u + 1 : Nat) : Int) := by rw [IntWalk.i64_in _ (by omega)]; omega
      obtain ⟨g1, hg1⟩ : ∃ g1, gk = g1 + 1 := ⟨gk - 1, by omega⟩
      subst hg1
      obtain ⟨P1, m1, hse, hm1, hod⟩ := hinv.out
      obtain ⟨K, Q, hdr, hK, hse2⟩ : ∃ K Q, Drains K P1 Q ∧ K ≤ 3001 ∧ Settles g1 Q.rest R := by
        cases hse with
        | cons a b c => exact ⟨_, _, a, b, c⟩
      have HSE := Lib.hid hse2
      have HDR := Lib.hid hdr
      have HOD := Lib.hid hod
      have HM1 : Hid (m1 ≤ m + u * 9007) := Lib.hid hm1
      clear hinv hse hdr hod hse2 hm1
      obtain ⟨wo, rfl⟩ : ∃ x, x = wr := ⟨_, rfl⟩
      go_wp2_with fail
      go_loopg [5] K (fun gk v wr => ∃ n : Nat, v = .int .i64 (n : Int) ∧ n + gk = K ∧ Hid (∃ P2 m2, Drains gk P2 Q ∧ m2 ≤ m1 + 3 * n ∧ OdAt w0 iss irs g P2 m2 wr))
      case atStart => exact ⟨0, rfl, by omega, Lib.hid ⟨P1, m1, HDR.out, by omega, HOD.out⟩⟩
      case round =>
        obtain ⟨n, rfl, hng, hinv⟩ := hrel
        obtain ⟨P2, m2, hdr, hm2, hod⟩ := hinv.out
        obtain ⟨A0, c0, A1, c1, q0, q1, hb0, hb1⟩ := hod.bags
        have hgl := hod.lt
        obtain ⟨x0, hx0⟩ : ∃ x, (P2.bag 0).length = x := ⟨_, rfl⟩
        obtain ⟨x1, hx1⟩ : ∃ x, (P2.bag 1).length = x := ⟨_, rfl⟩
        have HX0 := Lib.hid hx0
        have HX1 := Lib.hid hx1
        rw [hx0] at q0 hb0
        rw [hx1] at q1 hb1
        have hsum : IntKind.i64.wrap ((x0 : Int) + (x1 : Int)) = ((x0 + x1 : Nat) : Int) := by rw [IntWalk.i64_in _ (by omega)]; omega
        have HOD2 := Lib.hid hod
        have HDR2 := Lib.hid hdr
        have HM2 : Hid (m2 ≤ m1 + 3 * n) := Lib.hid hm2
        clear hinv hdr hod hx0 hx1 hm2
        by_cases hbz : 0 < x0 + x1
        · have hbi : (0 : Int) < ((x0 + x1 : Nat) : Int) := by omega
          have hK0 : Hid (n < K ∧ Drains (K - n - 1) P2.iter Q) := Lib.hid (by
            obtain ⟨k0, e, b⟩ := HDR2.out.more (by
              unfold PS.busy
              rw [HX0.out, HX1.out]
              exact hbz)
            have e2 : K - n - 1 = k0 := by omega
            rw [e2]
            exact ⟨by omega, b⟩)
          have hnK := hK0.out.1
          have hn3 : ((n : Int) > 3000) = False := by
            rw [eq_iff_iff]
            constructor
            · intro e
              omega
            · exact False.elim
          have hn4 : ¬ ((3000 : Int) < (n : Int)) := by omega
          have hwn : IntKind.i64.wrap ((n : Int) + 1) = ((n + 1 : Nat) : Int) := by rw [IntWalk.i64_in _ (by omega)]; omega
          have HMA : Hid (m2 + 3 ≤ 2000000 ∧ m2 + 3 ≤ m1 + 3 * (n + 1)) := Lib.hid (by
            have a1 := HM.out
            have a2 := HM1.out
            have a3 := HM2.out
            have a4 : u * 9007 + 9007 ≤ t * 9007 := by
              have : (u + 1) * 9007 ≤ t * 9007 := Nat.mul_le_mul_right _ hu
              omega
            omega)
          go_upto_region 4 with fail
          go_quiet (fail)
          have HOD3 : Hid (OdAt w0 iss irs g P2 m2 (wr.drewN nq)) := Lib.hid (HOD2.out.ext (ext_drewN (Below.refl _ _) nq))
          have q0 : (wr.drewN nq).cell? ⟨g, 3, none⟩ = some (.slice A0 x0 c0) := q0
          have hgl : g < (wr.drewN nq).heap.size := hgl
          generalize wr.drewN nq = wb at *
          have HIT : Hid (∀ i : Nat, (if (P2.bag 0).length = 0 then 1 else 0) = i → P2.iter = ((P2.does (gvA i)).does (rdA 0)).does (rdA 1)) := Lib.hid (fun i e => by rw [← e]; rfl)
          have HD1 : Hid (∀ i : Nat, i ≤ 1 → ∀ W : World, OdAt w0 iss irs g P2 m2 W → Calls Try.prog 23 #[.pointer (some ⟨g, 0, none⟩), .agg #[.int .i64 0, .int .i64 (i : Int), .int .i64 0, .int .i64 0, .slice none 0 0, .bool false]] W fun e W' => e = .returned (.tuple #[]) ∧ OdAt w0 iss irs g (P2.does (gvA i)) (m2 + 1) W') := Lib.hid (fun i hi W h => h.lit (k := gvA i) (by have := HMA.out.1; omega) rfl (show (0 : Int) ≤ 0 by decide) (show (0 : Int) ≤ 10 by decide) (show (0 : Int) ≤ (i : Int) by omega) (show (i : Int) ≤ 1 by omega) rfl (show (0 : Int) ≤ 0 by decide) (show (0 : Int) ≤ 5000 by decide) rfl)
          have HD2 : Hid (∀ (PP : PS) (W : World), OdAt w0 iss irs g PP (m2 + 1) W → Calls Try.prog 23 #[.pointer (some ⟨g, 0, none⟩), .agg #[.int .i64 7, .int .i64 0, .int .i64 0, .int .i64 5000, .slice none 0 0, .bool false]] W fun e W' => e = .returned (.tuple #[]) ∧ OdAt w0 iss irs g (PP.does (rdA 0)) (m2 + 1 + 1) W') := Lib.hid (fun PP W h => h.lit (k := rdA 0) (by have := HMA.out.1; omega) rfl (by decide) (by decide) (by decide) (by decide) rfl (by decide) (by decide) rfl)
          have HD3 : Hid (∀ (PP : PS) (W : World), OdAt w0 iss irs g PP (m2 + 1 + 1) W → Calls Try.prog 23 #[.pointer (some ⟨g, 0, none⟩), .agg #[.int .i64 7, .int .i64 1, .int .i64 0, .int .i64 5000, .slice none 0 0, .bool false]] W fun e W' => e = .returned (.tuple #[]) ∧ OdAt w0 iss irs g (PP.does (rdA 1)) (m2 + 1 + 1 + 1) W') := Lib.hid (fun PP W h => h.lit (k := rdA 1) (by have := HMA.out.1; omega) rfl (by decide) (by decide) (by decide) (by decide) rfl (by decide) (by decide) rfl)
          clear hb0 hb1 hsum q1 HOD2
          by_cases hz : x0 = 0
          · have hzi : ((x0 : Int) == 0) = true := by rw [hz]; rfl
            have HI1 : Hid (P2.iter = ((P2.does (gvA 1)).does (rdA 0)).does (rdA 1)) := Lib.hid (HIT.out 1 (if_pos (by rw [HX0.out]; exact hz)))
            clear hz HIT
            go_wp2_with fail
            refine (HD1.out 1 (by omega) wb HOD3.out).mono ?_
            rintro e wc ⟨rfl, hp1⟩
            have HP1 := Lib.hid hp1
            clear hp1
            go_wp2_with fail
            refine (HD2.out _ wc HP1.out).mono ?_
            rintro e wd ⟨rfl, hp2⟩
            have HP2 := Lib.hid hp2
            clear hp2
            go_wp2_with fail
            refine (HD3.out _ wd HP2.out).mono ?_
            rintro e we ⟨rfl, hp3⟩
            have HP3 := Lib.hid hp3
            clear hp3
            clear HD1 HD2 HD3 HOD3 HP1 HP2 q0
            go_wp2_with fail
            refine HP3.out.right.mono ?_
            rintro e wf ⟨rfl, hp4⟩
            have HP4 : Hid (∃ P2 m2, Drains (K - n - 1) P2 Q ∧ m2 ≤ m1 + 3 * (n + 1) ∧ OdAt w0 iss irs g P2 m2 wf) := Lib.hid ⟨_, _, by rw [← HI1.out]; exact hK0.out.2, HMA.out.2, hp4⟩
            clear hp4 HP3
            go_wp2_with fail
            go_roundg (gk - 1)
            case measure => omega
            case rel =>
              have e : gk - 1 = K - n - 1 := by omega
              exact ⟨n + 1, by first | rfl | (congr 1), by omega, by rw [e]; exact HP4⟩
          · have hzi : ((x0 : Int) == 0) = false := by rw [beq_eq_false_iff_ne]; omega
            have HI1 : Hid (P2.iter = ((P2.does (gvA 0)).does (rdA 0)).does (rdA 1)) := Lib.hid (HIT.out 0 (if_neg (by rw [HX0.out]; exact hz)))
            clear hz HIT
            go_wp2_with fail
            refine (HD1.out 0 (by omega) wb HOD3.out).mono ?_
            rintro e wc ⟨rfl, hp1⟩
            have HP1 := Lib.hid hp1
            clear hp1
            go_wp2_with fail
            refine (HD2.out _ wc HP1.out).mono ?_
            rintro e wd ⟨rfl, hp2⟩
            have HP2 := Lib.hid hp2
            clear hp2
            go_wp2_with fail
            refine (HD3.out _ wd HP2.out).mono ?_
            rintro e we ⟨rfl, hp3⟩
            have HP3 := Lib.hid hp3
            clear hp3
            clear HD1 HD2 HD3 HOD3 HP1 HP2 q0
            go_wp2_with fail
            refine HP3.out.right.mono ?_
            rintro e wf ⟨rfl, hp4⟩
            have HP4 : Hid (∃ P2 m2, Drains (K - n - 1) P2 Q ∧ m2 ≤ m1 + 3 * (n + 1) ∧ OdAt w0 iss irs g P2 m2 wf) := Lib.hid ⟨_, _, by rw [← HI1.out]; exact hK0.out.2, HMA.out.2, hp4⟩
            clear hp4 HP3
            go_wp2_with fail
            go_roundg (gk - 1)
            case measure => omega
            case rel =>
              have e : gk - 1 = K - n - 1 := by omega
              exact ⟨n + 1, by first | rfl | (congr 1), by omega, by rw [e]; exact HP4⟩
        · have hbi : ¬ (0 : Int) < ((x0 + x1 : Nat) : Int) := by omega
          have HQ : Hid (OdAt w0 iss irs g Q m2 wr) := Lib.hid (by
            rw [HDR2.out.done (by
              unfold PS.busy
              rw [HX0.out, HX1.out]
              exact hbz)]
            exact HOD2.out)
          have HMA : Hid (m2 + 4 ≤ 2000000 ∧ m2 + 4 ≤ m + (u + 1) * 9007) := Lib.hid (by
            have a1 := HM.out
            have a2 := HM1.out
            have a3 := HM2.out
            have a4 : u * 9007 + 9007 ≤ t * 9007 := by
              have : (u + 1) * 9007 ≤ t * 9007 := Nat.mul_le_mul_right _ hu
              omega
            omega)
          clear HDR2 HOD2 HX0 HX1 HDR HOD
          go_upto_region 4 with fail
          go_quiet (fail)
          have HQ3 : Hid (OdAt w0 iss irs g Q m2 (wr.drewN nq)) := Lib.hid (HQ.out.ext (ext_drewN (Below.refl _ _) nq))
          generalize wr.drewN nq = wb at *
          clear HQ q0 q1 hgl hsum hbz hb0 hb1
          have HE0 : Hid (∀ (PP : PS) (W : World), OdAt w0 iss irs g PP (m2) W → Calls Try.prog 23 #[.pointer (some ⟨g, 0, none⟩), .agg #[.int .i64 7, .int .i64 0, .int .i64 0, .int .i64 5000, .slice none 0 0, .bool false]] W fun e W' => e = .returned (.tuple #[]) ∧ OdAt w0 iss irs g (PP.does (rdA 0)) (m2 + 1) W') := Lib.hid (fun PP W h => h.lit (k := rdA 0) (by have := HMA.out.1; omega) rfl (by decide) (by decide) (by decide) (by decide) rfl (by decide) (by decide) rfl)
          have HE1 : Hid (∀ (PP : PS) (W : World), OdAt w0 iss irs g PP (m2 + 1) W → Calls Try.prog 23 #[.pointer (some ⟨g, 0, none⟩), .agg #[.int .i64 7, .int .i64 1, .int .i64 0, .int .i64 5000, .slice none 0 0, .bool false]] W fun e W' => e = .returned (.tuple #[]) ∧ OdAt w0 iss irs g (PP.does (rdA 1)) (m2 + 1 + 1) W') := Lib.hid (fun PP W h => h.lit (k := rdA 1) (by have := HMA.out.1; omega) rfl (by decide) (by decide) (by decide) (by decide) rfl (by decide) (by decide) rfl)
          have HE2 : Hid (∀ (PP : PS) (W : World), OdAt w0 iss irs g PP (m2 + 1 + 1) W → Calls Try.prog 23 #[.pointer (some ⟨g, 0, none⟩), .agg #[.int .i64 4, .int .i64 0, .int .i64 0, .int .i64 0, .slice none 0 0, .bool false]] W fun e W' => e = .returned (.tuple #[]) ∧ OdAt w0 iss irs g (PP.does (tkA 0)) (m2 + 1 + 1 + 1) W') := Lib.hid (fun PP W h => h.lit (k := tkA 0) (by have := HMA.out.1; omega) rfl (by decide) (by decide) (by decide) (by decide) rfl (by decide) (by decide) rfl)
          have HE3 : Hid (∀ (PP : PS) (W : World), OdAt w0 iss irs g PP (m2 + 1 + 1 + 1) W → Calls Try.prog 23 #[.pointer (some ⟨g, 0, none⟩), .agg #[.int .i64 4, .int .i64 1, .int .i64 0, .int .i64 0, .slice none 0 0, .bool false]] W fun e W' => e = .returned (.tuple #[]) ∧ OdAt w0 iss irs g (PP.does (tkA 1)) (m2 + 1 + 1 + 1 + 1) W') := Lib.hid (fun PP W h => h.lit (k := tkA 1) (by have := HMA.out.1; omega) rfl (by decide) (by decide) (by decide) (by decide) rfl (by decide) (by decide) rfl)
          go_wp2_with fail
          refine (HE0.out _ _ HQ3.out).mono ?_
          rintro e v0 ⟨rfl, hp0⟩
          have HP0 := Lib.hid hp0
          clear hp0
          go_wp2_with fail
          refine (HE1.out _ _ HP0.out).mono ?_
          rintro e v1 ⟨rfl, hp1⟩
          have HP1 := Lib.hid hp1
          clear hp1
          go_wp2_with fail
          refine (HE2.out _ _ HP1.out).mono ?_
          rintro e v2 ⟨rfl, hp2⟩
          have HP2 := Lib.hid hp2
          clear hp2
          go_wp2_with fail
          refine (HE3.out _ _ HP2.out).mono ?_
          rintro e v3 ⟨rfl, hp3⟩
          have HP3 := Lib.hid hp3
          clear hp3
          have HF : Hid (∃ P1 m1, Settles g1 P1 R ∧ m1 ≤ m + (u + 1) * 9007 ∧ OdAt w0 iss irs g P1 m1 v3) := Lib.hid ⟨_, _, HSE.out, HMA.out.2, HP3.out⟩
          clear HE0 HE1 HE2 HE3 HP0 HP1 HP2 HP3 HQ3
          go_wp2_with fail
          go_roundg g1
          case measure => omega
          case rel => exact ⟨u + 1, by first | rfl | (congr 1), by omega, HF⟩
    · obtain rfl : u = t := by omega
      obtain rfl : gk = 0 := by omega
      obtain ⟨P1, m1, hse, hm1, hod⟩ := hinv.out
      have HF : Hid (∃ m', m' ≤ m + u * 9007 ∧ OdAt w0 iss irs g R m' wr) := Lib.hid (by
        cases hse with
        | nil => exact ⟨m1, hm1, hod⟩)
      clear hinv hse hm1 hod
      go_wp2_with fail
      go_ret
      exact ⟨rfl, HF.out⟩
end Go.Proofs.Ytjhnnnklfhbebaa
