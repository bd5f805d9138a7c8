/- TcpBounds: the walk. -/
import Derived.Test.YtjhnnnklfhbebaaTiI
namespace Go.Proofs.Ytjhnnnklfhbebaa
open Go.RowKit
set_option linter.unusedVariables false
set_option linter.unusedSimpArgs false
/-- A pair that a law made; what it sent and keeps was written. -/
def BdAt (w0 : World) (g : Nat) (P : PS) (m : Nat) (W : World) : Prop := PlayAt w0 g P m W ∧ QB P
theorem BdAt.ext {w0 W W' : World} {g m : Nat} {P : PS} (h : BdAt w0 g P m W) (hb : Below W.heap.size W W') : BdAt w0 g P m W' := ⟨h.1.ext hb, h.2⟩
theorem BdAt.below {w0 W : World} {g m : Nat} {P : PS} (h : BdAt w0 g P m W) : Below w0.heap.size w0 W := by
  obtain ⟨⟨V, h1, h2⟩, h3⟩ := h
  exact h1.2
set_option maxRecDepth 100000 in
set_option maxHeartbeats 4000000 in
theorem bounds_walk (w : World) (iss : Nat) (hi : iss ≤ 4294967295) (irs : Nat) (hr : irs ≤ 4294967295) (A : Option Addr) (c : Nat) (l : List ActA) (hl : RActs w A l) (hc : l.length ≤ c) (hm : c ≤ maxLen) :
    Calls Try.prog 6 #[.int .u32 (iss : Int), .int .u32 (irs : Int), .slice A l.length c] w fun e w' => e = .returned (.bool true) ∧ Below w.heap.size w w' := by
  have HAW := Lib.hid (fun W => awake_calls W)
  have HFE := Lib.hid (few_calls w A c l hl hc hm)
  have HRL2 := Lib.hid hl
  have HBE := Lib.hid (begun_play w iss irs (by omega) (by omega))
  obtain ⟨N, hN⟩ : ∃ N, l.length = N := ⟨_, rfl⟩
  have HN := Lib.hid hN
  have hNm : N ≤ 9223372036854775807 := by have : c ≤ 9223372036854775807 := hm; omega
  rw [hN] at HFE hc ⊢
  clear hl hN hm hi hr
  go_enter Try.func6, Try.ntmps6
  go_wp2_with fail
  refine HFE.out.mono ?_
  rintro e w1 ⟨⟨b, rfl, hfew⟩, rfl⟩
  clear HFE
  cases b with
  | false =>
    clear HBE hfew
    go_wp2_with fail
    refine (HAW.out _).mono ?_
    rintro e w2 ⟨rfl, hb⟩
    have HB := Lib.hid hb
    clear hb
    go_wp2_with fail
    go_ret
    exact ⟨rfl, HB.out⟩
  | true =>
    have hN4 : N ≤ 400 := hfew rfl
    clear hfew
    go_wp2_with fail
    refine HBE.out.mono ?_
    rintro e w3 ⟨g, rfl, hp⟩
    have HP : Hid (BdAt w g (PS.begun iss irs) 0 w3) := Lib.hid ⟨hp, begun_qb iss irs⟩
    clear hp HBE
    go_wp2_with fail
    go_loopg [24] N (fun gk v wr => ∃ m : Nat, v = .int .i64 (m : Int) ∧ m + gk = N ∧ Hid (BdAt w g ((PS.begun iss irs).plays (l.take m)) m wr))
    case atStart => exact ⟨0, rfl, by omega, HP⟩
    case round =>
      obtain ⟨m, rfl, hmg, hinv⟩ := hrel
      by_cases hm : m < N
      · have hmi : (m : Int) < (N : Int) := by omega
        have hwm : IntKind.i64.wrap ((m : Int) + 1) = ((m + 1 : Nat) : Int) := by rw [IntWalk.i64_in _ (by omega)]; omega
        obtain ⟨k, hk⟩ : ∃ k, l[m]? = some k := ⟨_, List.getElem?_eq_getElem (by rw [HN.out]; exact hm)⟩
        obtain ⟨b, o, A', c', rfl, hcell0, hat⟩ := HRL2.out m k hk
        have hcell : ∀ (j : Nat) (v : Value), (k.cs A' c')[j]? = some v → wr.cell? ⟨b, o + m * 6 + j, none⟩ = some v := fun j v hj => ((BdAt.below hinv.out).cell (World.block_lt_of_cell? w _ (hcell0 j v hj))).trans (hcell0 j v hj)
        obtain ⟨q0, q1, q2, q3, q4, q5⟩ : wr.cell? ⟨b, o + m * 6, none⟩ = some (.int .i64 k.op) ∧ wr.cell? ⟨b, o + m * 6 + 1, none⟩ = some (.int .i64 k.side) ∧ wr.cell? ⟨b, o + m * 6 + 2, none⟩ = some (.int .i64 k.at_) ∧ wr.cell? ⟨b, o + m * 6 + 3, none⟩ = some (.int .i64 k.n) ∧ wr.cell? ⟨b, o + m * 6 + 4, none⟩ = some (.slice A' k.b.length c') ∧ wr.cell? ⟨b, o + m * 6 + 5, none⟩ = some (.bool k.stay) := ⟨hcell 0 _ rfl, hcell 1 _ rfl, hcell 2 _ rfl, hcell 3 _ rfl, hcell 4 _ rfl, hcell 5 _ rfl⟩
        obtain ⟨P0, hP0⟩ : ∃ P0, (PS.begun iss irs).plays (l.take m) = P0 := ⟨_, rfl⟩
        have hsn := plays_snoc (PS.begun iss irs) hk
        rw [hP0] at hsn hinv
        have HDO : Hid (∀ W : World, BdAt w g P0 m W → Calls Try.prog 23 #[.pointer (some ⟨g, 0, none⟩), .agg (k.cs A' c').toArray] W fun e W' => e = .returned (.tuple #[]) ∧ BdAt w g (P0.does k) (m + 1) W') := Lib.hid (fun W h => by
          refine (does_play h.1 (by omega) k _ _ hat).mono ?_
          rintro e W' ⟨rfl, h2⟩
          obtain ⟨V, _, _, hg⟩ := h.1
          exact ⟨rfl, h2, h.2.does hg k⟩)
        simp only [ActA.cs] at HDO
        have HSN := Lib.hid hsn
        obtain ⟨bl, hbl⟩ : ∃ bl, k.b.length = bl := ⟨_, rfl⟩
        rw [hbl] at q4 HDO
        clear hcell hcell0 hat hk hbl hsn hP0
        go_upto_region 7 with fail
        refine name_world (fun W => BdAt w g P0 m W ∧ BK W wr.heap.size 46 [.int .i64 k.op, .int .i64 k.side, .int .i64 k.at_, .int .i64 k.n, .slice A' bl c', .bool k.stay]) ⟨hinv.out.ext (ext_alloc _ _), BK.new _ _ _⟩ ?_
        rintro w4 ⟨hp4, hk4⟩
        obtain ⟨gq, hgq⟩ : ∃ gq, wr.heap.size = gq := ⟨_, rfl⟩
        rw [hgq] at hk4 ⊢
        have y0 : w4.cell? ⟨gq, 0, none⟩ = some (.int .i64 k.op) := hk4.cell rfl
        have y1 : w4.cell? ⟨gq, 1, none⟩ = some (.int .i64 k.side) := hk4.cell rfl
        have y2 : w4.cell? ⟨gq, 2, none⟩ = some (.int .i64 k.at_) := hk4.cell rfl
        have y3 : w4.cell? ⟨gq, 3, none⟩ = some (.int .i64 k.n) := hk4.cell rfl
        have y4 : w4.cell? ⟨gq, 4, none⟩ = some (.slice A' bl c') := hk4.cell rfl
        have y5 : w4.cell? ⟨gq, 5, none⟩ = some (.bool k.stay) := hk4.cell rfl
        have HP4 := Lib.hid hp4
        clear hp4 hk4 hgq q0 q1 q2 q3 q4 q5 hinv
        go_wp2_with fail
        refine (HDO.out _ HP4.out).mono ?_
        rintro e w5 ⟨rfl, hp5⟩
        obtain ⟨P, hPP⟩ : ∃ P, P0.does k = P := ⟨_, rfl⟩
        rw [hPP] at hp5
        have HSP : Hid ((PS.begun iss irs).plays (l.take (m + 1)) = P) := Lib.hid (by rw [HSN.out]; exact hPP)
        have HP5 := Lib.hid hp5
        obtain ⟨gk0, hgk0⟩ : ∃ x, gk = x := ⟨_, rfl⟩
        clear hp5 HP4 HDO HSN hPP y0 y1 y2 y3 y4 y5
        go_wp2_with fail
        go_loopg [31] 2 (fun gk v wr => ∃ i : Nat, v = .int .i64 (i : Int) ∧ i + gk = 2 ∧ Hid (BdAt w g P (m + 1) wr))
        case atStart => exact ⟨0, rfl, by omega, HP5⟩
        case round =>
          obtain ⟨i, rfl, hig, hinv⟩ := hrel
          obtain ⟨wo, rfl⟩ : ∃ x, x = wr := ⟨_, rfl⟩
          by_cases hi2 : i < 2
          · have hii : (i : Int) < 2 := by omega
            have hwi : IntKind.i64.wrap ((i : Int) + 1) = ((i + 1 : Nat) : Int) := by rw [IntWalk.i64_in _ (by omega)]; omega
            obtain ⟨⟨V, hmd, hko, hgd⟩, hqb⟩ := hinv.out
            have hbk := (hmd.1.get 0 p_bk).1
            obtain ⟨pv, hpv⟩ : ∃ pv, ptr (V.k i) = pv := ⟨_, rfl⟩
            have ci : wo.cell? ⟨g, i, none⟩ = some pv := by rw [← hpv]; exact hbk.cell (c_ptr hi2)
            have HEN := Lib.hid (side_end hmd.1 (p_side hi2))
            have HRO : Hid (∀ W : World, Below wo.heap.size wo W → Calls Try.prog 32 #[ptr (V.k i)] W fun e w' => e = .returned (.int .i64 ((P.c i).room : Int)) ∧ W = w') := Lib.hid fun W hb => side_room (hmd.1.ext hb) (p_side hi2) (hgd.fine.fine i hi2).ok
            rw [hpv] at HEN HRO
            obtain ⟨sb, sc, sd2, se, sx, sf, sg, htell, hsum, hs1, hs2⟩ := tellB (hgd.fine.fine i hi2).ok
            rw [htell] at HEN
            obtain ⟨ro, hro⟩ : ∃ ro, (P.c i).room = ro := ⟨_, rfl⟩
            rw [hro] at HRO
            obtain ⟨Aw, cw, hvw, hcw, hmw⟩ := (hmd.1.get _ (p_wr hi2)).1.form
            obtain ⟨wl, hwl⟩ : ∃ wl, (P.wr i).length = wl := ⟨_, rfl⟩
            have hsw : sc + sd2 ≤ wl := by rw [← hwl]; exact Nat.le_trans hsum (hqb i hi2)
            obtain ⟨Ab, cb, hvb, hcb, hmb, hAb⟩ := row_form' (hmd.1.get _ (p_row hi2))
            obtain ⟨bn, hbn⟩ : ∃ bn, (P.bag i).length = bn := ⟨_, rfl⟩
            have hwl2 := hgd.fine.wr i hi2
            have hbl2 := hgd.fine.bag i hi2
            rw [hwl] at hvw hwl2
            rw [hbn] at hvb hcb hAb hbl2
            have HCI : Hid (∀ W : World, Below wo.heap.size wo W → W.cell? ⟨g, 5 + i, none⟩ = some (.slice Aw wl cw) ∧ W.cell? ⟨g, 3 + i, none⟩ = some (.slice Ab bn cb)) := Lib.hid fun W hb => by
              have hk := ((hmd.ext hb).1.get 0 p_bk).1
              exact ⟨by rw [← hvw]; exact hk.cell (c_wr hi2), by rw [← hvb]; exact hk.cell (c_row hi2)⟩
            have HMD := Lib.hid hmd
            have HRW : Hid (V.b i = .slice Ab bn cb) := Lib.hid hvb
            have HBN := Lib.hid hbn
            have HOKS : Hid (KOk P V ∧ PGood P (m + 1) ∧ QB P) := Lib.hid ⟨hko, hgd, hqb⟩
            have hgl := hbk.lt
            have hws : IntKind.i64.wrap ((sc : Int) + (sd2 : Int)) = ((sc + sd2 : Nat) : Int) := by rw [IntWalk.i64_in _ (by omega)]; omega
            have f1 : ((sc + sd2 : Nat) : Int) ≤ (wl : Int) := by omega
            have f2 : (sx : Int) ≤ 1024 := by omega
            have f3 : (sd2 : Int) ≤ 1024 := by omega
            have f4 : (0 : Int) ≤ (sx : Int) := by omega
            have f5 : (0 : Int) ≤ (sd2 : Int) := by omega
            have f6 : (0 : Int) ≤ (ro : Int) := by omega
            clear hmd hko hgd hqb hbk hpv htell hsum hro hwl hvw hvb hcw hmw hcb hmb hbn hinv hwl2 hs1 hs2 hsw
            go_wp2_with fail
            refine HEN.out.mono ?_
            rintro e w6 ⟨rfl, hb6⟩
            have HB6 := Lib.hid hb6
            clear hb6 HEN ci
            go_upto_region 13 with fail
            obtain ⟨gx, hgx⟩ : ∃ gx, w6.heap.size = gx := ⟨_, rfl⟩
            refine name_world (fun W => Below wo.heap.size wo W ∧ BK W w6.heap.size 56 [.int .i64 (sb : Int), .int .i64 (sc : Int), .int .i64 (sd2 : Int), .int .i64 (se : Int), .int .i64 (sx : Int), .bool sf, .bool sg]) ⟨ext_trans HB6.out (ext_alloc _ _), BK.new _ _ _⟩ ?_
            rintro w7 ⟨hb7, hk7⟩
            rw [hgx] at hk7 ⊢
            have HK7 := Lib.hid hk7
            have HB7 := Lib.hid hb7
            clear hb7 hk7 HB6 hgx
            refine wp_region_facts [[], [0], [0, 1], [0, 1, 2], [0, 1, 2, 3], [0, 1, 2, 3, 4], [0, 1, 2, 3, 4, 5], [0, 1, 2, 3, 4, 5, 6], [0, 1, 2, 3, 4, 5, 6, 7], [0, 1, 2, 3, 4, 5, 6, 7, 8], [0, 1, 2, 3, 4, 5, 6, 7, 8, 9], [0, 1, 2, 3, 4, 5, 6, 7, 8, 9, 10], [0, 1, 2, 3, 4, 5, 6, 7, 8, 9, 10, 11], [0, 1, 2, 3, 4, 5, 6, 7, 8, 9, 10, 11, 12], [0, 1, 2, 3, 4, 5, 6, 7, 8, 9, 10, 11, 12, 13], [0, 1, 2, 3, 4, 5, 6, 7, 8, 9, 10, 11, 12, 13, 14], [0, 1, 2, 3, 4, 5, 6, 7, 8, 9, 10, 11, 12, 13, 14, 15], [0, 1, 2, 3, 4, 5, 6, 7, 8, 9, 10, 11, 12, 13, 14, 15, 16], [0, 1, 2, 3, 4, 5, 6, 7, 8, 9, 10, 11, 12, 13, 14, 15, 16, 17], [0, 1, 2, 3, 4, 5, 6, 7, 8, 9, 10, 11, 12, 13, 14, 15, 16, 17, 18], [0, 1, 2, 3, 4, 5, 6, 7, 8, 9, 10, 11, 12, 13, 14, 15, 16, 17, 18, 19], [0, 1, 2, 3, 4, 5, 6, 7, 8, 9, 10, 11, 12, 13, 14, 15, 16, 17, 18, 19, 20], [0, 1, 2, 3, 4, 5, 6, 7, 8, 9, 10, 11, 12, 13, 14, 15, 16, 17, 18, 19, 20, 21], [0, 1, 2, 3, 4, 5, 6, 7, 8, 9, 10, 11, 12, 13, 14, 15, 16, 17, 18, 19, 20, 21, 22], [0, 1, 2, 3, 4, 5, 6, 7, 8, 9, 10, 11, 12, 13, 14, 15, 16, 17, 18, 19, 20, 21, 22, 23], [0, 1, 2, 3, 4, 5, 6, 7, 8, 9, 10, 11, 12, 13, 14, 15, 16, 17, 18, 19, 20, 21, 22, 23, 24], [0, 1, 2, 3, 4, 5, 6, 7, 8, 9, 10, 11, 12, 13, 14, 15, 16, 17, 18, 19, 20, 21, 22, 23], [0, 1, 2, 3, 4, 5, 6, 7, 8, 9, 10, 11, 12, 13, 14, 15, 16, 17, 18, 19, 20, 21, 22, 23, 26], [0, 1, 2, 3, 4, 5, 6, 7, 8, 9, 10, 11, 12, 13, 14, 15, 16, 17, 18, 19, 20, 21, 22, 23, 24, 25, 26, 27], [0, 1, 2, 3, 4, 5, 6, 7, 8, 9, 10, 11, 12, 13, 14, 15, 16, 17, 18, 19, 20, 21, 22, 23], [0, 1, 2, 3, 4, 5, 6, 7, 8, 9, 10, 11, 12, 13, 14, 15, 16, 17, 18, 19, 20, 21, 22, 23], [0, 1, 2, 3, 4, 5, 6, 7, 8, 9, 10, 11, 12, 13, 14, 15, 16, 17, 18, 19, 20, 21, 22, 23, 29], [0, 1, 2, 3, 4, 5, 6, 7, 8, 9, 10, 11, 12, 13, 14, 15, 16, 17, 18, 19, 20, 21, 22, 23, 29, 31], [0, 1, 2, 3, 4, 5, 6, 7, 8, 9, 10, 11, 12, 13, 14, 15, 16, 17, 18, 19, 20, 21, 22, 23, 29, 30, 31, 32], [0, 1, 2, 3, 4, 5, 6, 7, 8, 9, 10, 11, 12, 13, 14, 15, 16, 17, 18, 19, 20, 21, 22, 23, 29, 30, 31, 32, 33], [0, 1, 2, 3, 4, 5, 6, 7, 8, 9, 10, 11, 12, 13, 14, 15, 16, 17, 18, 19, 20, 21, 22, 23, 29, 30, 31, 32, 33, 34], [0, 1, 2, 3, 4, 5, 6, 7, 8, 9, 10, 11, 12, 13, 14, 15, 16, 17, 18, 19, 20, 21, 22, 23, 24, 25, 26, 27, 28, 29, 30, 31, 32, 33, 34, 35], [0, 1, 2, 3, 4, 5, 6, 7, 8, 9, 10, 11, 12, 13, 14, 15, 16, 17, 18, 19, 20, 21, 22, 23, 24, 25, 26, 27, 28, 29, 30, 31, 32, 33, 34, 35, 36]]
              [fun u _ => u = .pointer (some ⟨gx, 4, none⟩),
               fun u _ => u = .int .i64 (sx : Int),
               fun u _ => u = .bool false,
               fun u _ => u = .bool false,
               fun u _ => u = .pointer (some ⟨gx, 4, none⟩),
               fun u _ => u = .int .i64 (sx : Int),
               fun u _ => u = .bool false,
               fun u _ => u = .bool false,
               fun u _ => u = .bool false,
               fun u _ => u = .pointer (some ⟨gx, 2, none⟩),
               fun u _ => u = .int .i64 (sd2 : Int),
               fun u _ => u = .bool false,
               fun u _ => u = .bool false,
               fun u _ => u = .bool false,
               fun u _ => u = .pointer (some ⟨gx, 2, none⟩),
               fun u _ => u = .int .i64 (sd2 : Int),
               fun u _ => u = .bool false,
               fun u _ => u = .bool false,
               fun u _ => u = .bool false,
               fun u _ => u = pv,
               fun u _ => u = .int .i64 (ro : Int),
               fun u _ => u = .bool false,
               fun u _ => u = .bool false,
               fun u _ => u = .bool false,
               fun u _ => u = .pointer (some ⟨gx, 1, none⟩),
               fun u _ => u = .int .i64 (sc : Int),
               fun u _ => u = .pointer (some ⟨gx, 2, none⟩),
               fun u _ => u = .int .i64 (sd2 : Int),
               fun u _ => u = .int .i64 ((sc + sd2 : Nat) : Int),
               fun u _ => u = .pointer (some ⟨g, 0, none⟩),
               fun u _ => u = .int .i64 (i : Int),
               fun u _ => u = .pointer (some ⟨g, 0, none⟩),
               fun u _ => u = .pointer (some ⟨g, 5, none⟩),
               fun u _ => u = .pointer (some ⟨g, 5 + i, none⟩),
               fun u _ => u = .slice Aw wl cw,
               fun u _ => u = .int .i64 (wl : Int),
               fun u _ => u = .bool false,
               fun u _ => u = .bool false]
              (fun u => ⟨#[Value.int IntKind.u32 (iss : Int), Value.int IntKind.u32 (irs : Int), Value.slice (some { block := b, off := o }) N c, undef, undef, undef, u6, Value.pointer (some { block := g, off := 0 }), undef, Value.pointer (some { block := gq, off := 0 }), Value.int IntKind.i64 (i : Int), pv, Value.pointer (some { block := gx, off := 0 }), undef, u14, Value.slice (some { block := b, off := o }) N c, Value.bool true, Value.bool false, undef, Value.int IntKind.u32 (iss : Int), Value.int IntKind.u32 (irs : Int), Value.pointer (some { block := g, off := 0 }), Value.slice (some { block := b, off := o }) N c, Value.int IntKind.i64 (N : Int), Value.int IntKind.i64 (m : Int), Value.bool true, Value.pointer (some { block := b, off := o + m * 6 }), Value.agg #[Value.int IntKind.i64 k.op, Value.int IntKind.i64 k.side, Value.int IntKind.i64 k.at_, Value.int IntKind.i64 k.n, Value.slice A' bl c', Value.bool k.stay], Value.pointer (some { block := g, off := 0 }), Value.agg #[Value.int IntKind.i64 k.op, Value.int IntKind.i64 k.side, Value.int IntKind.i64 k.at_, Value.int IntKind.i64 k.n, Value.slice A' bl c', Value.bool k.stay], Value.tuple #[], Value.int IntKind.i64 (i : Int), Value.bool true, Value.int IntKind.i64 (i : Int), Value.pointer (some { block := g, off := 0 }), Value.int IntKind.i64 (i : Int), Value.pointer (some { block := g, off := 0 }), Value.pointer (some { block := g, off := 0 }), Value.pointer (some { block := g, off := i }), pv, pv, Value.agg #[Value.int IntKind.i64 (sb : Int), Value.int IntKind.i64 (sc : Int), Value.int IntKind.i64 (sd2 : Int), Value.int IntKind.i64 (se : Int), Value.int IntKind.i64 (sx : Int), Value.bool sf, Value.bool sg], u 0, u 1, u 2, u 3, u 4, u 5, u 6, u 7, u 8, u 9, u 10, u 11, u 12, u 13, u 14, u 15, u 16, u 17, u 18, u 19, u 20, u 21, u 22, u 23, u 24, u 25, u 26, u 27, u 28, u 29, u 30, u 31, u 32, u 33, u 34, u 35, u 36, u 37, u80, u81, u82, u83, u84, u85, u86, u87, u88, u89, u90, u91, u92, u93, u94, u95, u96, undef], []⟩)
              (fun j => [u42, u43, u44, u45, u46, u47, u48, u49, u50, u51, u52, u53, u54, u55, u56, u57, u58, u59, u60, u61, u62, u63, u64, u65, u66, u67, u68, u69, u70, u71, u72, u73, u74, u75, u76, u77, u78, u79].getD j undef) (by kernel_rfl) (by kernel_rfl) (by kernel_rfl) rfl ⟨Mono.eq _, Mono.eq _, Mono.eq _, Mono.eq _, Mono.eq _, Mono.eq _, Mono.eq _, Mono.eq _, Mono.eq _, Mono.eq _, Mono.eq _, Mono.eq _, Mono.eq _, Mono.eq _, Mono.eq _, Mono.eq _, Mono.eq _, Mono.eq _, Mono.eq _, Mono.eq _, Mono.eq _, Mono.eq _, Mono.eq _, Mono.eq _, Mono.eq _, Mono.eq _, Mono.eq _, Mono.eq _, Mono.eq _, Mono.eq _, Mono.eq _, Mono.eq _, Mono.eq _, Mono.eq _, Mono.eq _, Mono.eq _, Mono.eq _, Mono.eq _, trivial⟩ ?_ ?_
            · refine ⟨?_, ?_, ?_, ?_, ?_, ?_, ?_, ?_, ?_, ?_, ?_, ?_, ?_, ?_, ?_, ?_, ?_, ?_, ?_, ?_, ?_, ?_, ?_, ?_, ?_, ?_, ?_, ?_, ?_, ?_, ?_, ?_, ?_, ?_, ?_, ?_, ?_, ?_, trivial⟩
              · intro u w2 hb hF J K hJ hK
                have HB2 := Lib.hid hb
                have HF := Lib.hid hF
                clear hb hF
                go_wp2
                exact hJ _ _ _ (Below.refl _ _) (rfl) (by simp [setU] <;> omega)
              · intro u w2 hb hF J K hJ hK
                have HB2 := Lib.hid hb
                have HF := Lib.hid hF
                clear hb hF
                have f0 : u 0 = .pointer (some ⟨gx, 4, none⟩) := HF.out 0 (by decide)
                have qc : w2.cell? ⟨gx, 4, none⟩ = some (.int .i64 (sx : Int)) := (HK7.out.ext HB2.out).cell rfl
                go_wp2
                exact hJ _ _ _ (Below.refl _ _) (rfl) (by simp [setU, f0] <;> omega)
              · intro u w2 hb hF J K hJ hK
                have HB2 := Lib.hid hb
                have HF := Lib.hid hF
                clear hb hF
                have f1 : u 1 = .int .i64 (sx : Int) := HF.out 1 (by decide)
                go_wp2
                exact hJ _ _ _ (Below.refl _ _) (rfl) (by simp [setU, f1] <;> omega)
              · intro u w2 hb hF J K hJ hK
                have HB2 := Lib.hid hb
                have HF := Lib.hid hF
                clear hb hF
                have f2 : u 2 = .bool false := HF.out 2 (by decide)
                go_wp2
                exact hJ _ _ _ (Below.refl _ _) (rfl) (by simp [setU, f2] <;> omega)
              · intro u w2 hb hF J K hJ hK
                have HB2 := Lib.hid hb
                have HF := Lib.hid hF
                clear hb hF
                have f3 : u 3 = .bool false := HF.out 3 (by decide)
                go_wp2
                exact hJ _ _ _ (Below.refl _ _) (rfl) (by simp [setU, f3] <;> omega)
              · intro u w2 hb hF J K hJ hK
                have HB2 := Lib.hid hb
                have HF := Lib.hid hF
                clear hb hF
                have f3 : u 3 = .bool false := HF.out 3 (by decide)
                have f4 : u 4 = .pointer (some ⟨gx, 4, none⟩) := HF.out 4 (by decide)
                have qc : w2.cell? ⟨gx, 4, none⟩ = some (.int .i64 (sx : Int)) := (HK7.out.ext HB2.out).cell rfl
                go_wp2
                exact hJ _ _ _ (Below.refl _ _) (rfl) (by simp [setU, f3, f4] <;> omega)
              · intro u w2 hb hF J K hJ hK
                have HB2 := Lib.hid hb
                have HF := Lib.hid hF
                clear hb hF
                have f3 : u 3 = .bool false := HF.out 3 (by decide)
                have f5 : u 5 = .int .i64 (sx : Int) := HF.out 5 (by decide)
                go_wp2
                exact hJ _ _ _ (Below.refl _ _) (rfl) (by simp [setU, f3, f5] <;> omega)
              · intro u w2 hb hF J K hJ hK
                have HB2 := Lib.hid hb
                have HF := Lib.hid hF
                clear hb hF
                have f3 : u 3 = .bool false := HF.out 3 (by decide)
                have f6 : u 6 = .bool false := HF.out 6 (by decide)
                go_wp2
                exact hJ _ _ _ (Below.refl _ _) (rfl) (by simp [setU, f3, f6] <;> omega)
              · intro u w2 hb hF J K hJ hK
                have HB2 := Lib.hid hb
                have HF := Lib.hid hF
                clear hb hF
                have f7 : u 7 = .bool false := HF.out 7 (by decide)
                go_wp2
                exact hJ _ _ _ (Below.refl _ _) (rfl) (by simp [setU, f7] <;> omega)
              · intro u w2 hb hF J K hJ hK
                have HB2 := Lib.hid hb
                have HF := Lib.hid hF
                clear hb hF
                have f8 : u 8 = .bool false := HF.out 8 (by decide)
                go_wp2
                exact hJ _ _ _ (Below.refl _ _) (rfl) (by simp [setU, f8] <;> omega)
              · intro u w2 hb hF J K hJ hK
                have HB2 := Lib.hid hb
                have HF := Lib.hid hF
                clear hb hF
                have f8 : u 8 = .bool false := HF.out 8 (by decide)
                have f9 : u 9 = .pointer (some ⟨gx, 2, none⟩) := HF.out 9 (by decide)
                have qc : w2.cell? ⟨gx, 2, none⟩ = some (.int .i64 (sd2 : Int)) := (HK7.out.ext HB2.out).cell rfl
                go_wp2
                exact hJ _ _ _ (Below.refl _ _) (rfl) (by simp [setU, f8, f9] <;> omega)
              · intro u w2 hb hF J K hJ hK
                have HB2 := Lib.hid hb
                have HF := Lib.hid hF
                clear hb hF
                have f8 : u 8 = .bool false := HF.out 8 (by decide)
                have f10 : u 10 = .int .i64 (sd2 : Int) := HF.out 10 (by decide)
                go_wp2
                exact hJ _ _ _ (Below.refl _ _) (rfl) (by simp [setU, f8, f10] <;> omega)
              · intro u w2 hb hF J K hJ hK
                have HB2 := Lib.hid hb
                have HF := Lib.hid hF
                clear hb hF
                have f8 : u 8 = .bool false := HF.out 8 (by decide)
                have f11 : u 11 = .bool false := HF.out 11 (by decide)
                go_wp2
                exact hJ _ _ _ (Below.refl _ _) (rfl) (by simp [setU, f8, f11] <;> omega)
              · intro u w2 hb hF J K hJ hK
                have HB2 := Lib.hid hb
                have HF := Lib.hid hF
                clear hb hF
                have f12 : u 12 = .bool false := HF.out 12 (by decide)
                go_wp2
                exact hJ _ _ _ (Below.refl _ _) (rfl) (by simp [setU, f12] <;> omega)
              · intro u w2 hb hF J K hJ hK
                have HB2 := Lib.hid hb
                have HF := Lib.hid hF
                clear hb hF
                have f13 : u 13 = .bool false := HF.out 13 (by decide)
                go_wp2
                exact hJ _ _ _ (Below.refl _ _) (rfl) (by simp [setU, f13] <;> omega)
              · intro u w2 hb hF J K hJ hK
                have HB2 := Lib.hid hb
                have HF := Lib.hid hF
                clear hb hF
                have f13 : u 13 = .bool false := HF.out 13 (by decide)
                have f14 : u 14 = .pointer (some ⟨gx, 2, none⟩) := HF.out 14 (by decide)
                have qc : w2.cell? ⟨gx, 2, none⟩ = some (.int .i64 (sd2 : Int)) := (HK7.out.ext HB2.out).cell rfl
                go_wp2
                exact hJ _ _ _ (Below.refl _ _) (rfl) (by simp [setU, f13, f14] <;> omega)
              · intro u w2 hb hF J K hJ hK
                have HB2 := Lib.hid hb
                have HF := Lib.hid hF
                clear hb hF
                have f13 : u 13 = .bool false := HF.out 13 (by decide)
                have f15 : u 15 = .int .i64 (sd2 : Int) := HF.out 15 (by decide)
                go_wp2
                exact hJ _ _ _ (Below.refl _ _) (rfl) (by simp [setU, f13, f15] <;> omega)
              · intro u w2 hb hF J K hJ hK
                have HB2 := Lib.hid hb
                have HF := Lib.hid hF
                clear hb hF
                have f13 : u 13 = .bool false := HF.out 13 (by decide)
                have f16 : u 16 = .bool false := HF.out 16 (by decide)
                go_wp2
                exact hJ _ _ _ (Below.refl _ _) (rfl) (by simp [setU, f13, f16] <;> omega)
              · intro u w2 hb hF J K hJ hK
                have HB2 := Lib.hid hb
                have HF := Lib.hid hF
                clear hb hF
                have f17 : u 17 = .bool false := HF.out 17 (by decide)
                go_wp2
                exact hJ _ _ _ (Below.refl _ _) (rfl) (by simp [setU, f17] <;> omega)
              · intro u w2 hb hF J K hJ hK
                have HB2 := Lib.hid hb
                have HF := Lib.hid hF
                clear hb hF
                have f18 : u 18 = .bool false := HF.out 18 (by decide)
                go_wp2
                exact hJ _ _ _ (Below.refl _ _) (rfl) (by simp [setU, f18] <;> omega)
              · intro u w2 hb hF J K hJ hK
                have HB2 := Lib.hid hb
                have HF := Lib.hid hF
                clear hb hF
                have f18 : u 18 = .bool false := HF.out 18 (by decide)
                have f19 : u 19 = pv := HF.out 19 (by decide)
                go_wp2_with fail
                refine (HRO.out w2 (ext_trans HB7.out HB2.out)).mono ?_
                rintro e w4 ⟨rfl, rfl⟩
                go_wp2
                exact hJ _ _ _ (Below.refl _ _) (rfl) (by simp [setU, f18, f19] <;> omega)
              · intro u w2 hb hF J K hJ hK
                have HB2 := Lib.hid hb
                have HF := Lib.hid hF
                clear hb hF
                have f18 : u 18 = .bool false := HF.out 18 (by decide)
                have f20 : u 20 = .int .i64 (ro : Int) := HF.out 20 (by decide)
                go_wp2
                exact hJ _ _ _ (Below.refl _ _) (rfl) (by simp [setU, f18, f20] <;> omega)
              · intro u w2 hb hF J K hJ hK
                have HB2 := Lib.hid hb
                have HF := Lib.hid hF
                clear hb hF
                have f18 : u 18 = .bool false := HF.out 18 (by decide)
                have f21 : u 21 = .bool false := HF.out 21 (by decide)
                go_wp2
                exact hJ _ _ _ (Below.refl _ _) (rfl) (by simp [setU, f18, f21] <;> omega)
              · intro u w2 hb hF J K hJ hK
                have HB2 := Lib.hid hb
                have HF := Lib.hid hF
                clear hb hF
                have f22 : u 22 = .bool false := HF.out 22 (by decide)
                go_wp2
                exact hJ _ _ _ (Below.refl _ _) (rfl) (by simp [setU, f22] <;> omega)
              · intro u w2 hb hF J K hJ hK
                have HB2 := Lib.hid hb
                have HF := Lib.hid hF
                clear hb hF
                have f23 : u 23 = .bool false := HF.out 23 (by decide)
                go_wp2
                exact hJ _ _ _ (Below.refl _ _) (rfl) (by simp [setU, f23] <;> omega)
              · intro u w2 hb hF J K hJ hK
                have HB2 := Lib.hid hb
                have HF := Lib.hid hF
                clear hb hF
                have f23 : u 23 = .bool false := HF.out 23 (by decide)
                have f24 : u 24 = .pointer (some ⟨gx, 1, none⟩) := HF.out 24 (by decide)
                have qc : w2.cell? ⟨gx, 1, none⟩ = some (.int .i64 (sc : Int)) := (HK7.out.ext HB2.out).cell rfl
                go_wp2
                exact hJ _ _ _ (Below.refl _ _) (rfl) (by simp [setU, f23, f24] <;> omega)
              · intro u w2 hb hF J K hJ hK
                have HB2 := Lib.hid hb
                have HF := Lib.hid hF
                clear hb hF
                have f23 : u 23 = .bool false := HF.out 23 (by decide)
                go_wp2
                exact hJ _ _ _ (Below.refl _ _) (rfl) (by simp [setU, f23] <;> omega)
              · intro u w2 hb hF J K hJ hK
                have HB2 := Lib.hid hb
                have HF := Lib.hid hF
                clear hb hF
                have f23 : u 23 = .bool false := HF.out 23 (by decide)
                have f26 : u 26 = .pointer (some ⟨gx, 2, none⟩) := HF.out 26 (by decide)
                have qc : w2.cell? ⟨gx, 2, none⟩ = some (.int .i64 (sd2 : Int)) := (HK7.out.ext HB2.out).cell rfl
                go_wp2
                exact hJ _ _ _ (Below.refl _ _) (rfl) (by simp [setU, f23, f26] <;> omega)
              · intro u w2 hb hF J K hJ hK
                have HB2 := Lib.hid hb
                have HF := Lib.hid hF
                clear hb hF
                have f23 : u 23 = .bool false := HF.out 23 (by decide)
                have f25 : u 25 = .int .i64 (sc : Int) := HF.out 25 (by decide)
                have f27 : u 27 = .int .i64 (sd2 : Int) := HF.out 27 (by decide)
                go_wp2
                exact hJ _ _ _ (Below.refl _ _) (rfl) (by simp [setU, f23, f25, f27] <;> omega)
              · intro u w2 hb hF J K hJ hK
                have HB2 := Lib.hid hb
                have HF := Lib.hid hF
                clear hb hF
                have f23 : u 23 = .bool false := HF.out 23 (by decide)
                go_wp2
                exact hJ _ _ _ (Below.refl _ _) (rfl) (by simp [setU, f23] <;> omega)
              · intro u w2 hb hF J K hJ hK
                have HB2 := Lib.hid hb
                have HF := Lib.hid hF
                clear hb hF
                have f23 : u 23 = .bool false := HF.out 23 (by decide)
                go_wp2
                exact hJ _ _ _ (Below.refl _ _) (rfl) (by simp [setU, f23] <;> omega)
              · intro u w2 hb hF J K hJ hK
                have HB2 := Lib.hid hb
                have HF := Lib.hid hF
                clear hb hF
                have f23 : u 23 = .bool false := HF.out 23 (by decide)
                have f29 : u 29 = .pointer (some ⟨g, 0, none⟩) := HF.out 29 (by decide)
                go_wp2
                exact hJ _ _ _ (Below.refl _ _) (rfl) (by simp [setU, f23, f29] <;> omega)
              · intro u w2 hb hF J K hJ hK
                have HB2 := Lib.hid hb
                have HF := Lib.hid hF
                clear hb hF
                have f23 : u 23 = .bool false := HF.out 23 (by decide)
                have f31 : u 31 = .pointer (some ⟨g, 0, none⟩) := HF.out 31 (by decide)
                go_wp2
                exact hJ _ _ _ (Below.refl _ _) (rfl) (by simp [setU, f23, f31] <;> omega)
              · intro u w2 hb hF J K hJ hK
                have HB2 := Lib.hid hb
                have HF := Lib.hid hF
                clear hb hF
                have f23 : u 23 = .bool false := HF.out 23 (by decide)
                have f30 : u 30 = .int .i64 (i : Int) := HF.out 30 (by decide)
                have f32 : u 32 = .pointer (some ⟨g, 5, none⟩) := HF.out 32 (by decide)
                go_wp2
                exact hJ _ _ _ (Below.refl _ _) (rfl) (by simp [setU, f23, f30, f32] <;> omega)
              · intro u w2 hb hF J K hJ hK
                have HB2 := Lib.hid hb
                have HF := Lib.hid hF
                clear hb hF
                have f23 : u 23 = .bool false := HF.out 23 (by decide)
                have f33 : u 33 = .pointer (some ⟨g, 5 + i, none⟩) := HF.out 33 (by decide)
                have qc := (HCI.out w2 (ext_trans HB7.out HB2.out)).1
                go_wp2
                exact hJ _ _ _ (Below.refl _ _) (rfl) (by simp [setU, f23, f33] <;> omega)
              · intro u w2 hb hF J K hJ hK
                have HB2 := Lib.hid hb
                have HF := Lib.hid hF
                clear hb hF
                have f23 : u 23 = .bool false := HF.out 23 (by decide)
                have f34 : u 34 = .slice Aw wl cw := HF.out 34 (by decide)
                go_wp2
                exact hJ _ _ _ (Below.refl _ _) (rfl) (by simp [setU, f23, f34] <;> omega)
              · intro u w2 hb hF J K hJ hK
                have HB2 := Lib.hid hb
                have HF := Lib.hid hF
                clear hb hF
                have f23 : u 23 = .bool false := HF.out 23 (by decide)
                have f28 : u 28 = .int .i64 ((sc + sd2 : Nat) : Int) := HF.out 28 (by decide)
                have f35 : u 35 = .int .i64 (wl : Int) := HF.out 35 (by decide)
                go_wp2
                exact hJ _ _ _ (Below.refl _ _) (rfl) (by simp [setU, f23, f28, f35] <;> omega)
              · intro u w2 hb hF J K hJ hK
                have HB2 := Lib.hid hb
                have HF := Lib.hid hF
                clear hb hF
                have f23 : u 23 = .bool false := HF.out 23 (by decide)
                have f36 : u 36 = .bool false := HF.out 36 (by decide)
                go_wp2
                exact hJ _ _ _ (Below.refl _ _) (rfl) (by simp [setU, f23, f36] <;> omega)
            · intro u w2 hb hF
              have HB2 := Lib.hid hb
              have f37 : u 37 = .bool false := hF 37 (by decide)
              clear hb hF
              have HB9 := Lib.hid (ext_trans HB7.out HB2.out)
              obtain ⟨c5, c3⟩ := HCI.out _ HB9.out
              obtain ⟨gk2, hgk2⟩ : ∃ x, gk = x := ⟨_, rfl⟩
              clear HB2 HCI HRO HK7 HB7
              dsimp only
              rw [f37]
              go_wp2_with fail
              go_loopg [87] bn (fun gk v wr => ∃ q : Nat, v = .int .i64 (q : Int) ∧ q + gk = bn ∧ Hid (Below wo.heap.size wo wr))
              case atStart => exact ⟨0, rfl, by omega, HB9⟩
              case round =>
                obtain ⟨q, rfl, hqg, hbw⟩ := hrel
                clear c5 c3
                by_cases hq : q < bn
                · have hqi : (q : Int) < (bn : Int) := by omega
                  have hwq : IntKind.i64.wrap ((q : Int) + 1) = ((q + 1 : Nat) : Int) := by rw [IntWalk.i64_in _ (by omega)]; omega
                  obtain ⟨ga, rfl⟩ := hAb (by omega)
                  obtain ⟨p, hp⟩ : ∃ p, (P.bag i)[q]? = some p := ⟨_, List.getElem?_eq_getElem (by rw [HBN.out]; exact hq)⟩
                  have hmd := HMD.out.ext hbw.out
                  obtain ⟨B, pn, pc, hat⟩ := row_at (hmd.1.get _ (p_row hi2)) HRW.out hp
                  have hpk := HOKS.out.2.1.fine.bok i hi2 p (List.mem_of_getElem? hp)
                  have hck : Hid (okN p pn = true) := Lib.hid (by rw [← hat.len]; exact hpk.1)
                  obtain ⟨q0, q1, q2, q3, q4, q5, q6, q7, q8, q9, q10⟩ : wr.cell? ⟨ga, q * 11, none⟩ = some (.int .i64 p.src) ∧ wr.cell? ⟨ga, q * 11 + 1, none⟩ = some (.int .i64 p.dst) ∧ wr.cell? ⟨ga, q * 11 + 2, none⟩ = some (.int .i64 p.sp) ∧ wr.cell? ⟨ga, q * 11 + 3, none⟩ = some (.int .i64 p.dp) ∧ wr.cell? ⟨ga, q * 11 + 4, none⟩ = some (.int .u32 (p.seq : Int)) ∧ wr.cell? ⟨ga, q * 11 + 5, none⟩ = some (.int .u32 (p.ack : Int)) ∧ wr.cell? ⟨ga, q * 11 + 6, none⟩ = some (.int .i64 p.fl) ∧ wr.cell? ⟨ga, q * 11 + 7, none⟩ = some (.int .i64 p.wn) ∧ wr.cell? ⟨ga, q * 11 + 8, none⟩ = some (.int .i64 p.pr) ∧ wr.cell? ⟨ga, q * 11 + 9, none⟩ = some (.int .i64 p.og) ∧ wr.cell? ⟨ga, q * 11 + 10, none⟩ = some (.slice B pn pc) := ⟨hat.c0, hat.c1, hat.c2, hat.c3, hat.c4, hat.c5, hat.c6, hat.c7, hat.c8, hat.c9, hat.c10⟩
                  clear hat hpk hp hmd hAb
                  go_upto_region 18 with fail
                  obtain ⟨gy, hgy⟩ : ∃ gy, wr.heap.size = gy := ⟨_, rfl⟩
                  refine name_world (fun W => Below wo.heap.size wo W ∧ BK W wr.heap.size 32 (p.cs B pn pc)) ⟨ext_trans hbw.out (ext_alloc _ _), BK.new _ _ _⟩ ?_
                  rintro w8 ⟨hb8, hk8⟩
                  rw [hgy] at hk8 ⊢
                  have y0 : w8.cell? ⟨gy, 0, none⟩ = some (.int .i64 p.src) := hk8.cell rfl
                  have y1 : w8.cell? ⟨gy, 1, none⟩ = some (.int .i64 p.dst) := hk8.cell rfl
                  have y2 : w8.cell? ⟨gy, 2, none⟩ = some (.int .i64 p.sp) := hk8.cell rfl
                  have y3 : w8.cell? ⟨gy, 3, none⟩ = some (.int .i64 p.dp) := hk8.cell rfl
                  have y4 : w8.cell? ⟨gy, 4, none⟩ = some (.int .u32 (p.seq : Int)) := hk8.cell rfl
                  have y5 : w8.cell? ⟨gy, 5, none⟩ = some (.int .u32 (p.ack : Int)) := hk8.cell rfl
                  have y6 : w8.cell? ⟨gy, 6, none⟩ = some (.int .i64 p.fl) := hk8.cell rfl
                  have y7 : w8.cell? ⟨gy, 7, none⟩ = some (.int .i64 p.wn) := hk8.cell rfl
                  have y8 : w8.cell? ⟨gy, 8, none⟩ = some (.int .i64 p.pr) := hk8.cell rfl
                  have y9 : w8.cell? ⟨gy, 9, none⟩ = some (.int .i64 p.og) := hk8.cell rfl
                  have y10 : w8.cell? ⟨gy, 10, none⟩ = some (.slice B pn pc) := hk8.cell rfl
                  have HB8 := Lib.hid hb8
                  have HCK := Lib.hid (check_n p B pn pc w8)
                  rw [hck.out] at HCK
                  simp only [Pk.cs] at HCK
                  clear hb8 hk8 hgy hbw q0 q1 q2 q3 q4 q5 q6 q7 q8 q9 q10
                  go_wp2_with fail
                  refine HCK.out.mono ?_
                  rintro e wc ⟨rfl, hbc⟩
                  have HBC := Lib.hid (ext_trans HB8.out hbc)
                  clear hbc HCK HB8 y0 y1 y2 y3 y4 y5 y6 y7 y8 y9 y10
                  go_wp2_with fail
                  go_roundg (gk - 1)
                  case measure => omega
                  case rel => exact ⟨q + 1, by first | rfl | (congr 1), by omega, HBC⟩
                · obtain rfl : q = bn := by omega
                  have HF : Hid (BdAt w g P (m + 1) wr) := Lib.hid ⟨⟨V, HMD.out.ext hbw.out, HOKS.out.1, HOKS.out.2.1⟩, HOKS.out.2.2⟩
                  clear hbw
                  go_wp2_with fail
                  go_roundg (gk2 - 1)
                  case measure => omega
                  case rel => exact ⟨i + 1, by first | rfl | (congr 1), by omega, HF⟩
          · obtain rfl : i = 2 := by omega
            have HF : Hid (BdAt w g ((PS.begun iss irs).plays (l.take (m + 1))) (m + 1) wo) := Lib.hid (by rw [HSP.out]; exact hinv.out)
            clear hinv
            go_wp2_with fail
            go_roundg (gk0 - 1)
            case measure => omega
            case rel => exact ⟨m + 1, by first | rfl | (congr 1), by omega, HF⟩
      · obtain rfl : m = N := by omega
        have HIV := hinv
        clear hinv
        go_wp2_with fail
        refine (HAW.out _).mono ?_
        rintro e w6 ⟨rfl, hb⟩
        have HF := Lib.hid ((HIV.out.ext hb).below)
        clear hb
        go_wp2_with fail
        go_ret
        exact ⟨rfl, HF.out⟩
end Go.Proofs.Ytjhnnnklfhbebaa
