/- TcpSame: the walk. -/
import Derived.Test.YtjhnnnklfhbebaaTiN
namespace Go.Proofs.Ytjhnnnklfhbebaa
open Go.RowKit
set_option linter.unusedVariables false
set_option linter.unusedSimpArgs false
set_option maxRecDepth 100000 in
set_option maxHeartbeats 4000000 in
theorem same_walk13 (w : World) (iss : Nat) (hi : iss ≤ 4294967295) (irs : Nat) (hr : irs ≤ 4294967295) (A : Option Addr) (c : Nat) (l : List ActA) (hl : RActs w A l) (hc : l.length ≤ c) (hm : c ≤ maxLen)
    (B : Option Addr) (d : Nat) (ot : List ActA) (hd : RActs w B ot) (hmc : ot.length ≤ d) (hmm : d ≤ maxLen) :
    Calls Try.prog 4 #[.int .u32 (iss : Int), .int .u32 (irs : Int), .slice A l.length c, .slice B ot.length d] w fun e w' => e = .returned (.bool true) ∧ Below w.heap.size w w' := by
  have HAW := Lib.hid (fun W => awake_calls W)
  have HFE := Lib.hid (few_calls w A c l hl hc hm)
  have HFO := Lib.hid (few_calls w B d ot hd hmc hmm)
  have HRL := Lib.hid hl
  have HRO := Lib.hid hd
  have HBE := Lib.hid (fun (W : World) (L : List Item) (h : Made w L W) => made_begun h iss irs (by omega) (by omega))
  have HBX := Lib.hid (fun (W : World) (L : List Item) (h : Made w L W) => made_begun h irs iss (by omega) (by omega))
  have HGI := Lib.hid (begun_good (iss := iss) (irs := irs) (by omega) (by omega))
  have HGX := Lib.hid (begun_good (iss := irs) (irs := iss) (by omega) (by omega))
  obtain ⟨N, hN⟩ : ∃ N, l.length = N := ⟨_, rfl⟩
  obtain ⟨M, hM⟩ : ∃ M, ot.length = M := ⟨_, rfl⟩
  have HN := Lib.hid hN
  have HM := Lib.hid hM
  have hNm : N ≤ 9223372036854775807 := by have : c ≤ 9223372036854775807 := hm; omega
  have hMm : M ≤ 9223372036854775807 := by have : d ≤ 9223372036854775807 := hmm; omega
  rw [hN] at HFE hc ⊢
  rw [hM] at HFO hmc ⊢
  clear hl hd hN hM hm hmm hi hr
  go_enter Try.func4, Try.ntmps4
  go_wp2_with fail
  refine HFE.out.mono ?_
  rintro e w1 ⟨⟨b, rfl, hfew⟩, rfl⟩
  clear HFE
  cases b with
  | false =>
    clear HFO HBE HBX hfew
    go_wp2_with fail
    refine (HAW.out _).mono ?_
    rintro e w2 ⟨rfl, hb⟩
    have HB := Lib.hid hb
    clear hb
    go_wp2_with fail
    go_ret
    exact ⟨rfl, HB.out⟩
  | true =>
    have hN4 : N ≤ 400 := hfew rfl
    clear hfew
    go_wp2_with fail
    refine HFO.out.mono ?_
    rintro e w2 ⟨⟨b, rfl, hfew⟩, rfl⟩
    clear HFO
    cases b with
    | false =>
      clear HBE HBX hfew
      go_wp2_with fail
      refine (HAW.out _).mono ?_
      rintro e w3 ⟨rfl, hb⟩
      have HB := Lib.hid hb
      clear hb
      go_wp2_with fail
      go_ret
      exact ⟨rfl, HB.out⟩
    | true =>
      have hM4 : M ≤ 400 := hfew rfl
      clear hfew
      go_wp2_with fail
      refine (HBE.out _ _ (Made.start w)).mono ?_
      rintro e w3 ⟨gp, Vp, rfl, hp1, hp2⟩
      have HP1 := Lib.hid hp1
      have HP2 := Lib.hid hp2
      clear hp1 hp2
      go_wp2_with fail
      refine (HBE.out _ _ HP1.out).mono ?_
      rintro e w4 ⟨gq, Vq, rfl, hq1, hq2⟩
      have HQ1 := Lib.hid hq1
      have HQ2 := Lib.hid hq2
      clear hq1 hq2 HP1
      go_wp2_with fail
      refine (HBX.out _ _ HQ1.out).mono ?_
      rintro e w5 ⟨gx, Vx, rfl, hx1, hx2⟩
      have HS : Hid (SmAt w gp gq gx (PS.begun iss irs) (PS.begun irs iss) 0 0 [] w5) := Lib.hid ⟨Vp, Vq, Vx, hx1, HP2.out, HQ2.out, hx2, HGI.out, HGX.out⟩
      clear hx1 hx2 HQ1 HP2 HQ2 HBE HBX HGI HGX
      go_wp2_with fail
      go_loopg [35] N (fun gk v wr => ∃ m : Nat, v = .int .i64 (m : Int) ∧ m + gk = N ∧ Hid (∃ P X mx, mx ≤ m ∧ SmAt w gp gq gx P X m mx [] wr))
      case atStart => exact ⟨0, rfl, by omega, Lib.hid ⟨_, _, 0, Nat.le_refl _, HS.out⟩⟩
      case round =>
        obtain ⟨m, rfl, hmg, hinv⟩ := hrel
        by_cases hm : m < N
        · have hmi : (m : Int) < (N : Int) := by omega
          have hwm : IntKind.i64.wrap ((m : Int) + 1) = ((m + 1 : Nat) : Int) := by rw [IntWalk.i64_in _ (by omega)]; omega
          obtain ⟨P, X, mx, hmx, hsm⟩ := hinv.out
          obtain ⟨k, hk⟩ : ∃ k, l[m]? = some k := ⟨_, List.getElem?_eq_getElem (by rw [HN.out]; exact hm)⟩
          obtain ⟨b, o, A', c', rfl, hcell0, hat⟩ := HRL.out m k hk
          have hcell : ∀ (j : Nat) (v : Value), (k.cs A' c')[j]? = some v → wr.cell? ⟨b, o + m * 6 + j, none⟩ = some v := fun j v hj => (hsm.below.cell (World.block_lt_of_cell? w _ (hcell0 j v hj))).trans (hcell0 j v hj)
          obtain ⟨q0, q1, q2, q3, q4, q5⟩ : wr.cell? ⟨b, o + m * 6, none⟩ = some (.int .i64 k.op) ∧ wr.cell? ⟨b, o + m * 6 + 1, none⟩ = some (.int .i64 k.side) ∧ wr.cell? ⟨b, o + m * 6 + 2, none⟩ = some (.int .i64 k.at_) ∧ wr.cell? ⟨b, o + m * 6 + 3, none⟩ = some (.int .i64 k.n) ∧ wr.cell? ⟨b, o + m * 6 + 4, none⟩ = some (.slice A' k.b.length c') ∧ wr.cell? ⟨b, o + m * 6 + 5, none⟩ = some (.bool k.stay) := ⟨hcell 0 _ rfl, hcell 1 _ rfl, hcell 2 _ rfl, hcell 3 _ rfl, hcell 4 _ rfl, hcell 5 _ rfl⟩
          have HDP := Lib.hid (fun (W : World) (mx : Nat) (X : PS) (L : List Item) (h : SmAt w gp gq gx P X m mx L W) => sm_p h (by omega) k A' c' hat)
          have HDQ := Lib.hid (fun (W : World) (mx : Nat) (X : PS) (L : List Item) (h : SmMid w gp gq gx (P.does k) P X m mx L W) => sm_q h (by omega) A' c' hat)
          simp only [ActA.cs] at HDP HDQ
          obtain ⟨bl, hbl⟩ : ∃ bl, k.b.length = bl := ⟨_, rfl⟩
          rw [hbl] at q4 HDP HDQ
          have HSM := Lib.hid hsm
          clear hcell hcell0 hat hk hbl hinv hsm
          go_upto_region 7 with fail
          obtain ⟨gb0, hgb0⟩ : ∃ x, wr.heap.size = x := ⟨_, rfl⟩
          refine name_world (fun W => SmAt w gp gq gx P X m mx [Item.bk wr.heap.size 46 [.int .i64 k.op, .int .i64 k.side, .int .i64 k.at_, .int .i64 k.n, .slice A' bl c', .bool k.stay]] W) (HSM.out.box _ [.int .i64 k.op, .int .i64 k.side, .int .i64 k.at_, .int .i64 k.n, .slice A' bl c', .bool k.stay]) ?_
          intro w4 hs4
          rw [hgb0] at hs4 ⊢
          have hk4 := hs4.bk
          have y0 : w4.cell? ⟨gb0, 0, none⟩ = some (.int .i64 k.op) := hk4.cell rfl
          have y1 : w4.cell? ⟨gb0, 1, none⟩ = some (.int .i64 k.side) := hk4.cell rfl
          have y2 : w4.cell? ⟨gb0, 2, none⟩ = some (.int .i64 k.at_) := hk4.cell rfl
          have y3 : w4.cell? ⟨gb0, 3, none⟩ = some (.int .i64 k.n) := hk4.cell rfl
          have y4 : w4.cell? ⟨gb0, 4, none⟩ = some (.slice A' bl c') := hk4.cell rfl
          have y5 : w4.cell? ⟨gb0, 5, none⟩ = some (.bool k.stay) := hk4.cell rfl
          have HS4 := Lib.hid hs4
          clear hs4 hk4 q0 q1 q2 q3 q4 q5 HSM hgb0
          by_cases hmM : m < M
          · have hmMi : (m : Int) < (M : Int) := by omega
            obtain ⟨kx, hkx⟩ : ∃ kx, ot[m]? = some kx := ⟨_, List.getElem?_eq_getElem (by rw [HM.out]; exact hmM)⟩
            obtain ⟨bx, ox, Ax, cx, rfl, hcellx, hatx⟩ := HRO.out m kx hkx
            have hcx : ∀ (j : Nat) (v : Value), (kx.cs Ax cx)[j]? = some v → w4.cell? ⟨bx, ox + m * 6 + j, none⟩ = some v := fun j v hj => (HS4.out.below.cell (World.block_lt_of_cell? w _ (hcellx j v hj))).trans (hcellx j v hj)
            obtain ⟨x0, x1, x2, x3, x4, x5⟩ : w4.cell? ⟨bx, ox + m * 6, none⟩ = some (.int .i64 kx.op) ∧ w4.cell? ⟨bx, ox + m * 6 + 1, none⟩ = some (.int .i64 kx.side) ∧ w4.cell? ⟨bx, ox + m * 6 + 2, none⟩ = some (.int .i64 kx.at_) ∧ w4.cell? ⟨bx, ox + m * 6 + 3, none⟩ = some (.int .i64 kx.n) ∧ w4.cell? ⟨bx, ox + m * 6 + 4, none⟩ = some (.slice Ax kx.b.length cx) ∧ w4.cell? ⟨bx, ox + m * 6 + 5, none⟩ = some (.bool kx.stay) := ⟨hcx 0 _ rfl, hcx 1 _ rfl, hcx 2 _ rfl, hcx 3 _ rfl, hcx 4 _ rfl, hcx 5 _ rfl⟩
            have HDX := Lib.hid (sm_x HS4.out (by omega) kx Ax cx hatx)
            simp only [ActA.cs] at HDX
            obtain ⟨bn, hbn⟩ : ∃ bn, kx.b.length = bn := ⟨_, rfl⟩
            rw [hbn] at x4 HDX
            clear hkx hcellx hcx hatx hbn
            go_wp2_with fail
            refine HDX.out.mono ?_
            rintro e w5 ⟨rfl, h5⟩
            have hk6 := h5.bk
            have HS5 := Lib.hid h5
            clear h5 HS4 HDX x0 x1 x2 x3 x4 x5 y0 y1 y2 y3 y4 y5
            have y0 : w5.cell? ⟨gb0, 0, none⟩ = some (.int .i64 k.op) := hk6.cell rfl
            have y1 : w5.cell? ⟨gb0, 1, none⟩ = some (.int .i64 k.side) := hk6.cell rfl
            have y2 : w5.cell? ⟨gb0, 2, none⟩ = some (.int .i64 k.at_) := hk6.cell rfl
            have y3 : w5.cell? ⟨gb0, 3, none⟩ = some (.int .i64 k.n) := hk6.cell rfl
            have y4 : w5.cell? ⟨gb0, 4, none⟩ = some (.slice A' bl c') := hk6.cell rfl
            have y5 : w5.cell? ⟨gb0, 5, none⟩ = some (.bool k.stay) := hk6.cell rfl
            clear hk6
            go_wp2_with fail
            refine (HDP.out _ (mx + 1) (X.does kx) _ HS5.out).mono ?_
            rintro e w6 ⟨rfl, h6⟩
            have hk6 := h6.bk
            have HS6 := Lib.hid h6
            clear h6 HS5 y0 y1 y2 y3 y4 y5
            have y0 : w6.cell? ⟨gb0, 0, none⟩ = some (.int .i64 k.op) := hk6.cell rfl
            have y1 : w6.cell? ⟨gb0, 1, none⟩ = some (.int .i64 k.side) := hk6.cell rfl
            have y2 : w6.cell? ⟨gb0, 2, none⟩ = some (.int .i64 k.at_) := hk6.cell rfl
            have y3 : w6.cell? ⟨gb0, 3, none⟩ = some (.int .i64 k.n) := hk6.cell rfl
            have y4 : w6.cell? ⟨gb0, 4, none⟩ = some (.slice A' bl c') := hk6.cell rfl
            have y5 : w6.cell? ⟨gb0, 5, none⟩ = some (.bool k.stay) := hk6.cell rfl
            clear hk6
            go_wp2_with fail
            refine (HDQ.out _ (mx + 1) (X.does kx) _ HS6.out).mono ?_
            rintro e w7 ⟨rfl, h7⟩
            have HS7 : Hid (∃ P X mx, mx ≤ m + 1 ∧ SmAt w gp gq gx P X (m + 1) mx [] w7) := Lib.hid ⟨_, _, (mx + 1), by omega, h7.unbox⟩
            clear h7 HS6 y0 y1 y2 y3 y4 y5
            go_wp2_with fail
            go_roundg (gk - 1)
            case measure => omega
            case rel => exact ⟨m + 1, by first | rfl | (congr 1), by omega, HS7⟩
          · have hmMi : ¬ (m : Int) < (M : Int) := by omega
            go_wp2_with fail
            refine (HDP.out _ mx X _ HS4.out).mono ?_
            rintro e w6 ⟨rfl, h6⟩
            have hk6 := h6.bk
            have HS6 := Lib.hid h6
            clear h6 HS4 y0 y1 y2 y3 y4 y5
            have y0 : w6.cell? ⟨gb0, 0, none⟩ = some (.int .i64 k.op) := hk6.cell rfl
            have y1 : w6.cell? ⟨gb0, 1, none⟩ = some (.int .i64 k.side) := hk6.cell rfl
            have y2 : w6.cell? ⟨gb0, 2, none⟩ = some (.int .i64 k.at_) := hk6.cell rfl
            have y3 : w6.cell? ⟨gb0, 3, none⟩ = some (.int .i64 k.n) := hk6.cell rfl
            have y4 : w6.cell? ⟨gb0, 4, none⟩ = some (.slice A' bl c') := hk6.cell rfl
            have y5 : w6.cell? ⟨gb0, 5, none⟩ = some (.bool k.stay) := hk6.cell rfl
            clear hk6
            go_wp2_with fail
            refine (HDQ.out _ mx X _ HS6.out).mono ?_
            rintro e w7 ⟨rfl, h7⟩
            have HS7 : Hid (∃ P X mx, mx ≤ m + 1 ∧ SmAt w gp gq gx P X (m + 1) mx [] w7) := Lib.hid ⟨_, _, mx, by omega, h7.unbox⟩
            clear h7 HS6 y0 y1 y2 y3 y4 y5
            go_wp2_with fail
            go_roundg (gk - 1)
            case measure => omega
            case rel => exact ⟨m + 1, by first | rfl | (congr 1), by omega, HS7⟩
        · obtain rfl : m = N := by omega
          obtain ⟨P, X, mx, hmx, hsm⟩ := hinv.out
          have HSM := Lib.hid hsm
          obtain ⟨wa, rfl⟩ : ∃ x, x = wr := ⟨_, rfl⟩
          clear hinv hsm HS HRL HRO HN HM hmx
          go_wp2_with fail
          go_loopg [57] 2 (fun gk v wr => ∃ i : Nat, v = .int .i64 (i : Int) ∧ i + gk = 2 ∧ Hid (Below wa.heap.size wa wr))
          case atStart => exact ⟨0, rfl, by omega, Lib.hid (Below.refl _ _)⟩
          case round =>
            obtain ⟨i, rfl, hig, hinv⟩ := hrel
            by_cases hi2 : i < 2
            · have hii : (i : Int) < 2 := by omega
              have hwi : IntKind.i64.wrap ((i : Int) + 1) = ((i + 1 : Nat) : Int) := by rw [IntWalk.i64_in _ (by omega)]; omega
              obtain ⟨pv, qv, bp, bq, rp, rq, xa, xb, xc, xd, xe, xf, xg, h1, h2, h3, h4, h5⟩ := (HSM.out.ext hinv.out).look hi2
              have HCL := Lib.hid h1
              have HEQ := Lib.hid h2
              have HEP := Lib.hid h3
              have HEN := Lib.hid h4
              have HBY := Lib.hid h5
              have HIN := hinv
              clear h1 h2 h3 h4 h5 hinv
              have HB7 : Hid (Below wr.heap.size wr wr) := Lib.hid (Below.refl _ _)
              go_upto_region 15 with fail
              refine wp_region_facts [[], [], [0], [0, 2], [0, 1, 2, 3], [0, 1, 2, 3, 4], [], [], [6], [6, 8], [6, 7, 8, 9], [6, 7, 8, 9, 10], [0, 1, 2, 3, 4, 5, 6, 7, 8, 9, 10, 11], [0, 1, 2, 3, 4, 5, 6, 7, 8, 9, 10, 11, 12], [0, 1, 2, 3, 4, 5, 6, 7, 8, 9, 10, 11, 12, 13], [0, 1, 2, 3, 4, 5, 6, 7, 8, 9, 10, 11, 12, 13, 14], [0, 1, 2, 3, 4, 5, 6, 7, 8, 9, 10, 11, 12, 13, 14], [0, 1, 2, 3, 4, 5, 6, 7, 8, 9, 10, 11, 12, 13, 14, 15], [0, 1, 2, 3, 4, 5, 6, 7, 8, 9, 10, 11, 12, 13, 14, 15, 17], [0, 1, 2, 3, 4, 5, 6, 7, 8, 9, 10, 11, 12, 13, 14, 15, 16, 17, 18], [0, 1, 2, 3, 4, 5, 6, 7, 8, 9, 10, 11, 12, 13, 14, 15, 16, 17, 18, 19], [0, 1, 2, 3, 4, 5, 6, 7, 8, 9, 10, 11, 12, 13, 14, 15, 16, 17, 18, 19, 20], [0, 1, 2, 3, 4, 5, 6, 7, 8, 9, 10, 11, 12, 13, 14], [0, 1, 2, 3, 4, 5, 6, 7, 8, 9, 10, 11, 12, 13, 14], [0, 1, 2, 3, 4, 5, 6, 7, 8, 9, 10, 11, 12, 13, 14, 22], [0, 1, 2, 3, 4, 5, 6, 7, 8, 9, 10, 11, 12, 13, 14, 22, 24], [0, 1, 2, 3, 4, 5, 6, 7, 8, 9, 10, 11, 12, 13, 14, 22, 23, 24, 25], [0, 1, 2, 3, 4, 5, 6, 7, 8, 9, 10, 11, 12, 13, 14, 22, 23, 24, 25, 26], [0, 1, 2, 3, 4, 5, 6, 7, 8, 9, 10, 11, 12, 13, 14, 22, 23, 24, 25, 26, 27], [0, 1, 2, 3, 4, 5, 6, 7, 8, 9, 10, 11, 12, 13, 14, 15, 16, 17, 18, 19, 20, 21, 22, 23, 24, 25, 26, 27, 28], [0, 1, 2, 3, 4, 5, 6, 7, 8, 9, 10, 11, 12, 13, 14, 15, 16, 17, 18, 19, 20, 21, 22, 23, 24, 25, 26, 27, 28, 29], [0, 1, 2, 3, 4, 5, 6, 7, 8, 9, 10, 11, 12, 13, 14, 15, 16, 17, 18, 19, 20, 21, 22, 23, 24, 25, 26, 27, 28, 29, 30], [0, 1, 2, 3, 4, 5, 6, 7, 8, 9, 10, 11, 12, 13, 14, 15, 16, 17, 18, 19, 20, 21, 22, 23, 24, 25, 26, 27, 28, 29, 30, 31], [0, 1, 2, 3, 4, 5, 6, 7, 8, 9, 10, 11, 12, 13, 14, 15, 16, 17, 18, 19, 20, 21, 22, 23, 24, 25, 26, 27, 28, 29, 30, 31], [0, 1, 2, 3, 4, 5, 6, 7, 8, 9, 10, 11, 12, 13, 14, 15, 16, 17, 18, 19, 20, 21, 22, 23, 24, 25, 26, 27, 28, 29, 30, 31, 32], [0, 1, 2, 3, 4, 5, 6, 7, 8, 9, 10, 11, 12, 13, 14, 15, 16, 17, 18, 19, 20, 21, 22, 23, 24, 25, 26, 27, 28, 29, 30, 31, 32, 34], [0, 1, 2, 3, 4, 5, 6, 7, 8, 9, 10, 11, 12, 13, 14, 15, 16, 17, 18, 19, 20, 21, 22, 23, 24, 25, 26, 27, 28, 29, 30, 31, 32, 33, 34, 35], [0, 1, 2, 3, 4, 5, 6, 7, 8, 9, 10, 11, 12, 13, 14, 15, 16, 17, 18, 19, 20, 21, 22, 23, 24, 25, 26, 27, 28, 29, 30, 31, 32, 33, 34, 35, 36], [0, 1, 2, 3, 4, 5, 6, 7, 8, 9, 10, 11, 12, 13, 14, 15, 16, 17, 18, 19, 20, 21, 22, 23, 24, 25, 26, 27, 28, 29, 30, 31], [0, 1, 2, 3, 4, 5, 6, 7, 8, 9, 10, 11, 12, 13, 14, 15, 16, 17, 18, 19, 20, 21, 22, 23, 24, 25, 26, 27, 28, 29, 30, 31], [0, 1, 2, 3, 4, 5, 6, 7, 8, 9, 10, 11, 12, 13, 14, 15, 16, 17, 18, 19, 20, 21, 22, 23, 24, 25, 26, 27, 28, 29, 30, 31, 38], [0, 1, 2, 3, 4, 5, 6, 7, 8, 9, 10, 11, 12, 13, 14, 15, 16, 17, 18, 19, 20, 21, 22, 23, 24, 25, 26, 27, 28, 29, 30, 31, 38, 40], [0, 1, 2, 3, 4, 5, 6, 7, 8, 9, 10, 11, 12, 13, 14, 15, 16, 17, 18, 19, 20, 21, 22, 23, 24, 25, 26, 27, 28, 29, 30, 31, 38, 39, 40, 41], [0, 1, 2, 3, 4, 5, 6, 7, 8, 9, 10, 11, 12, 13, 14, 15, 16, 17, 18, 19, 20, 21, 22, 23, 24, 25, 26, 27, 28, 29, 30, 31, 38, 39, 40, 41, 42], [0, 1, 2, 3, 4, 5, 6, 7, 8, 9, 10, 11, 12, 13, 14, 15, 16, 17, 18, 19, 20, 21, 22, 23, 24, 25, 26, 27, 28, 29, 30, 31, 32, 33, 34, 35, 36, 37, 38, 39, 40, 41, 42, 43], [0, 1, 2, 3, 4, 5, 6, 7, 8, 9, 10, 11, 12, 13, 14, 15, 16, 17, 18, 19, 20, 21, 22, 23, 24, 25, 26, 27, 28, 29, 30, 31, 32, 33, 34, 35, 36, 37, 38, 39, 40, 41, 42, 43, 44], [0, 1, 2, 3, 4, 5, 6, 7, 8, 9, 10, 11, 12, 13, 14, 15, 16, 17, 18, 19, 20, 21, 22, 23, 24, 25, 26, 27, 28, 29, 30, 31, 32, 33, 34, 35, 36, 37, 38, 39, 40, 41, 42, 43, 44, 45]]
                [fun u _ => u = .pointer (some ⟨gp, 0, none⟩),
                 fun u _ => u = .int .i64 (i : Int),
                 fun u _ => u = .pointer (some ⟨gp, 0, none⟩),
                 fun u _ => u = .pointer (some ⟨gp, 3, none⟩),
                 fun u _ => u = .pointer (some ⟨gp, 3 + i, none⟩),
                 fun u _ => u = bp,
                 fun u _ => u = .pointer (some ⟨gq, 0, none⟩),
                 fun u _ => u = .int .i64 (i : Int),
                 fun u _ => u = .pointer (some ⟨gq, 0, none⟩),
                 fun u _ => u = .pointer (some ⟨gq, 3, none⟩),
                 fun u _ => u = .pointer (some ⟨gq, 3 + i, none⟩),
                 fun u _ => u = bq,
                 fun u _ => u = .bool true,
                 fun u _ => u = .bool false,
                 fun u _ => u = .bool false,
                 fun u _ => u = .pointer (some ⟨gp, 0, none⟩),
                 fun u _ => u = .int .i64 (i : Int),
                 fun u _ => u = .pointer (some ⟨gp, 0, none⟩),
                 fun u _ => u = .pointer (some ⟨gp, 0, none⟩),
                 fun u _ => u = .pointer (some ⟨gp, i, none⟩),
                 fun u _ => u = pv,
                 fun u _ => u = .agg #[.int .i64 xa, .int .i64 xb, .int .i64 xc, .int .i64 xd, .int .i64 xe, .bool xf, .bool xg],
                 fun u _ => u = .pointer (some ⟨gq, 0, none⟩),
                 fun u _ => u = .int .i64 (i : Int),
                 fun u _ => u = .pointer (some ⟨gq, 0, none⟩),
                 fun u _ => u = .pointer (some ⟨gq, 0, none⟩),
                 fun u _ => u = .pointer (some ⟨gq, i, none⟩),
                 fun u _ => u = qv,
                 fun u _ => u = .agg #[.int .i64 xa, .int .i64 xb, .int .i64 xc, .int .i64 xd, .int .i64 xe, .bool xf, .bool xg],
                 fun u _ => u = .bool false,
                 fun u _ => u = .bool false,
                 fun u _ => u = .bool false,
                 fun u _ => u = .pointer (some ⟨gp, 0, none⟩),
                 fun u _ => u = .int .i64 (i : Int),
                 fun u _ => u = .pointer (some ⟨gp, 0, none⟩),
                 fun u _ => u = .pointer (some ⟨gp, 7, none⟩),
                 fun u _ => u = .pointer (some ⟨gp, 7 + i, none⟩),
                 fun u _ => u = rp,
                 fun u _ => u = .pointer (some ⟨gq, 0, none⟩),
                 fun u _ => u = .int .i64 (i : Int),
                 fun u _ => u = .pointer (some ⟨gq, 0, none⟩),
                 fun u _ => u = .pointer (some ⟨gq, 7, none⟩),
                 fun u _ => u = .pointer (some ⟨gq, 7 + i, none⟩),
                 fun u _ => u = rq,
                 fun u _ => u = .bool true,
                 fun u _ => u = .bool false,
                 fun u _ => u = .bool false]
                (fun u => ⟨#[Value.int IntKind.u32 (iss : Int), Value.int IntKind.u32 (irs : Int), Value.slice A m c, Value.slice B M d, undef, undef, undef, undef, u8, Value.pointer (some { block := gp, off := 0 }), Value.pointer (some { block := gq, off := 0 }), Value.pointer (some { block := gx, off := 0 }), u12, u13, Value.int IntKind.i64 (i : Int), Value.slice A m c, Value.bool true, Value.bool false, Value.bool false, Value.slice B M d, Value.bool true, Value.bool false, Value.bool false, undef, Value.int IntKind.u32 (iss : Int), Value.int IntKind.u32 (irs : Int), Value.pointer (some { block := gp, off := 0 }), Value.int IntKind.u32 (iss : Int), Value.int IntKind.u32 (irs : Int), Value.pointer (some { block := gq, off := 0 }), Value.int IntKind.u32 (irs : Int), Value.int IntKind.u32 (iss : Int), Value.pointer (some { block := gx, off := 0 }), Value.slice A m c, Value.int IntKind.i64 (m : Int), Value.int IntKind.i64 (m : Int), Value.bool false, u37, u38, u39, u40, u41, u42, u43, u44, u45, u46, u47, u48, u49, u50, u51, u52, u53, u54, u55, u56, Value.int IntKind.i64 (i : Int), Value.bool true, Value.int IntKind.i64 (i : Int), u 0, u 1, u 2, u 3, u 4, u 5, u 6, u 7, u 8, u 9, u 10, u 11, u 12, u 13, u 14, u 15, u 16, u 17, u 18, u 19, u 20, u 21, u 22, u 23, u 24, u 25, u 26, u 27, u 28, u 29, u 30, u 31, u 32, u 33, u 34, u 35, u 36, u 37, u 38, u 39, u 40, u 41, u 42, u 43, u 44, u 45, u 46, u107, undef], []⟩)
                (fun j => [u60, u61, u62, u63, u64, u65, u66, u67, u68, u69, u70, u71, u72, u73, u74, u75, u76, u77, u78, u79, u80, u81, u82, u83, u84, u85, u86, u87, u88, u89, u90, u91, u92, u93, u94, u95, u96, u97, u98, u99, u100, u101, u102, u103, u104, u105, u106].getD j undef) (by kernel_rfl) (by kernel_rfl) (by kernel_rfl) rfl ⟨Mono.eq _, Mono.eq _, Mono.eq _, Mono.eq _, Mono.eq _, Mono.eq _, Mono.eq _, Mono.eq _, Mono.eq _, Mono.eq _, Mono.eq _, Mono.eq _, Mono.eq _, Mono.eq _, Mono.eq _, Mono.eq _, Mono.eq _, Mono.eq _, Mono.eq _, Mono.eq _, Mono.eq _, Mono.eq _, Mono.eq _, Mono.eq _, Mono.eq _, Mono.eq _, Mono.eq _, Mono.eq _, Mono.eq _, Mono.eq _, Mono.eq _, Mono.eq _, Mono.eq _, Mono.eq _, Mono.eq _, Mono.eq _, Mono.eq _, Mono.eq _, Mono.eq _, Mono.eq _, Mono.eq _, Mono.eq _, Mono.eq _, Mono.eq _, Mono.eq _, Mono.eq _, Mono.eq _, trivial⟩ ?_ ?_
              · refine ⟨?_, ?_, ?_, ?_, ?_, ?_, ?_, ?_, ?_, ?_, ?_, ?_, ?_, ?_, ?_, ?_, ?_, ?_, ?_, ?_, ?_, ?_, ?_, ?_, ?_, ?_, ?_, ?_, ?_, ?_, ?_, ?_, ?_, ?_, ?_, ?_, ?_, ?_, ?_, ?_, ?_, ?_, ?_, ?_, ?_, ?_, ?_, trivial⟩
                · intro u w2 hb hF J K hJ hK
                  have HB2 := Lib.hid hb
                  have HF := Lib.hid hF
                  clear hb hF
                  go_wp2
                  exact hJ _ _ _ (Below.refl _ _) (rfl) (by simp [setU] <;> omega)
                · intro u w2 hb hF J K hJ hK
                  have HB2 := Lib.hid hb
                  have HF := Lib.hid hF
                  clear hb hF
                  go_wp2
                  exact hJ _ _ _ (Below.refl _ _) (rfl) (by simp [setU] <;> omega)
                · intro u w2 hb hF J K hJ hK
                  have HB2 := Lib.hid hb
                  have HF := Lib.hid hF
                  clear hb hF
                  have f0 : u 0 = .pointer (some ⟨gp, 0, none⟩) := HF.out 0 (by decide)
                  go_wp2
                  exact hJ _ _ _ (Below.refl _ _) (rfl) (by simp [setU, f0] <;> omega)
                · intro u w2 hb hF J K hJ hK
                  have HB2 := Lib.hid hb
                  have HF := Lib.hid hF
                  clear hb hF
                  have f2 : u 2 = .pointer (some ⟨gp, 0, none⟩) := HF.out 2 (by decide)
                  go_wp2
                  exact hJ _ _ _ (Below.refl _ _) (rfl) (by simp [setU, f2] <;> omega)
                · intro u w2 hb hF J K hJ hK
                  have HB2 := Lib.hid hb
                  have HF := Lib.hid hF
                  clear hb hF
                  have f1 : u 1 = .int .i64 (i : Int) := HF.out 1 (by decide)
                  have f3 : u 3 = .pointer (some ⟨gp, 3, none⟩) := HF.out 3 (by decide)
                  go_wp2
                  exact hJ _ _ _ (Below.refl _ _) (rfl) (by simp [setU, f1, f3] <;> omega)
                · intro u w2 hb hF J K hJ hK
                  have HB2 := Lib.hid hb
                  have HF := Lib.hid hF
                  clear hb hF
                  have f4 : u 4 = .pointer (some ⟨gp, 3 + i, none⟩) := HF.out 4 (by decide)
                  have qc := (HCL.out w2 (ext_trans HB7.out HB2.out)).2.1
                  go_wp2
                  exact hJ _ _ _ (Below.refl _ _) (rfl) (by simp [setU, f4] <;> omega)
                · intro u w2 hb hF J K hJ hK
                  have HB2 := Lib.hid hb
                  have HF := Lib.hid hF
                  clear hb hF
                  go_wp2
                  exact hJ _ _ _ (Below.refl _ _) (rfl) (by simp [setU] <;> omega)
                · intro u w2 hb hF J K hJ hK
                  have HB2 := Lib.hid hb
                  have HF := Lib.hid hF
                  clear hb hF
                  go_wp2
                  exact hJ _ _ _ (Below.refl _ _) (rfl) (by simp [setU] <;> omega)
                · intro u w2 hb hF J K hJ hK
                  have HB2 := Lib.hid hb
                  have HF := Lib.hid hF
                  clear hb hF
                  have f6 : u 6 = .pointer (some ⟨gq, 0, none⟩) := HF.out 6 (by decide)
                  go_wp2
                  exact hJ _ _ _ (Below.refl _ _) (rfl) (by simp [setU, f6] <;> omega)
                · intro u w2 hb hF J K hJ hK
                  have HB2 := Lib.hid hb
                  have HF := Lib.hid hF
                  clear hb hF
                  have f8 : u 8 = .pointer (some ⟨gq, 0, none⟩) := HF.out 8 (by decide)
                  go_wp2
                  exact hJ _ _ _ (Below.refl _ _) (rfl) (by simp [setU, f8] <;> omega)
                · intro u w2 hb hF J K hJ hK
                  have HB2 := Lib.hid hb
                  have HF := Lib.hid hF
                  clear hb hF
                  have f7 : u 7 = .int .i64 (i : Int) := HF.out 7 (by decide)
                  have f9 : u 9 = .pointer (some ⟨gq, 3, none⟩) := HF.out 9 (by decide)
                  go_wp2
                  exact hJ _ _ _ (Below.refl _ _) (rfl) (by simp [setU, f7, f9] <;> omega)
                · intro u w2 hb hF J K hJ hK
                  have HB2 := Lib.hid hb
                  have HF := Lib.hid hF
                  clear hb hF
                  have f10 : u 10 = .pointer (some ⟨gq, 3 + i, none⟩) := HF.out 10 (by decide)
                  have qc := (HCL.out w2 (ext_trans HB7.out HB2.out)).2.2.2.2.1
                  go_wp2
                  exact hJ _ _ _ (Below.refl _ _) (rfl) (by simp [setU, f10] <;> omega)
                · intro u w2 hb hF J K hJ hK
                  have HB2 := Lib.hid hb
                  have HF := Lib.hid hF
                  clear hb hF
                  have f5 : u 5 = bp := HF.out 5 (by decide)
                  have f11 : u 11 = bq := HF.out 11 (by decide)
                  go_wp2_with fail
                  refine (HEQ.out w2 (ext_trans HB7.out HB2.out)).mono ?_
                  rintro e w4 ⟨rfl, hb4⟩
                  have HB4 := Lib.hid hb4
                  clear hb4
                  go_wp2
                  exact hJ _ _ _ (HB4.out) (rfl) (by simp [setU, f5, f11] <;> omega)
                · intro u w2 hb hF J K hJ hK
                  have HB2 := Lib.hid hb
                  have HF := Lib.hid hF
                  clear hb hF
                  have f12 : u 12 = .bool true := HF.out 12 (by decide)
                  go_wp2
                  exact hJ _ _ _ (Below.refl _ _) (rfl) (by simp [setU, f12] <;> omega)
                · intro u w2 hb hF J K hJ hK
                  have HB2 := Lib.hid hb
                  have HF := Lib.hid hF
                  clear hb hF
                  have f13 : u 13 = .bool false := HF.out 13 (by decide)
                  go_wp2
                  exact hJ _ _ _ (Below.refl _ _) (rfl) (by simp [setU, f13] <;> omega)
                · intro u w2 hb hF J K hJ hK
                  have HB2 := Lib.hid hb
                  have HF := Lib.hid hF
                  clear hb hF
                  have f14 : u 14 = .bool false := HF.out 14 (by decide)
                  go_wp2
                  exact hJ _ _ _ (Below.refl _ _) (rfl) (by simp [setU, f14] <;> omega)
                · intro u w2 hb hF J K hJ hK
                  have HB2 := Lib.hid hb
                  have HF := Lib.hid hF
                  clear hb hF
                  have f14 : u 14 = .bool false := HF.out 14 (by decide)
                  go_wp2
                  exact hJ _ _ _ (Below.refl _ _) (rfl) (by simp [setU, f14] <;> omega)
                · intro u w2 hb hF J K hJ hK
                  have HB2 := Lib.hid hb
                  have HF := Lib.hid hF
                  clear hb hF
                  have f14 : u 14 = .bool false := HF.out 14 (by decide)
                  have f15 : u 15 = .pointer (some ⟨gp, 0, none⟩) := HF.out 15 (by decide)
                  go_wp2
                  exact hJ _ _ _ (Below.refl _ _) (rfl) (by simp [setU, f14, f15] <;> omega)
                · intro u w2 hb hF J K hJ hK
                  have HB2 := Lib.hid hb
                  have HF := Lib.hid hF
                  clear hb hF
                  have f14 : u 14 = .bool false := HF.out 14 (by decide)
                  have f17 : u 17 = .pointer (some ⟨gp, 0, none⟩) := HF.out 17 (by decide)
                  go_wp2
                  exact hJ _ _ _ (Below.refl _ _) (rfl) (by simp [setU, f14, f17] <;> omega)
                · intro u w2 hb hF J K hJ hK
                  have HB2 := Lib.hid hb
                  have HF := Lib.hid hF
                  clear hb hF
                  have f14 : u 14 = .bool false := HF.out 14 (by decide)
                  have f16 : u 16 = .int .i64 (i : Int) := HF.out 16 (by decide)
                  have f18 : u 18 = .pointer (some ⟨gp, 0, none⟩) := HF.out 18 (by decide)
                  go_wp2
                  exact hJ _ _ _ (Below.refl _ _) (rfl) (by simp [setU, f14, f16, f18] <;> omega)
                · intro u w2 hb hF J K hJ hK
                  have HB2 := Lib.hid hb
                  have HF := Lib.hid hF
                  clear hb hF
                  have f14 : u 14 = .bool false := HF.out 14 (by decide)
                  have f19 : u 19 = .pointer (some ⟨gp, i, none⟩) := HF.out 19 (by decide)
                  have qc := (HCL.out w2 (ext_trans HB7.out HB2.out)).1
                  go_wp2
                  exact hJ _ _ _ (Below.refl _ _) (rfl) (by simp [setU, f14, f19] <;> omega)
                · intro u w2 hb hF J K hJ hK
                  have HB2 := Lib.hid hb
                  have HF := Lib.hid hF
                  clear hb hF
                  have f14 : u 14 = .bool false := HF.out 14 (by decide)
                  have f20 : u 20 = pv := HF.out 20 (by decide)
                  go_wp2_with fail
                  refine (HEP.out w2 (ext_trans HB7.out HB2.out)).mono ?_
                  rintro e w4 ⟨rfl, hb4⟩
                  have HB4 := Lib.hid hb4
                  clear hb4
                  go_wp2
                  exact hJ _ _ _ (HB4.out) (rfl) (by simp [setU, f14, f20] <;> omega)
                · intro u w2 hb hF J K hJ hK
                  have HB2 := Lib.hid hb
                  have HF := Lib.hid hF
                  clear hb hF
                  have f14 : u 14 = .bool false := HF.out 14 (by decide)
                  go_wp2
                  exact hJ _ _ _ (Below.refl _ _) (rfl) (by simp [setU, f14] <;> omega)
                · intro u w2 hb hF J K hJ hK
                  have HB2 := Lib.hid hb
                  have HF := Lib.hid hF
                  clear hb hF
                  have f14 : u 14 = .bool false := HF.out 14 (by decide)
                  go_wp2
                  exact hJ _ _ _ (Below.refl _ _) (rfl) (by simp [setU, f14] <;> omega)
                · intro u w2 hb hF J K hJ hK
                  have HB2 := Lib.hid hb
                  have HF := Lib.hid hF
                  clear hb hF
                  have f14 : u 14 = .bool false := HF.out 14 (by decide)
                  have f22 : u 22 = .pointer (some ⟨gq, 0, none⟩) := HF.out 22 (by decide)
                  go_wp2
                  exact hJ _ _ _ (Below.refl _ _) (rfl) (by simp [setU, f14, f22] <;> omega)
                · intro u w2 hb hF J K hJ hK
                  have HB2 := Lib.hid hb
                  have HF := Lib.hid hF
                  clear hb hF
                  have f14 : u 14 = .bool false := HF.out 14 (by decide)
                  have f24 : u 24 = .pointer (some ⟨gq, 0, none⟩) := HF.out 24 (by decide)
                  go_wp2
                  exact hJ _ _ _ (Below.refl _ _) (rfl) (by simp [setU, f14, f24] <;> omega)
                · intro u w2 hb hF J K hJ hK
                  have HB2 := Lib.hid hb
                  have HF := Lib.hid hF
                  clear hb hF
                  have f14 : u 14 = .bool false := HF.out 14 (by decide)
                  have f23 : u 23 = .int .i64 (i : Int) := HF.out 23 (by decide)
                  have f25 : u 25 = .pointer (some ⟨gq, 0, none⟩) := HF.out 25 (by decide)
                  go_wp2
                  exact hJ _ _ _ (Below.refl _ _) (rfl) (by simp [setU, f14, f23, f25] <;> omega)
                · intro u w2 hb hF J K hJ hK
                  have HB2 := Lib.hid hb
                  have HF := Lib.hid hF
                  clear hb hF
                  have f14 : u 14 = .bool false := HF.out 14 (by decide)
                  have f26 : u 26 = .pointer (some ⟨gq, i, none⟩) := HF.out 26 (by decide)
                  have qc := (HCL.out w2 (ext_trans HB7.out HB2.out)).2.2.2.1
                  go_wp2
                  exact hJ _ _ _ (Below.refl _ _) (rfl) (by simp [setU, f14, f26] <;> omega)
                · intro u w2 hb hF J K hJ hK
                  have HB2 := Lib.hid hb
                  have HF := Lib.hid hF
                  clear hb hF
                  have f14 : u 14 = .bool false := HF.out 14 (by decide)
                  have f27 : u 27 = qv := HF.out 27 (by decide)
                  go_wp2_with fail
                  refine (HEN.out w2 (ext_trans HB7.out HB2.out)).mono ?_
                  rintro e w4 ⟨rfl, hb4⟩
                  have HB4 := Lib.hid hb4
                  clear hb4
                  go_wp2
                  exact hJ _ _ _ (HB4.out) (rfl) (by simp [setU, f14, f27] <;> omega)
                · intro u w2 hb hF J K hJ hK
                  have HB2 := Lib.hid hb
                  have HF := Lib.hid hF
                  clear hb hF
                  have f14 : u 14 = .bool false := HF.out 14 (by decide)
                  have f21 : u 21 = .agg #[.int .i64 xa, .int .i64 xb, .int .i64 xc, .int .i64 xd, .int .i64 xe, .bool xf, .bool xg] := HF.out 21 (by decide)
                  have f28 : u 28 = .agg #[.int .i64 xa, .int .i64 xb, .int .i64 xc, .int .i64 xd, .int .i64 xe, .bool xf, .bool xg] := HF.out 28 (by decide)
                  have qc := end_neq_self xa xb xc xd xe xf xg w2
                  go_wp2
                  exact hJ _ _ _ (Below.refl _ _) (rfl) (by simp [setU, f14, f21, f28] <;> omega)
                · intro u w2 hb hF J K hJ hK
                  have HB2 := Lib.hid hb
                  have HF := Lib.hid hF
                  clear hb hF
                  have f14 : u 14 = .bool false := HF.out 14 (by decide)
                  have f29 : u 29 = .bool false := HF.out 29 (by decide)
                  go_wp2
                  exact hJ _ _ _ (Below.refl _ _) (rfl) (by simp [setU, f14, f29] <;> omega)
                · intro u w2 hb hF J K hJ hK
                  have HB2 := Lib.hid hb
                  have HF := Lib.hid hF
                  clear hb hF
                  have f30 : u 30 = .bool false := HF.out 30 (by decide)
                  go_wp2
                  exact hJ _ _ _ (Below.refl _ _) (rfl) (by simp [setU, f30] <;> omega)
                · intro u w2 hb hF J K hJ hK
                  have HB2 := Lib.hid hb
                  have HF := Lib.hid hF
                  clear hb hF
                  have f31 : u 31 = .bool false := HF.out 31 (by decide)
                  go_wp2
                  exact hJ _ _ _ (Below.refl _ _) (rfl) (by simp [setU, f31] <;> omega)
                · intro u w2 hb hF J K hJ hK
                  have HB2 := Lib.hid hb
                  have HF := Lib.hid hF
                  clear hb hF
                  have f31 : u 31 = .bool false := HF.out 31 (by decide)
                  go_wp2
                  exact hJ _ _ _ (Below.refl _ _) (rfl) (by simp [setU, f31] <;> omega)
                · intro u w2 hb hF J K hJ hK
                  have HB2 := Lib.hid hb
                  have HF := Lib.hid hF
                  clear hb hF
                  have f31 : u 31 = .bool false := HF.out 31 (by decide)
                  have f32 : u 32 = .pointer (some ⟨gp, 0, none⟩) := HF.out 32 (by decide)
                  go_wp2
                  exact hJ _ _ _ (Below.refl _ _) (rfl) (by simp [setU, f31, f32] <;> omega)
                · intro u w2 hb hF J K hJ hK
                  have HB2 := Lib.hid hb
                  have HF := Lib.hid hF
                  clear hb hF
                  have f31 : u 31 = .bool false := HF.out 31 (by decide)
                  have f34 : u 34 = .pointer (some ⟨gp, 0, none⟩) := HF.out 34 (by decide)
                  go_wp2
                  exact hJ _ _ _ (Below.refl _ _) (rfl) (by simp [setU, f31, f34] <;> omega)
                · intro u w2 hb hF J K hJ hK
                  have HB2 := Lib.hid hb
                  have HF := Lib.hid hF
                  clear hb hF
                  have f31 : u 31 = .bool false := HF.out 31 (by decide)
                  have f33 : u 33 = .int .i64 (i : Int) := HF.out 33 (by decide)
                  have f35 : u 35 = .pointer (some ⟨gp, 7, none⟩) := HF.out 35 (by decide)
                  go_wp2
                  exact hJ _ _ _ (Below.refl _ _) (rfl) (by simp [setU, f31, f33, f35] <;> omega)
                · intro u w2 hb hF J K hJ hK
                  have HB2 := Lib.hid hb
                  have HF := Lib.hid hF
                  clear hb hF
                  have f31 : u 31 = .bool false := HF.out 31 (by decide)
                  have f36 : u 36 = .pointer (some ⟨gp, 7 + i, none⟩) := HF.out 36 (by decide)
                  have qc := (HCL.out w2 (ext_trans HB7.out HB2.out)).2.2.1
                  go_wp2
                  exact hJ _ _ _ (Below.refl _ _) (rfl) (by simp [setU, f31, f36] <;> omega)
                · intro u w2 hb hF J K hJ hK
                  have HB2 := Lib.hid hb
                  have HF := Lib.hid hF
                  clear hb hF
                  have f31 : u 31 = .bool false := HF.out 31 (by decide)
                  go_wp2
                  exact hJ _ _ _ (Below.refl _ _) (rfl) (by simp [setU, f31] <;> omega)
                · intro u w2 hb hF J K hJ hK
                  have HB2 := Lib.hid hb
                  have HF := Lib.hid hF
                  clear hb hF
                  have f31 : u 31 = .bool false := HF.out 31 (by decide)
                  go_wp2
                  exact hJ _ _ _ (Below.refl _ _) (rfl) (by simp [setU, f31] <;> omega)
                · intro u w2 hb hF J K hJ hK
                  have HB2 := Lib.hid hb
                  have HF := Lib.hid hF
                  clear hb hF
                  have f31 : u 31 = .bool false := HF.out 31 (by decide)
                  have f38 : u 38 = .pointer (some ⟨gq, 0, none⟩) := HF.out 38 (by decide)
                  go_wp2
                  exact hJ _ _ _ (Below.refl _ _) (rfl) (by simp [setU, f31, f38] <;> omega)
                · intro u w2 hb hF J K hJ hK
                  have HB2 := Lib.hid hb
                  have HF := Lib.hid hF
                  clear hb hF
                  have f31 : u 31 = .bool false := HF.out 31 (by decide)
                  have f40 : u 40 = .pointer (some ⟨gq, 0, none⟩) := HF.out 40 (by decide)
                  go_wp2
                  exact hJ _ _ _ (Below.refl _ _) (rfl) (by simp [setU, f31, f40] <;> omega)
                · intro u w2 hb hF J K hJ hK
                  have HB2 := Lib.hid hb
                  have HF := Lib.hid hF
                  clear hb hF
                  have f31 : u 31 = .bool false := HF.out 31 (by decide)
                  have f39 : u 39 = .int .i64 (i : Int) := HF.out 39 (by decide)
                  have f41 : u 41 = .pointer (some ⟨gq, 7, none⟩) := HF.out 41 (by decide)
                  go_wp2
                  exact hJ _ _ _ (Below.refl _ _) (rfl) (by simp [setU, f31, f39, f41] <;> omega)
                · intro u w2 hb hF J K hJ hK
                  have HB2 := Lib.hid hb
                  have HF := Lib.hid hF
                  clear hb hF
                  have f31 : u 31 = .bool false := HF.out 31 (by decide)
                  have f42 : u 42 = .pointer (some ⟨gq, 7 + i, none⟩) := HF.out 42 (by decide)
                  have qc := (HCL.out w2 (ext_trans HB7.out HB2.out)).2.2.2.2.2
                  go_wp2
                  exact hJ _ _ _ (Below.refl _ _) (rfl) (by simp [setU, f31, f42] <;> omega)
                · intro u w2 hb hF J K hJ hK
                  have HB2 := Lib.hid hb
                  have HF := Lib.hid hF
                  clear hb hF
                  have f31 : u 31 = .bool false := HF.out 31 (by decide)
                  have f37 : u 37 = rp := HF.out 37 (by decide)
                  have f43 : u 43 = rq := HF.out 43 (by decide)
                  go_wp2_with fail
                  refine (HBY.out w2 (ext_trans HB7.out HB2.out)).mono ?_
                  rintro e w4 ⟨rfl, rfl⟩
                  go_wp2
                  exact hJ _ _ _ (Below.refl _ _) (rfl) (by simp [setU, f31, f37, f43] <;> omega)
                · intro u w2 hb hF J K hJ hK
                  have HB2 := Lib.hid hb
                  have HF := Lib.hid hF
                  clear hb hF
                  have f31 : u 31 = .bool false := HF.out 31 (by decide)
                  have f44 : u 44 = .bool true := HF.out 44 (by decide)
                  go_wp2
                  exact hJ _ _ _ (Below.refl _ _) (rfl) (by simp [setU, f31, f44] <;> omega)
                · intro u w2 hb hF J K hJ hK
                  have HB2 := Lib.hid hb
                  have HF := Lib.hid hF
                  clear hb hF
                  have f31 : u 31 = .bool false := HF.out 31 (by decide)
                  have f45 : u 45 = .bool false := HF.out 45 (by decide)
                  go_wp2
                  exact hJ _ _ _ (Below.refl _ _) (rfl) (by simp [setU, f31, f45] <;> omega)
              · intro u w2 hb hF
                have HB2 := Lib.hid hb
                have f46 : u 46 = .bool false := hF 46 (by decide)
                clear hb hF
                have HB9 := Lib.hid (ext_trans HB7.out HB2.out)
                clear HB2 HCL HEQ HEP HEN HBY HB7
                dsimp only
                rw [f46]
                go_wp2_with fail
                go_roundg (gk - 1)
                case measure => omega
                case rel => exact ⟨i + 1, by first | rfl | (congr 1), by omega, Lib.hid (ext_trans HIN.out HB9.out)⟩
            · obtain rfl : i = 2 := by omega
              have HIV : Hid (Below w.heap.size w wr) := Lib.hid ((HSM.out.ext hinv.out).below)
              clear hinv HSM
              go_wp2_with fail
              refine (HAW.out _).mono ?_
              rintro e w6 ⟨rfl, hb⟩
              have HF := Lib.hid (ext_trans HIV.out hb)
              clear hb
              go_wp2_with fail
              go_ret
              exact ⟨rfl, HF.out⟩
end Go.Proofs.Ytjhnnnklfhbebaa
